/- sameCells, Copy. -/
import Derived.Test.Qxb6500772aXb
import Derived.Test.Qxb6500772aCl
import Derived.Test.Qxb6500772aMx
import Derived.Deep.LoopGhost
import Derived.Deep.RegionHeld3
import Derived.BigQuiet
namespace Go.Proofs.Qxb6500772a
open Go.RowKit Go.Qm
set_option linter.unusedVariables false
set_option linter.unusedSimpArgs false
attribute [local go_sem ↓] Go.wp_at_zero Go.wp_at_succ
set_option maxRecDepth 4000 in
set_option maxHeartbeats 4000000 in
/-- Two states that are alike. -/
theorem same_t {w : World} {sa ta : Option Addr} {sc tc : Nat} {l : List Nat} {b : Bool} (hs : Vs w (.slice sa l.length sc) l) (ht : Vs w (.slice ta l.length tc) l) (hl : l.length ≤ 1000000) :
    Calls Try.prog 13 #[.agg #[.slice sa l.length sc, .bool b], .agg #[.slice ta l.length tc, .bool b]] w fun e w' => e = .returned (.bool true) ∧ Keep w w' := by
  obtain ⟨_, _, e1, s1, s2⟩ := hs.form
  obtain ⟨_, _, e2, t1, t2⟩ := ht.form
  injection e1 with p1 p2 p3
  injection e2 with p4 p5 p6
  subst p1 p3 p4 p6
  clear p2 p5
  unfold maxLen at s2 t2
  obtain ⟨W, hW⟩ : ∃ W, W = (w.alloc (.cells #[.slice sa l.length sc, .bool b] 37)).alloc (.cells #[.slice ta l.length tc, .bool b] 37) := ⟨_, rfl⟩
  have kW : Keep w W := by rw [hW]; exact ((Keep.refl w).alloc _).alloc _
  have hz : (w.alloc (.cells #[.slice sa l.length sc, .bool b] 37)).heap.size = w.heap.size + 1 := by simp
  have a1 : Arr W w.heap.size 37 [.slice sa l.length sc, .bool b] := by rw [hW]; exact (Arr.new w 37 _).keep ((Keep.refl _).alloc _)
  have a2 : Arr W (w.heap.size + 1) 37 [.slice ta l.length tc, .bool b] := by rw [hW, ← hz]; exact Arr.new _ 37 _
  have x0 : W.cell? ⟨w.heap.size, 0, none⟩ = some (.slice sa l.length sc) := a1.cell 0
  have x1 : W.cell? ⟨w.heap.size, 1, none⟩ = some (.bool b) := a1.cell 1
  have y0 : W.cell? ⟨w.heap.size + 1, 0, none⟩ = some (.slice ta l.length tc) := a2.cell 0
  have y1 : W.cell? ⟨w.heap.size + 1, 1, none⟩ = some (.bool b) := a2.cell 1
  have HS := Hid.mk (Sl.keep hs kW)
  have HT := Hid.mk (Sl.keep ht kW)
  have HK := Hid.mk kW
  have li : (l.length : Int) ≤ 1000000 := by omega
  have ng1 : ((l.length : Int) != (l.length : Int)) = false := by simp
  have ng2 : (b != b) = false := by simp
  clear kW a1 a2 hz hs ht
  go_enter Try.func13, Try.ntmps13
  go_upto_region 1 with fail
  rw [← hW]
  generalize w.heap.size = g1 at *
  generalize g1 + 1 = g2 at *
  clear hW
  cases b
  all_goals
    go_wp2_with fail
    go_loopg [23] l.length (fun gk v23 wr => ∃ (k : Nat), k + gk = l.length ∧ v23 = .int .i64 k ∧ Keep W wr)
    case atStart => exact ⟨0, by omega, rfl, Keep.refl W⟩
    case round =>
      obtain ⟨k, hk, rfl, kp⟩ := hrel
      have HKK := Hid.mk hk
      have HKP := Hid.mk kp
      have x0' := kp.cell x0
      have y0' := kp.cell y0
      clear hk x0 y0 x1 y1
      by_cases hlt : k < l.length
      · have j1 : (k : Int) < l.length := by omega
        have j2 : (0 : Int) ≤ k := by omega
        obtain ⟨sb, so, hsa, c1⟩ := Vs.cell (Sl.keep HS.out kp) hlt
        obtain ⟨tb, to', hta, c2⟩ := Vs.cell (Sl.keep HT.out kp) hlt
        subst hsa hta
        generalize l[k] = x at *
        clear kp
        go_wp2_with fail
        go_quiet (fail)
        go_wp2_with fail
        go_roundg (gk - 1)
        case measure => have := HKK.out; omega
        case rel => exact ⟨k + 1, by have := HKK.out; omega, by go_num, HKP.out.drewN _⟩
      · have j1 : ¬ (k : Int) < l.length := by omega
        go_wp2_with fail
        go_ret
        exact ⟨rfl, HK.out.trans HKP.out⟩
theorem Own.isl {B : Nat} {e : TypeId} {w : World} {v : Value} {xs : List Value} (h : Own B e w v xs) : ∃ a m c, v = .slice a m c := by
  rcases h.form with ⟨rfl, -⟩ | ⟨g, cap, sp, rfl, -⟩
  · exact ⟨none, 0, 0, rfl⟩
  · exact ⟨_, _, _, rfl⟩
/-- A fresh state. -/
def NewS (B : Nat) (w : World) (S : PS) (e : Ending) : Prop := ∃ v, e = .returned (.agg #[v, .bool S.fault]) ∧ Own B 28 w v (S.cells.map uv)
set_option maxRecDepth 4000 in
set_option maxHeartbeats 4000000 in
theorem copy_c {w : World} {sa : Option Addr} {sc : Nat} {l : List Nat} {b : Bool} (hs : Vs w (.slice sa l.length sc) l) (hl : l.length ≤ 1000000) :
    Calls Try.prog 11 #[.agg #[.slice sa l.length sc, .bool b]] w fun e w' => NewS w.heap.size w' ⟨l, b⟩ e ∧ Keep w w' := by
  obtain ⟨_, _, e1, s1, s2⟩ := hs.form
  injection e1 with p1 p2 p3
  subst p1 p3
  clear p2
  unfold maxLen at s2
  obtain ⟨W, hW⟩ : ∃ W, W = (w.alloc (.cells #[.slice sa l.length sc, .bool b] 37)).alloc (.cells #[.slice none 0 0, .bool false] 37) := ⟨_, rfl⟩
  have kW : Keep w W := by rw [hW]; exact ((Keep.refl w).alloc _).alloc _
  have hz : (w.alloc (.cells #[.slice sa l.length sc, .bool b] 37)).heap.size = w.heap.size + 1 := by simp
  have a1 : Arr W w.heap.size 37 [.slice sa l.length sc, .bool b] := by rw [hW]; exact (Arr.new w 37 _).keep ((Keep.refl _).alloc _)
  have a2 : Arr W (w.heap.size + 1) 37 [.slice none 0 0, .bool false] := by rw [hW, ← hz]; exact Arr.new _ 37 _
  have sW : W.heap.size = w.heap.size + 2 := by rw [hW]; simp
  have x0 : W.cell? ⟨w.heap.size, 0, none⟩ = some (.slice sa l.length sc) := a1.cell 0
  have x1 : W.cell? ⟨w.heap.size, 1, none⟩ = some (.bool b) := a1.cell 1
  obtain ⟨V, hV⟩ : ∃ V, V = W.alloc (.cells #[.slice none 0 0, .bool b] 37) := ⟨_, rfl⟩
  have kV : Keep W V := by rw [hV]; exact (Keep.refl W).alloc _
  have a3 : Arr V W.heap.size 37 [.slice none 0 0, .bool b] := by rw [hV]; exact Arr.new W 37 _
  have x0V : V.cell? ⟨w.heap.size, 0, none⟩ = some (.slice sa l.length sc) := (a1.keep kV).cell 0
  have HS := Hid.mk (Sl.keep (Sl.keep hs kW) kV)
  have HS2 : Hid (∀ Z, Keep w Z → Vs Z (.slice sa l.length sc) l) := Hid.mk (fun Z kz => Sl.keep hs kz)
  have HK := Hid.mk (kW.trans kV)
  have HA2 := Hid.mk (a2.keep kV)
  have HA3 := Hid.mk a3
  have li : (l.length : Int) ≤ 1000000 := by omega
  have sz3 := a3.lt
  have HSZ : Hid (w.heap.size + 2 = W.heap.size ∧ W.heap.size < V.heap.size) := Hid.mk ⟨by omega, sz3⟩
  clear kW kV a1 a2 a3 hz hs sz3 sW
  go_enter Try.func11, Try.ntmps11
  go_upto_region 1 with fail
  rw [← hW]
  clear hW
  obtain ⟨g0, hg0⟩ : ∃ g0, g0 = w.heap.size := ⟨_, rfl⟩
  rw [← hg0] at x0 x1 x0V HA2 HSZ ⊢
  obtain ⟨g2, hg2⟩ : ∃ g2, g2 = g0 + 1 := ⟨_, rfl⟩
  rw [← hg2] at HA2 ⊢
  have HG0 := Hid.mk hg0
  have HG2 := Hid.mk hg2
  clear hg0 hg2
  go_upto_region 2 with fail
  rw [← hV]
  clear hV x0 x1
  generalize W.heap.size = g3 at *
  go_wp2_with fail
  clear x0V
  go_loopg [12] l.length (fun gk v12 wr => ∃ (k : Nat) (v : Value), k + gk = l.length ∧ v12 = .int .i64 k ∧ Keep w wr ∧ Own w.heap.size 28 wr v ((l.take k).map uv) ∧ Arr wr g3 37 [v, .bool b] ∧ Arr wr g2 37 [.slice none 0 0, .bool false] ∧ (∀ q, v.ownBlock = some q → V.heap.size ≤ q) ∧ Vs wr (.slice sa l.length sc) l ∧ V.heap.size ≤ wr.heap.size)
  case atStart => exact ⟨0, _, by omega, rfl, HK.out, World.ownsRow_nil _ _ _ _, HA3.out, HA2.out, fun q a => by simp [Value.ownBlock] at a, HS.out, Nat.le_refl _⟩
  case round =>
    obtain ⟨k, v, hk, rfl, kp, ow, a3, a2, nv, vs, szv⟩ := hrel
    have HKK := Hid.mk hk
    have HKP := Hid.mk kp
    have HOW := Hid.mk ow
    have HA3 := Hid.mk a3
    have HA2 := Hid.mk a2
    have HNV := Hid.mk nv
    have HVS := Hid.mk vs
    have HZV := Hid.mk szv
    clear hk kp ow a2 nv szv
    by_cases hlt : k < l.length
    · have j1 : (k : Int) < l.length := by omega
      have j2 : (0 : Int) ≤ k := by omega
      obtain ⟨sb, so, hsa, c1⟩ := Vs.cell vs hlt
      subst hsa
      have HTK : Hid ((l.take (k + 1)).map uv = (l.take k).map uv ++ [uv l[k]]) := Hid.mk (by rw [List.take_succ_eq_append_getElem hlt, List.map_append]; rfl)
      generalize l[k] = x at *
      have y0 : wr.cell? ⟨g3, 0, none⟩ = some v := a3.cell 0
      have hle : ((l.take k).map uv).length ≤ 1000000 := by rw [List.length_map, List.length_take]; omega
      have hle2 : ((l.take k).map uv).length ≤ 1000000 := hle
      have HLE := Hid.mk hle
      clear vs a3 hle hle2
      go_wp2_with (at_builtin; refine wpList_app (by rfl) _ _ _ (by rfl) Try.underlying35 inf28 rfl w.heap.size (HOW.out.alloc _) (Sl.one (uv x)) (fun u hu => by rw [List.mem_singleton.1 hu]; rfl) (by rfl) (by rfl) (by have := HLE.out; simp only [maxLen, List.length_singleton]; omega) (by have := HLE.out; simp only [List.length_singleton]; omega) (by have := HKP.out.size; simp; omega) ?_; intro v' w2 ho2 hg2 hb2; have F2 : Fr (fun q => v.ownBlock = some q) (wr.alloc (.cells #[uv x] 28)) w2 := Fr.grown hg2 (fun k e => e); have HA32 := Hid.mk (F2.arr (fun e => by have := HNV.out g3 e; have := HSZ.out; omega) (HA3.out.keep ((Keep.refl wr).alloc _))); have HA22 := Hid.mk (F2.arr (fun e => by have := HNV.out g2 e; have := HSZ.out; have := HG2.out; omega) (HA2.out.keep ((Keep.refl wr).alloc _))); have c2 : w2.cell? ⟨g3, 0, none⟩ = some v := HA32.out.cell 0; have f2 := HA32.out.frozen 0; have HO2 := Hid.mk ho2; have HB2 := Hid.mk hb2; have HG2' := Hid.mk hg2; have HF2 := Hid.mk F2; obtain ⟨va, vm, vc, hv'⟩ := Own.isl ho2; subst hv'; clear ho2 hg2 hb2 F2 y0)
      clear c2 f2
      have hnv : ∀ q, (Value.slice va vm vc).ownBlock = some q → V.heap.size ≤ q := fun q a => by
        rcases HB2.out with e | e
        · exact HNV.out q (by rw [← e]; exact a)
        · rw [e] at a
          have h1 := Option.some.inj a
          rw [← h1]
          exact Nat.le_trans HZV.out ((Keep.refl wr).alloc _).size
      have HNV2 := Hid.mk hnv
      have fS : Fr (fun q => q = g3) w2 (w2.setCell ⟨g3, 0, none⟩ (.slice va vm vc)) := Fr.setCell (p := ⟨g3, 0, none⟩) (Fr.refl (fun q => q = g3) w2) (Or.inl rfl) _
      have HFS := Hid.mk fS
      have HK2 : Hid (Keep w (w2.setCell ⟨g3, 0, none⟩ (.slice va vm vc))) := Hid.mk (((HKP.out.alloc _).grown HG2'.out (fun q e => by have := HNV.out q e; have := HSZ.out; have := HG0.out; omega)).setCell (p := ⟨g3, 0, none⟩) (by show w.heap.size ≤ g3; have := HSZ.out; have := HG0.out; omega) _)
      clear hnv fS
      go_roundg (gk - 1)
      case measure => have := HKK.out; omega
      case rel =>
        refine ⟨k + 1, .slice va vm vc, by have := HKK.out; omega, by go_num, HK2.out, ?_, HA32.out.set 0 _, HFS.out.arr (fun e => by have := HSZ.out; have := HG2.out; omega) HA22.out, HNV2.out, ?_, ?_⟩
        · rw [HTK.out]
          exact HO2.out.fr HFS.out (fun q hq e => by have := HNV2.out q hq; have := HSZ.out; have : q = g3 := e; omega)
        · exact HS2.out _ HK2.out
        · exact Nat.le_trans HZV.out (Nat.le_trans ((Keep.refl wr).alloc (.cells #[uv x] 28)).size (Nat.le_trans HF2.out.size HFS.out.size))
    · have j1 : ¬ (k : Int) < l.length := by omega
      obtain rfl : k = l.length := by have := HKK.out; omega
      obtain ⟨va, vm, vc, hv'⟩ := Own.isl HOW.out
      subst hv'
      have r0 : wr.cell? ⟨g3, 0, none⟩ = some (.slice va vm vc) := a3.cell 0
      have r1 : wr.cell? ⟨g3, 1, none⟩ = some (.bool b) := a3.cell 1
      have r2 : wr.cell? ⟨g2, 0, none⟩ = some (.slice none 0 0) := HA2.out.cell 0
      have r3 : wr.cell? ⟨g2, 1, none⟩ = some (.bool false) := HA2.out.cell 1
      have r4 := HA2.out.frozen 0
      have r5 := HA2.out.frozen 1
      clear a3 vs
      go_wp2_with fail
      have A9 := (HA2.out.set 0 (.slice va vm vc)).set 1 (.bool b)
      have q0 := A9.cell 0
      have q1 := A9.cell 1
      simp only [List.set_cons_zero, List.set_cons_succ, List.getElem?_cons_zero, List.getElem?_cons_succ] at q0 q1
      have hge : w.heap.size ≤ g2 := by have := HG2.out; have := HG0.out; omega
      refine bodyPost_ret (v := .agg #[.slice va vm vc, .bool b]) (by simp [results, Try.results11, go_sem, q0, q1]) rfl ?_
      refine ⟨⟨_, rfl, ?_⟩, (HKP.out.setCell (p := ⟨g2, 0, none⟩) hge _).setCell (p := ⟨g2, 1, none⟩) hge _⟩
      have f9 : Fr (fun q => q = g2) wr ((wr.setCell ⟨g2, 0, none⟩ (.slice va vm vc)).setCell ⟨g2, 1, none⟩ (.bool b)) := Fr.setCell (P := fun q => q = g2) (p := ⟨g2, 1, none⟩) (Fr.setCell (P := fun q => q = g2) (p := ⟨g2, 0, none⟩) (Fr.refl _ wr) (Or.inl rfl) _) (Or.inl rfl) _
      have h9 := HOW.out
      rw [List.take_length] at h9
      exact h9.fr f9 (fun q hq e => by have := HNV.out q hq; have := HSZ.out; have := HG2.out; have : q = g2 := e; omega)
end Go.Proofs.Qxb6500772a
