/- interpm: Initial. -/
import Derived.Test.Qxb6500772aIa
import Derived.Test.Qxb6500772aTc
namespace Go.Proofs.Qxb6500772a
open Go Go.RowKit Go.Qm
set_option linter.unusedVariables false
set_option linter.unusedSimpArgs false
attribute [local go_sem ↓] Go.wp_at_zero Go.wp_at_succ
def inis (cels : List Cel) : List Nat := cels.map (·.ini)
set_option maxRecDepth 4000 in
set_option maxHeartbeats 4000000 in
theorem iniM_c {P : Nat → Prop} {w : World} {cels : List Cel} {cv bv kv : Value} {f : EF} (hcl : cels.length ≤ 1000000) (hc : CsW P w cv cels) (hbv : isSl bv) (hkv : isSl kv) :
    Calls Try.prog 18 #[prA cv bv f kv] w fun e w' => NewS w.heap.size w' ⟨inis cels, false⟩ e ∧ Keep w w' ∧ w.heap.size < w'.heap.size := by
  obtain ⟨pa, pc, rfl, pc1, pc2⟩ := hc.form
  obtain ⟨ba, bm, bc, rfl⟩ := hbv
  obtain ⟨ka, km, kc, rfl⟩ := hkv
  unfold maxLen at pc2
  simp only [prA]
  obtain ⟨W, hW⟩ : ∃ W, W = (w.alloc (.cells #[.slice pa cels.length pc, .slice ba bm bc, .int .i64 f.k, .int .i64 f.w, .int .i64 f.o, .int .u64 (f.v : Nat), .int .i64 f.c, .int .i64 f.l, .slice ka km kc] 33)).alloc (.cells #[.slice none 0 0, .bool false] 37) := ⟨_, rfl⟩
  have kW : Keep w W := by rw [hW]; exact ((Keep.refl w).alloc _).alloc _
  have hz : (w.alloc (.cells #[.slice pa cels.length pc, .slice ba bm bc, .int .i64 f.k, .int .i64 f.w, .int .i64 f.o, .int .u64 (f.v : Nat), .int .i64 f.c, .int .i64 f.l, .slice ka km kc] 33)).heap.size = w.heap.size + 1 := by simp
  have a1 : Arr W w.heap.size 33 [.slice pa cels.length pc, .slice ba bm bc, .int .i64 f.k, .int .i64 f.w, .int .i64 f.o, .int .u64 (f.v : Nat), .int .i64 f.c, .int .i64 f.l, .slice ka km kc] := by rw [hW]; exact (Arr.new w 33 _).keep ((Keep.refl _).alloc _)
  have a2 : Arr W (w.heap.size + 1) 37 [.slice none 0 0, .bool false] := by rw [hW, ← hz]; exact Arr.new _ 37 _
  have sW : W.heap.size = w.heap.size + 2 := by rw [hW]; simp
  obtain ⟨V, hV⟩ : ∃ V, V = W.alloc (.cells #[.slice none 0 0, .bool false] 37) := ⟨_, rfl⟩
  have kV : Keep W V := by rw [hV]; exact (Keep.refl W).alloc _
  have a3 : Arr V W.heap.size 37 [.slice none 0 0, .bool false] := by rw [hV]; exact Arr.new W 37 _
  have x0V : V.cell? ⟨w.heap.size, 0, none⟩ = some (.slice pa cels.length pc) := (a1.keep kV).cell 0
  have HC := Hid.mk hc
  have HK := Hid.mk (kW.trans kV)
  have HA2 := Hid.mk (a2.keep kV)
  have HA3 := Hid.mk a3
  have li : (cels.length : Int) ≤ 1000000 := by omega
  have sz3 := a3.lt
  have HSZ : Hid (w.heap.size + 2 = W.heap.size ∧ W.heap.size < V.heap.size) := Hid.mk ⟨by omega, sz3⟩
  have HIL : Hid ((inis cels).length = cels.length) := Hid.mk (by simp [inis])
  clear kW kV a1 a2 a3 hz hc sz3 sW
  go_enter Try.func18, Try.ntmps18
  go_upto_region 1 with fail
  rw [← hW]
  clear hW
  obtain ⟨g0, hg0⟩ : ∃ g0, g0 = w.heap.size := ⟨_, rfl⟩
  rw [← hg0] at x0V HA2 HSZ ⊢
  obtain ⟨g2, hg2⟩ : ∃ g2, g2 = g0 + 1 := ⟨_, rfl⟩
  rw [← hg2] at HA2 ⊢
  have HG0 := Hid.mk hg0
  have HG2 := Hid.mk hg2
  clear hg0 hg2
  go_upto_region 2 with fail
  rw [← hV]
  clear hV
  generalize W.heap.size = g3 at *
  go_wp2_with fail
  clear x0V
  go_loopg [10] cels.length (fun gk v10 wr => ∃ (k : Nat) (v : Value), k + gk = cels.length ∧ v10 = .int .i64 k ∧ Keep w wr ∧ Own w.heap.size 28 wr v (((inis cels).take k).map uv) ∧ Arr wr g3 37 [v, .bool false] ∧ Arr wr g2 37 [.slice none 0 0, .bool false] ∧ (∀ q, v.ownBlock = some q → V.heap.size ≤ q) ∧ V.heap.size ≤ wr.heap.size)
  case atStart => exact ⟨0, _, by omega, rfl, HK.out, World.ownsRow_nil _ _ _ _, HA3.out, HA2.out, fun q a => by simp [Value.ownBlock] at a, Nat.le_refl _⟩
  case round =>
    obtain ⟨k, v, hk, rfl, kp, ow, a3, a2, nv, szv⟩ := hrel
    have HKK := Hid.mk hk
    have HKP := Hid.mk kp
    have HOW := Hid.mk ow
    have HA3 := Hid.mk a3
    have HA2 := Hid.mk a2
    have HNV := Hid.mk nv
    have HZV := Hid.mk szv
    clear hk ow a2 nv szv
    by_cases hlt : k < cels.length
    · have j1 : (k : Int) < cels.length := by omega
      have j2 : (0 : Int) ≤ k := by omega
      obtain ⟨cb, co, hca, hcel⟩ := (HC.out.step (KP.of kp)).cell hlt
      subst hca
      have c0 := hcel 0 (by decide)
      have c1 := hcel 1 (by decide)
      have c2 := hcel 2 (by decide)
      have c3 := hcel 3 (by decide)
      have c4 := hcel 4 (by decide)
      simp only [celC, List.getElem?_cons_zero, List.getElem?_cons_succ, Nat.add_zero] at c0 c1 c2 c3 c4
      have HTK : Hid (((inis cels).take (k + 1)).map uv = ((inis cels).take k).map uv ++ [uv cels[k].ini]) := Hid.mk (by rw [List.take_succ_eq_append_getElem (by rw [HIL.out]; exact hlt), List.map_append]; simp [inis])
      generalize cels[k] = x at *
      obtain ⟨Z, hZ⟩ : ∃ Z, Z = wr.alloc (.cells #[.int .i64 x.w, .bool x.inp, .int .u64 (x.ini : Nat), .int .i64 x.lo, .int .i64 x.hi] 70) := ⟨_, rfl⟩
      have kZ : Keep wr Z := by rw [hZ]; exact (Keep.refl wr).alloc _
      have aZ : Arr Z wr.heap.size 70 [.int .i64 x.w, .bool x.inp, .int .u64 (x.ini : Nat), .int .i64 x.lo, .int .i64 x.hi] := by rw [hZ]; exact Arr.new wr 70 _
      have z2 : Z.cell? ⟨wr.heap.size, 2, none⟩ = some (.int .u64 (x.ini : Nat)) := aZ.cell 2
      have HKZ := Hid.mk kZ
      have HZV2 : Hid (V.heap.size ≤ Z.heap.size) := Hid.mk (Nat.le_trans HZV.out kZ.size)
      have y0 : Z.cell? ⟨g3, 0, none⟩ = some v := (a3.keep kZ).cell 0
      have hle : (((inis cels).take k).map uv).length ≤ 1000000 := by rw [List.length_map, List.length_take]; omega
      have HLE := Hid.mk hle
      clear a3 hle hcel kp kZ aZ
      go_upto_region 5 with fail
      rw [← hZ]
      generalize wr.heap.size = gZ at *
      clear hZ c0 c1 c2 c3 c4
      generalize x.ini = xi at *
      go_wp2_with (at_builtin; refine wpList_app (by rfl) _ _ _ (by rfl) Try.underlying35 inf28 rfl w.heap.size ((HOW.out.keep HKZ.out).alloc _) (Sl.one (uv xi)) (fun u hu => by rw [List.mem_singleton.1 hu]; rfl) (by rfl) (by rfl) (by have := HLE.out; simp only [maxLen, List.length_singleton]; omega) (by have := HLE.out; simp only [List.length_singleton]; omega) (by have := (HKP.out.trans HKZ.out).size; simp; omega) ?_; intro v' w2 ho2 hg2 hb2; have F2 : Fr (fun q => v.ownBlock = some q) (Z.alloc (.cells #[uv xi] 28)) w2 := Fr.grown hg2 (fun k e => e); have HA32 := Hid.mk (F2.arr (fun e => by have := HNV.out g3 e; have := HSZ.out; omega) (HA3.out.keep (HKZ.out.alloc _))); have HA22 := Hid.mk (F2.arr (fun e => by have := HNV.out g2 e; have := HSZ.out; have := HG2.out; omega) (HA2.out.keep (HKZ.out.alloc _))); have c2 : w2.cell? ⟨g3, 0, none⟩ = some v := HA32.out.cell 0; have f2 := HA32.out.frozen 0; have HO2 := Hid.mk ho2; have HB2 := Hid.mk hb2; have HG2' := Hid.mk hg2; have HF2 := Hid.mk F2; obtain ⟨va, vm, vc, hv'⟩ := Own.isl ho2; subst hv'; clear ho2 hg2 hb2 F2 y0)
      clear c2 f2
      have hnv : ∀ q, (Value.slice va vm vc).ownBlock = some q → V.heap.size ≤ q := fun q a => by
        rcases HB2.out with e | e
        · exact HNV.out q (by rw [← e]; exact a)
        · rw [e] at a
          have h1 := Option.some.inj a
          rw [← h1]
          exact Nat.le_trans HZV2.out ((Keep.refl Z).alloc _).size
      have HNV2 := Hid.mk hnv
      have fS : Fr (fun q => q = g3) w2 (w2.setCell ⟨g3, 0, none⟩ (.slice va vm vc)) := Fr.setCell (p := ⟨g3, 0, none⟩) (Fr.refl (fun q => q = g3) w2) (Or.inl rfl) _
      have HFS := Hid.mk fS
      have HK2 : Hid (Keep w (w2.setCell ⟨g3, 0, none⟩ (.slice va vm vc))) := Hid.mk ((((HKP.out.trans HKZ.out).alloc _).grown HG2'.out (fun q e => by have := HNV.out q e; have := HSZ.out; have := HG0.out; omega)).setCell (p := ⟨g3, 0, none⟩) (by show w.heap.size ≤ g3; have := HSZ.out; have := HG0.out; omega) _)
      clear hnv fS
      go_roundg (gk - 1)
      case measure => have := HKK.out; omega
      case rel =>
        refine ⟨k + 1, .slice va vm vc, by have := HKK.out; omega, by go_num, HK2.out, ?_, HA32.out.set 0 _, HFS.out.arr (fun e => by have := HSZ.out; have := HG2.out; omega) HA22.out, HNV2.out, ?_⟩
        · rw [HTK.out]
          exact HO2.out.fr HFS.out (fun q hq e => by have := HNV2.out q hq; have := HSZ.out; have : q = g3 := e; omega)
        · exact Nat.le_trans HZV2.out (Nat.le_trans ((Keep.refl Z).alloc (.cells #[uv xi] 28)).size (Nat.le_trans HF2.out.size HFS.out.size))
    · have j1 : ¬ (k : Int) < cels.length := by omega
      obtain rfl : k = cels.length := by have := HKK.out; omega
      obtain ⟨va, vm, vc, hv'⟩ := Own.isl HOW.out
      subst hv'
      have r0 : wr.cell? ⟨g3, 0, none⟩ = some (.slice va vm vc) := a3.cell 0
      have r1 : wr.cell? ⟨g3, 1, none⟩ = some (.bool false) := a3.cell 1
      have r2 : wr.cell? ⟨g2, 0, none⟩ = some (.slice none 0 0) := HA2.out.cell 0
      have r3 : wr.cell? ⟨g2, 1, none⟩ = some (.bool false) := HA2.out.cell 1
      have r4 := HA2.out.frozen 0
      have r5 := HA2.out.frozen 1
      clear a3 kp
      go_wp2_with fail
      have A9 := (HA2.out.set 0 (.slice va vm vc)).set 1 (.bool false)
      have q0 := A9.cell 0
      have q1 := A9.cell 1
      simp only [List.set_cons_zero, List.set_cons_succ, List.getElem?_cons_zero, List.getElem?_cons_succ] at q0 q1
      have hge : w.heap.size ≤ g2 := by have := HG2.out; have := HG0.out; omega
      refine bodyPost_ret (v := .agg #[.slice va vm vc, .bool false]) (by simp [results, Try.results18, go_sem, q0, q1]) rfl ?_
      refine ⟨⟨_, rfl, ?_⟩, (HKP.out.setCell (p := ⟨g2, 0, none⟩) hge _).setCell (p := ⟨g2, 1, none⟩) hge _, by have h1 := HA2.out.lt; have h2 := HG2.out; have h3 := HG0.out; simp; omega⟩
      have f9 : Fr (fun q => q = g2) wr ((wr.setCell ⟨g2, 0, none⟩ (.slice va vm vc)).setCell ⟨g2, 1, none⟩ (.bool false)) := Fr.setCell (P := fun q => q = g2) (p := ⟨g2, 1, none⟩) (Fr.setCell (P := fun q => q = g2) (p := ⟨g2, 0, none⟩) (Fr.refl _ wr) (Or.inl rfl) _) (Or.inl rfl) _
      have h9 := HOW.out
      rw [← HIL.out, List.take_length] at h9
      exact h9.fr f9 (fun q hq e => by have := HNV.out q hq; have := HSZ.out; have := HG2.out; have : q = g2 := e; omega)
end Go.Proofs.Qxb6500772a
