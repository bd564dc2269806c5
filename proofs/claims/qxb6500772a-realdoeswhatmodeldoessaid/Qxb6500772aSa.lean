/- blastlaw: apply. -/
import Derived.Test.Qxb6500772aGg
import Derived.Test.Qxb6500772aXb
import Derived.Test.Qxb6500772aBa
import Derived.Deep.LoopGhost
import Derived.Deep.RegionHeld3
import Derived.BigQuiet
namespace Go.Proofs.Qxb6500772a
open Go Go.RowKit Go.Qm
set_option linter.unusedVariables false
set_option linter.unusedSimpArgs false
attribute [local go_sem ↓] Go.wp_at_zero Go.wp_at_succ
theorem Fr.cellq {R : Nat → Prop} {a b : World} (f : Fr R a b) {p : Addr} {v : Value} (hp : ¬ R p.block) (h : a.cell? p = some v) : b.cell? p = some v := by
  have hl : p.block < a.heap.size := by
    unfold World.cell? at h
    cases e : a.heap[p.block]? with
    | none => rw [e] at h; simp at h
    | some ob => exact blk_lt e
  have := f.block p.block hl hp
  unfold World.cell? at h ⊢
  rw [this]
  exact h
/-- The cells of a state in their own block. -/
structure Cl (w : World) (gC : Nat) (ca : Option Addr) (cap : Nat) (sp : List Value) (l : List Nat) : Prop where
  ce : 0 < l.length → ca = some ⟨gC, 0, none⟩ ∧ Arr w gC 28 (l.map uv ++ sp)
  le : l.length ≤ cap
  mx : cap ≤ maxLen
theorem Cl.fr {w w' : World} {gC : Nat} {ca : Option Addr} {cap : Nat} {sp : List Value} {l : List Nat} (h : Cl w gC ca cap sp l) {R : Nat → Prop} (f : Fr R w w') (hr : ¬ R gC) : Cl w' gC ca cap sp l := ⟨fun x => ⟨(h.ce x).1, f.arr hr (h.ce x).2⟩, h.le, h.mx⟩
theorem Cl.put {w : World} {gC : Nat} {ca : Option Addr} {cap : Nat} {sp : List Value} {l : List Nat} (h : Cl w gC ca cap sp l) {i : Nat} (hi : i < l.length) (v : Nat) : Cl (w.setCell ⟨gC, i, none⟩ (.int .u64 ((v : Nat) : Int))) gC ca cap sp (l.set i v) := by
  refine ⟨fun x => ⟨(h.ce (by omega)).1, ?_⟩, by rw [List.length_set]; exact h.le, h.mx⟩
  have := (h.ce (by omega)).2.set i (.int .u64 ((v : Nat) : Int))
  rw [List.set_append_left _ _ (by rw [List.length_map]; exact hi)] at this
  rw [List.map_set]
  exact this
set_option maxRecDepth 4000 in
set_option maxHeartbeats 4000000 in
theorem apply_c {B : Nat} {P : Nat → Prop} {w : World} {cels : List Cel} {cv bv kb lv : Value} {f : EF} {gT o gC cap : Nat} {ca : Option Addr} {sp : List Value} {l : List Nat} {ps : List (Int × Nat)} (hcl : cels.length ≤ 1000000) (hcw : ∀ c ∈ cels, 1 ≤ c.w ∧ c.w ≤ 64) (hc : CsW P w cv cels) (hbv : isSl bv) (hkb : isSl kb) (hT : w.cell? ⟨gT, o, none⟩ = some (.slice ca l.length cap)) (hcells : Cl w gC ca cap sp l) (hok : StOK (cels.map (·.w)) ⟨l, false⟩) (hp : OwnS paC 2 129 B w lv ps) (hpr : ∀ p ∈ ps, I64 p.1 ∧ p.2 < 2 ^ 64) (hpl : ps.length ≤ 1000000) (n1 : gC ≠ gT) (n2 : ¬ P gC) (n3 : lv.ownBlock ≠ some gC) (hlt : gC < w.heap.size) :
    Calls Try.prog 24 #[prA cv bv f kb, .pointer (some ⟨gT, o, none⟩), lv] w fun e w' => e = .returned (.tuple #[]) ∧ ∃ l', l'.length = l.length ∧ StOK (cels.map (·.w)) ⟨l', false⟩ ∧ Cl w' gC ca cap sp l' ∧ Fr (fun q => q = gC) w w' := by
  obtain ⟨ba, bn, bc, rfl⟩ := hbv
  obtain ⟨ka, kn, kc, rfl⟩ := hkb
  obtain ⟨pa, pc, hcv, cv1, cv2⟩ := hc.form
  subst hcv
  obtain ⟨la, lc, hlv⟩ : ∃ a c, lv = .slice a ps.length c := by
    rcases hp.form with ⟨rfl, rfl⟩ | ⟨g, cap', cur, rfl, -⟩
    · exact ⟨none, 0, rfl⟩
    · exact ⟨_, _, rfl⟩
  have hll : l.length = cels.length := by have := hok.1; simpa using this
  obtain ⟨W, hW⟩ : ∃ W, W = w.alloc (.cells #[.slice pa cels.length pc, .slice ba bn bc, .int .i64 f.k, .int .i64 f.w, .int .i64 f.o, .int .u64 (f.v : Nat), .int .i64 f.c, .int .i64 f.l, .slice ka kn kc] 33) := ⟨_, rfl⟩
  have kW : Keep w W := by rw [hW]; exact (Keep.refl w).alloc _
  have aB : Arr W w.heap.size 33 [.slice pa cels.length pc, .slice ba bn bc, .int .i64 f.k, .int .i64 f.w, .int .i64 f.o, .int .u64 (f.v : Nat), .int .i64 f.c, .int .i64 f.l, .slice ka kn kc] := by rw [hW]; exact Arr.new w 33 _
  generalize hgB : w.heap.size = gB at aB
  have HLL := Hid.mk hll
  have HCW := Hid.mk hcw
  have HC := Hid.mk (hc.step (KP.of kW))
  have HTc := Hid.mk (kW.cell hT)
  have HCE := Hid.mk (hcells.fr (Fr.keep (P := fun _ => False) kW) (fun a => a))
  have HOK := Hid.mk hok
  have HP := Hid.mk (hp.keep kW)
  have HPR := Hid.mk hpr
  have HAB := Hid.mk aB
  have HKW := Hid.mk kW
  have HN2 := Hid.mk n2
  have HLV := Hid.mk hlv
  have HNB : Hid (gB ≠ gC) := Hid.mk (by omega)
  have HLT : Hid (gC < W.heap.size ∧ gB < W.heap.size) := Hid.mk ⟨Nat.lt_of_lt_of_le hlt kW.size, aB.lt⟩
  have HN1 := Hid.mk n1
  have HN3 := Hid.mk n3
  have hpi : (ps.length : Int) ≤ 1000000 := by omega
  have hci : (cels.length : Int) ≤ 1000000 := by omega
  unfold maxLen at cv2
  have hpci : (pc : Int) ≤ 9223372036854775807 := by omega
  have lvs := hlv
  rw [hlv]
  simp only [prA]
  clear hc hT hcells hok hp hpr hcw kW aB n1 n2 n3 hlt hll hlv cv1 cv2 lvs
  go_enter Try.func24, Try.ntmps24
  go_upto_region 1 with fail
  rw [← hW]
  clear hW hgB
  go_wp2_with fail
  go_loopg [10] ps.length (fun gk v10 wr => ∃ (k : Nat) (l' : List Nat), k + gk = ps.length ∧ v10 = .int .i64 k ∧ l'.length = l.length ∧ StOK (cels.map (·.w)) ⟨l', false⟩ ∧ Cl wr gC ca cap sp l' ∧ Fr (fun q => q = gC) W wr)
  case atStart => exact ⟨0, l, by omega, rfl, rfl, HOK.out, HCE.out, Fr.refl _ _⟩
  case round =>
    obtain ⟨k, l', hk, rfl, hl', hok', ce', fr'⟩ := hrel
    have HKK := Hid.mk hk
    have HL' := Hid.mk hl'
    have HOK' := Hid.mk hok'
    have HCE' := Hid.mk ce'
    have HFR := Hid.mk fr'
    clear hk hl' hok' ce' fr'
    by_cases hlt : k < ps.length
    · have j1 : (k : Int) < ps.length := by omega
      have j2 : (0 : Int) ≤ k := by omega
      have hpw := HP.out.fr HFR.out (fun q hq e => HN3.out (by rw [hq, show q = gC from e]))
      rcases hpw.form with ⟨-, e0⟩ | ⟨gp, pcap, cur, elv, -, hA, -, -, -, h4⟩
      · rw [e0] at hlt; simp at hlt
      have elv2 := HLV.out.symm.trans elv
      injection elv2 with e1 e2 e3
      subst e1
      have p0 := (hA.cell (k * 2 + 0)).trans (flat_take_get paC_len h4 k 0 hlt (by decide))
      have p1 := (hA.cell (k * 2 + 1)).trans (flat_take_get paC_len h4 k 1 hlt (by decide))
      simp only [paC, List.getElem?_cons_zero, List.getElem?_cons_succ, Nat.add_zero] at p0 p1
      have hpx := HPR.out ps[k] (List.getElem_mem hlt)
      generalize ps[k] = px at *
      obtain ⟨pi, pv⟩ := px
      simp only at p0 p1 hpx
      have HPX := Hid.mk hpx
      obtain ⟨V, hV⟩ : ∃ V, V = wr.alloc (.cells #[.int .i64 pi, .int .u64 ((pv : Nat) : Int)] 129) := ⟨_, rfl⟩
      have kV : Keep wr V := by rw [hV]; exact (Keep.refl wr).alloc _
      have aV : Arr V wr.heap.size 129 [.int .i64 pi, .int .u64 ((pv : Nat) : Int)] := by rw [hV]; exact Arr.new wr 129 _
      generalize hgV : wr.heap.size = gV at aV
      have n5 : gC ≠ gV := by have := HLT.out.1; have := HFR.out.size; omega
      have HN5 := Hid.mk n5
      clear n5
      have x0 : V.cell? ⟨gV, 0, none⟩ = some (.int .i64 pi) := aV.cell 0
      have x1 : V.cell? ⟨gV, 1, none⟩ = some (.int .u64 ((pv : Nat) : Int)) := aV.cell 1
      have aB2 := (HFR.out.arr HNB.out HAB.out).keep kV
      have y0 : V.cell? ⟨gB, 0, none⟩ = some (.slice pa cels.length pc) := aB2.cell 0
      have HKV := Hid.mk kV
      have HCE2 := Hid.mk (HCE'.out.fr (Fr.keep (P := fun _ => False) kV) (fun a => a))
      have HFR2 := Hid.mk (HFR.out.trans (Fr.keep (P := fun q => q = gC) kV))
      clear hpw elv hA h4 e2 e3 hpx kV aV aB2
      go_upto_region 4 with fail
      rw [← hV]
      clear p0 p1 hV hgV
      by_cases h0 : pi < 0
      · have e1 : ¬ (0 : Int) ≤ pi := by omega
        go_wp2_with fail
        go_roundg (gk - 1)
        case measure => have := HKK.out; omega
        case rel => exact ⟨k + 1, l', by have := HKK.out; omega, by go_num, HL'.out, HOK'.out, HCE2.out, HFR2.out⟩
      · obtain ⟨i, rfl⟩ : ∃ i : Nat, pi = i := ⟨pi.toNat, by omega⟩
        have e1 : (0 : Int) ≤ (i : Int) := by omega
        by_cases h1 : i < cels.length
        · have e2 : (i : Int) < cels.length := by omega
          have hil : i < l'.length := by rw [HL'.out, HLL.out]; exact h1
          obtain ⟨hca, arC⟩ := HCE2.out.ce (by omega)
          have hlx : l'.length = cels.length := by rw [HL'.out, HLL.out]
          have cT : V.cell? ⟨gT, o, none⟩ = some (.slice (some ⟨gC, 0, none⟩) cels.length cap) := by
            rw [← hca, ← HLL.out]
            have hTb := HTc.out
            rcases (show ∃ u, W.cell? ⟨gT, o, none⟩ = some u from ⟨_, hTb⟩) with ⟨u, hu⟩
            exact HKV.out.cell ((Fr.cellq HFR.out (fun e => HN1.out (show gT = gC from e).symm) hTb))
          obtain ⟨uC, cC⟩ : ∃ uC, V.cell? ⟨gC, i, none⟩ = some uC := by
            refine ⟨uv l'[i], ?_⟩
            rw [arC.cell, List.getElem?_append_left (by rw [List.length_map]; exact hil), List.getElem?_map, List.getElem?_eq_getElem hil]
            rfl
          have fC := arC.frozen i
          obtain ⟨cb, co, hcb, hPb, -, hrow⟩ := Rows.cell (HC.out.step ((KP.fr HFR.out (fun q a e => HN2.out (by rw [← show q = gC from e]; exact a))).trans (KP.of HKV.out))) (i := i) (by simpa using h1)
          have m1 : gC ≠ cb := fun e => HN2.out (by rw [e]; exact hPb)
          have m2 : gC ≠ gT := HN1.out
          have m3 : gC ≠ gV := HN5.out
          have m4 : gC ≠ gB := fun e => HNB.out e.symm
          subst hcb
          have r0 := hrow 0 (by decide)
          have hwc := HCW.out cels[i] (List.getElem_mem h1)
          simp only [List.getElem_map, celC, List.getElem?_cons_zero, Nat.add_zero] at r0
          have hgw : (cels.map (·.w)).getD i 0 = cels[i].w := by simp [List.getD_eq_getElem?_getD, h1]
          obtain ⟨D, hD⟩ : ∃ D : Nat, cels[i].w = D := ⟨cels[i].w.toNat, by omega⟩
          rw [hD] at r0 hgw
          have hD64 : D ≤ 64 := by omega
          have LW := low_c pv D HPX.out.2 hD64
          have hm : pv % 2 ^ D < 2 ^ D := Nat.mod_lt _ (Nat.two_pow_pos D)
          have HLW := Hid.mk LW
          generalize pv % 2 ^ D = z at HLW hm
          have HM := Hid.mk hm
          have HGW := Hid.mk hgw
          have HIL := Hid.mk hil
          have i1 : (i : Int) < (cels.length : Int) := e2
          have HCT : Hid (∀ Z, Keep V Z → (fun w' => w'.cell? ⟨gT, o, none⟩ = some (.slice (some ⟨gC, 0, none⟩) cels.length cap) ∧ w'.cell? ⟨gV, 0, none⟩ = some (.int .i64 (i : Int)) ∧ w'.cell? ⟨gV, 1, none⟩ = some (.int .u64 ((pv : Nat) : Int)) ∧ w'.cell? ⟨gB, 0, none⟩ = some (.slice (some ⟨cb, co, none⟩) cels.length pc) ∧ w'.cell? ⟨cb, co + i * 5, none⟩ = some (.int .i64 (D : Int))) Z) := Hid.mk (fun Z kz => ⟨kz.cell cT, kz.cell x0, kz.cell x1, kz.cell y0, kz.cell r0⟩)
          clear hrow hwc hgw hD hD64 LW hm hil hca arC hlx hPb h0 h1
          go_upto_region 5 with fail
          go_region_held3 (fun w' => w'.cell? ⟨gT, o, none⟩ = some (.slice (some ⟨gC, 0, none⟩) cels.length cap) ∧ w'.cell? ⟨gV, 0, none⟩ = some (.int .i64 (i : Int)) ∧ w'.cell? ⟨gV, 1, none⟩ = some (.int .u64 ((pv : Nat) : Int)) ∧ w'.cell? ⟨gB, 0, none⟩ = some (.slice (some ⟨cb, co, none⟩) cels.length pc) ∧ w'.cell? ⟨cb, co + i * 5, none⟩ = some (.int .i64 (D : Int))) (first | exact ⟨cT, x0, x1, y0, r0⟩ | go_keep) (first | (go_at_call 39; refine (HLW.out _).mono ?_; rintro e y ⟨rfl, hy⟩; subst hy))
          rename_i hHd
          clear hHd
          have fr9 : Fr (fun q => q = gC) V (V.setCell ⟨gC, i, none⟩ (.int .u64 ((z : Nat) : Int))).drew := (Fr.setCell (P := fun q => q = gC) (p := ⟨gC, i, none⟩) (Fr.refl _ V) (Or.inl rfl) _).trans (Fr.keep (Keep.refl _).drew)
          have ce9 := (HCE2.out.put HIL.out z).fr (Fr.keep (P := fun _ => False) (Keep.refl _).drew) (fun a => a)
          have HF9 := Hid.mk fr9
          have HC9 := Hid.mk ce9
          clear fr9 ce9 cT x0 x1 y0 r0 cC fC
          go_wp2_with fail
          go_roundg (gk - 1)
          case measure => have := HKK.out; omega
          case rel =>
            refine ⟨k + 1, l'.set i z, by have := HKK.out; omega, by go_num, by rw [List.length_set]; exact HL'.out, ⟨by have := HOK'.out.1; simpa using this, fun j hj => ?_⟩, HC9.out, HFR2.out.trans HF9.out⟩
            by_cases e : j = i
            · subst e
              have hz := HM.out
              have hil := HIL.out
              rw [HGW.out]
              simpa [List.getD_eq_getElem?_getD, List.getElem?_set, hil] using hz
            · have := HOK'.out.2 j hj
              simpa [List.getD_eq_getElem?_getD, List.getElem?_set, Ne.symm e] using this
        · have e2 : ¬ (i : Int) < cels.length := by omega
          go_wp2_with fail
          go_roundg (gk - 1)
          case measure => have := HKK.out; omega
          case rel => exact ⟨k + 1, l', by have := HKK.out; omega, by go_num, HL'.out, HOK'.out, HCE2.out, HFR2.out⟩
    · have j1 : ¬ (k : Int) < ps.length := by omega
      go_wp2_with fail
      go_end0
      exact ⟨rfl, l', HL'.out, HOK'.out, HCE'.out, (Fr.keep HKW.out).trans HFR.out⟩
end Go.Proofs.Qxb6500772a
