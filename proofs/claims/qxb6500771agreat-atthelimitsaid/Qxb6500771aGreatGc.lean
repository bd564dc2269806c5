/- modesm: CBCEncrypt, CTSEncrypt. -/
import Derived.Test.Qxb6500771aGreatFe
import Derived.Deep.RegionHeld3
import Derived.Deep.CutRange
import Derived.Deep.LoopGhost
namespace Go.Proofs.Qxb6500771aGreat
open Go.RowKit Go.Qm
set_option linter.unusedVariables false
set_option linter.unusedSimpArgs false
attribute [local go_sem ↓] Go.wp_at_zero Go.wp_at_succ
def cbP (f : List UInt8 → List UInt8) (iv p : List UInt8) : Nat → List UInt8
  | 0 => iv
  | k + 1 => f (xorl ((p.drop (16 * k)).take 16) (cbP f iv p k))
def cbO (f : List UInt8 → List UInt8) (iv p : List UInt8) : Nat → List UInt8
  | 0 => []
  | k + 1 => cbO f iv p k ++ cbP f iv p (k + 1)
theorem blk_length {p : List UInt8} {m k : Nat} (hp : p.length = 16 * m) (hk : k < m) : ((p.drop (16 * k)).take 16).length = 16 := by
  rw [List.length_take, List.length_drop]; omega
theorem cbP_length {f : List UInt8 → List UInt8} (hf : ∀ l, l.length = 16 → (f l).length = 16) {iv p : List UInt8} {m : Nat} (hi : iv.length = 16) (hp : p.length = 16 * m) : ∀ k, k ≤ m → (cbP f iv p k).length = 16
  | 0, _ => hi
  | k + 1, h => hf _ (by rw [xorl_length]; exact blk_length hp (by omega))
theorem cbO_length {f : List UInt8 → List UInt8} (hf : ∀ l, l.length = 16 → (f l).length = 16) {iv p : List UInt8} {m : Nat} (hi : iv.length = 16) (hp : p.length = 16 * m) : ∀ k, k ≤ m → (cbO f iv p k).length = 16 * k
  | 0, _ => rfl
  | k + 1, h => by rw [cbO, List.length_append, cbO_length hf hi hp k (by omega), cbP_length hf hi hp (k + 1) h, Nat.mul_succ]
set_option maxRecDepth 4000 in
set_option maxHeartbeats 4000000 in
theorem cbc_c (al : Int) (ka : Option Addr) (kn kc : Nat) (key : List UInt8) (f : List UInt8 → List UInt8) (hE : Enc al (.slice ka kn kc) key f) (hA : Alg al) (iv pv : Value) (i p : List UInt8) (m : Nat) (w : World) (hk : Bs w (.slice ka kn kc) key) (hi : Bs w iv i) (hp : Bs w pv p) (hil : i.length = 16) (hpl : p.length = 16 * m) (hm : m ≤ 200000) :
    Calls Tryz.prog 93 #[.agg #[.int .i64 al, .slice ka kn kc], iv, pv] w fun e w' => ∃ v', e = .returned v' ∧ Own w.heap.size 5 w' v' ((cbO f i p m).map cb) ∧ Keep w w' := by
  obtain ⟨hfl, hE'⟩ := hE
  obtain ⟨pa, pc, rfl, hpc, hpm, -⟩ := hp.form
  obtain ⟨ia, ic, rfl, hic, him, -⟩ := hi.form
  unfold maxLen at hpm him
  obtain ⟨M, hM⟩ : ∃ M, M = 16 * m := ⟨_, rfl⟩
  have HP := Hid.mk hp
  have HI := Hid.mk hi
  rw [hpl, ← hM] at HP hpc ⊢
  rw [hil] at HI hic ⊢
  obtain ⟨W, hW⟩ : ∃ W, W = w.alloc (.cells #[.int .i64 al, .slice ka kn kc] 123) := ⟨_, rfl⟩
  have kW : Keep w W := by rw [hW]; exact (Keep.refl w).alloc _
  have aW : Arr W w.heap.size 123 [.int .i64 al, .slice ka kn kc] := by rw [hW]; exact Arr.new w 123 _
  obtain ⟨g3, hg3⟩ : ∃ g3, g3 = w.heap.size := ⟨_, rfl⟩
  rw [← hg3] at aW
  have BS := Hid.mk (cBlockSize_c al ka kn kc W hA)
  have a0 : W.cell? ⟨g3, 0, none⟩ = some (.int .i64 al) := aW.cell 0
  have a1 : W.cell? ⟨g3, 1, none⟩ = some (.slice ka kn kc) := aW.cell 1
  have HAW := Hid.mk aW
  have HKW := Hid.mk kW
  have HE := Hid.mk hE'
  have HF := Hid.mk hfl
  have HK := Hid.mk hk
  have HIL := Hid.mk hil
  have HPL := Hid.mk hpl
  have HM := Hid.mk hM
  have hM9 : (M : Int) ≤ 3200000 := by omega
  clear hE' hfl hk hi hp hil hpl hM kW aW hA
  go_enter Tryz.func93, Tryz.ntmps93
  go_upto_region 1 with fail
  rw [← hg3, ← hW]
  clear hg3 hW
  go_wp2_with fail
  refine BS.out.mono ?_
  rintro e w1 ⟨rfl, k1⟩
  obtain ⟨V, hV⟩ : ∃ V, V = w1.alloc (.cells #[] 5) := ⟨_, rfl⟩
  have kV : Keep w1 V := by rw [hV]; exact (Keep.refl w1).alloc _
  have o0 : Own w.heap.size 5 V (.slice (some ⟨w1.heap.size, 0, none⟩) 0 0) (([] : List UInt8).map cb) := by rw [hV]; exact Own.lit [] (HKW.out.trans k1).size (by simp)
  have HO0 := Hid.mk o0
  have HKV := Hid.mk (k1.trans kV)
  clear o0 k1 kV a0 a1
  go_upto_region 3 with fail
  rw [← hV]
  clear hV
  generalize w1.heap.size = g8 at *
  go_wp2_with fail
  go_loopg [8, 9, 10] m (fun gk ov bv av wr => ∃ (k : Nat) (ov' bv' : Value), k + gk = m ∧ av = .int .i64 ((16 * k : Nat) : Int) ∧ ov = ov' ∧ bv = bv' ∧ Own w.heap.size 5 wr ov' ((cbO f i p k).map cb) ∧ Bs wr bv' (cbP f i p k) ∧ Keep V wr)
  case atStart => exact ⟨0, _, _, by omega, rfl, rfl, rfl, HO0.out, HI.out.keep (HKW.out.trans HKV.out), Keep.refl _⟩
  case round =>
    obtain ⟨k, ov, bv, hkk, rfl, rfl, rfl, oo, ob, kw⟩ := hrel
    have HKK := Hid.mk hkk
    have HOO := Hid.mk oo
    have HOB := Hid.mk ob
    have HKX := Hid.mk kw
    obtain ⟨xa, xc, hbv, -, -, -⟩ := ob.form
    obtain ⟨ya, yc, hov, yc1, yc2, -⟩ := oo.bs.form
    obtain ⟨q, hq⟩ : ∃ q, q = 16 * k := ⟨_, rfl⟩
    rw [cbP_length HF.out HIL.out HPL.out k (by omega)] at hbv
    rw [cbO_length HF.out HIL.out HPL.out k (by omega), ← hq] at hov
    rw [← hq]
    clear oo ob kw
    by_cases hlt : k < m
    · have i1 : (q : Int) < (M : Int) := by have := HM.out; omega
      obtain ⟨q16, hq16⟩ : ∃ q16 : Nat, q16 = q + 16 := ⟨_, rfl⟩
      have x2 : IntKind.i64.wrap ((q : Int) + 16) = (q16 : Int) := by rw [IntKind.wrap_i64] <;> (have := HM.out; omega)
      have x3 : (q16 : Int) ≤ M := by have := HM.out; omega
      have x4 : (q16 : Int) ≤ pc := by omega
      have x5 : (q : Int) ≤ pc := by omega
      have x6 : ¬ pc = q := by omega
      have x7 : (q : Int) ≤ q16 := by omega
      have x8 : (0 : Int) ≤ q := by omega
      have x9 : (0 : Int) ≤ q16 := by omega
      have HPt : Hid (Bs wr (.slice (pa.map (·.add q)) (q16 - q) (pc - q)) ((p.drop (16 * k)).take 16)) := Hid.mk (by
        have h := (HP.out.keep (HKW.out.trans (HKV.out.trans HKX.out))).part (i := q) (j := q16) (by omega) (by omega) (pa.map (·.add q)) (fun _ => rfl)
        have e : q16 - q = 16 := by omega
        rw [e] at h ⊢
        rw [← hq]
        exact h)
      have HBL : Hid (((p.drop (16 * k)).take 16).length = 16) := Hid.mk (blk_length HPL.out hlt)
      have HCL : Hid ((cbP f i p k).length = 16) := Hid.mk (cbP_length HF.out HIL.out HPL.out k (by omega))
      have HCS : Hid ((cbP f i p (k + 1)).length = 16) := Hid.mk (cbP_length HF.out HIL.out HPL.out (k + 1) (by omega))
      have HOL : Hid ((cbO f i p k).length = 16 * k) := Hid.mk (cbO_length HF.out HIL.out HPL.out k (by omega))
      have c0 : wr.cell? ⟨g3, 0, none⟩ = some (.int .i64 al) := (HAW.out.keep (HKV.out.trans HKX.out)).cell 0
      have c1 : wr.cell? ⟨g3, 1, none⟩ = some (.slice ka kn kc) := (HAW.out.keep (HKV.out.trans HKX.out)).cell 1
      have HALL : Hid (∀ Z, Keep wr Z → Z.cell? ⟨g3, 0, none⟩ = some (.int .i64 al) ∧ Z.cell? ⟨g3, 1, none⟩ = some (.slice ka kn kc)) := Hid.mk (fun Z kz => ⟨kz.cell c0, kz.cell c1⟩)
      have Q0 : Keep wr wr.drew := (Keep.refl wr).drew
      subst hbv hov
      have HQ := Hid.mk hq
      have HQ16 := Hid.mk hq16
      clear hq hq16 hkk
      go_wp2_with fail
      go_region_held3 (fun Z => Z.cell? ⟨g3, 0, none⟩ = some (.int .i64 al) ∧ Z.cell? ⟨g3, 1, none⟩ = some (.slice ka kn kc))
        ((refine HALL.out _ ?_; first | (with_reducible exact Q2) | (with_reducible exact Q1) | (with_reducible exact Q0) | (with_reducible exact (Keep.refl _))))
        (first
        | (go_at_call 96; refine (xor_c _ _ ((p.drop (16 * k)).take 16) (cbP f i p k) _ (HPt.out.keep Q0) (HOB.out.keep Q0) (by rw [HBL.out, HCL.out]; omega) (by rw [HCL.out]; omega)).mono ?_; rintro e y1 ⟨u1, rfl, o1, q1⟩; have Q1 : Keep wr y1 := Q0.trans q1)
        | (go_at_call 98; refine (HE.out _ _ (xorl ((p.drop (16 * k)).take 16) (cbP f i p k)) (HK.out.keep (HKW.out.trans (HKV.out.trans (HKX.out.trans Q1)))) o1.bs (by rw [xorl_length]; exact HBL.out)).mono ?_; rintro e y2 ⟨u2, rfl, o2, q2⟩; have Q2 : Keep wr y2 := Q1.trans q2))
      have HO2 : Hid (Bs y2 u2 (cbP f i p (k + 1))) := Hid.mk o2.bs
      have J3 := Hid.mk (join_c _ u2 (cbO f i p k) (cbP f i p (k + 1)) y2 (HOO.out.bs.keep Q2) HO2.out (by rw [HOL.out, HCS.out]; omega))
      have HK2 := Hid.mk (HKX.out.trans Q2)
      rename_i hHd
      clear hHd c0 c1 o1 o2 q1 q2 Q0 Q1 Q2
      go_wp2_with fail
      refine J3.out.mono ?_
      rintro e w6 ⟨v6, rfl, o6, k6⟩
      have HO6 : Hid (Own w.heap.size 5 w6 v6 ((cbO f i p (k + 1)).map cb)) := Hid.mk (o6.mono (HKW.out.trans (HKV.out.trans HK2.out)).size)
      have HK6 := Hid.mk (HK2.out.trans k6)
      have HO26 := Hid.mk (HO2.out.keep k6)
      clear o6 k6
      go_wp2_with fail
      go_roundg (gk - 1)
      case measure => have := HKK.out; omega
      case rel => exact ⟨k + 1, _, _, by have := HKK.out; omega, by have := HQ.out; have := HQ16.out; congr 1; omega, rfl, rfl, HO6.out, HO26.out, HK6.out⟩
    · obtain rfl : k = m := by have := HKK.out; omega
      have i1 : ¬ ((q : Int) < (M : Int)) := by have := HM.out; omega
      subst hbv hov
      clear hq
      go_wp2_with fail
      go_ret
      exact ⟨_, rfl, HOO.out, HKW.out.trans (HKV.out.trans HKX.out)⟩
end Go.Proofs.Qxb6500771aGreat
