/- modes.SumCMAC. -/
import Derived.Test.Qxb6500769aEi
namespace Go.Proofs.Qxb6500769a
open Go.RowKit Go.Qm
set_option linter.unusedVariables false
set_option linter.unusedSimpArgs false
attribute [local go_sem ↓] Go.wp_at_zero Go.wp_at_succ

set_option maxRecDepth 2000 in
set_option maxHeartbeats 4000000 in
theorem sumCMAC_c (al : Int) (ka : Option Addr) (kn kc : Nat) (key : List UInt8) (f : List UInt8 → List UInt8) (m : List UInt8) (mv : Value) (w : World) (hb : bsz16 al = 16) (hE : Enc al (.slice ka kn kc) key f) (hk : Bs w (.slice ka kn kc) key) (hkl : key.length ≠ 0) (hm : Bs w mv m) (hml : m.length ≤ 1000000) :
    Calls Try.prog 15 #[.agg #[.int .i64 al, .slice ka kn kc], mv] w fun e w' => ∃ v', e = .returned (.tuple #[v', .int .i64 0]) ∧ Own w.heap.size 5 w' v' ((cmac f m).map cb) ∧ Keep w w' := by
  have B0 := Arr.new w 36 [.int .i64 al, .slice ka kn kc]
  have K0 := (Keep.refl w).alloc (.cells #[.int .i64 al, .slice ka kn kc] 36)
  have hfl := hE.1
  have HE := Hid.mk hE
  have NC := newCMAC_c al ka kn kc key f _ hb hE (hk.keep K0)
  have hz := z64
  have hlz := CM_length (al := 0) (kv := .slice none 0 0) (n := 0) Z16_length Z16_length Z16_length Z16_length
  generalize CM 0 (.slice none 0 0) Z16 Z16 Z16 Z16 0 = L at *
  have HZ := Hid.mk hz
  have HLZ := Hid.mk hlz
  have hCL : ∀ X H n, St f m X H n → f (sumIn (dbl (f Z16)) (dbl (dbl (f Z16))) X H n) = cmac f m := fun X H n h => cmac_law hfl h
  obtain ⟨K1, hK1⟩ : ∃ K1, K1 = dbl (f Z16) := ⟨_, rfl⟩
  obtain ⟨K2, hK2⟩ : ∃ K2, K2 = dbl (dbl (f Z16)) := ⟨_, rfl⟩
  rw [← hK2, ← hK1] at NC
  have hL1 : K1.length = 16 := by rw [hK1]; exact dbl_length _
  have hL2 : K2.length = 16 := by rw [hK2]; exact dbl_length _
  have HCL : Hid (∀ X H n, St f m X H n → f (sumIn K1 K2 X H n) = cmac f m) := Hid.mk (by intro X H n h; rw [hK1, hK2]; exact hCL X H n h)
  obtain ⟨LC, hLC⟩ : ∃ LC, LC = CM al (.slice ka kn kc) K1 K2 Z16 Z16 0 := ⟨_, rfl⟩
  rw [← hLC] at NC
  have HLC := Hid.mk hLC
  have HLl : Hid (LC.length = 67) := Hid.mk (by rw [hLC]; exact CM_length hL1 hL2 Z16_length Z16_length)
  have HLo : Hid (LC.toArray.all (·.oneCell') = true) := Hid.mk (by rw [hLC]; exact CM_one ..)
  have HL1 := Hid.mk hL1
  have HL2 := Hid.mk hL2
  have HKL := Hid.mk hkl
  clear hz hlz hCL hK1 hK2 hLC hL1 hL2 hE hb hkl
  go_enter Try.func15, Try.ntmps15
  go_wp2_with fail
  generalize w.alloc (.cells #[.int .i64 al, .slice ka kn kc] 36) = w1 at *
  refine NC.mono ?_
  rintro e w2 ⟨rfl, k2⟩
  have K2w := K0.trans k2
  have A3 : Arr ((w2.alloc (.cells L.toArray 64)).setRow w2.heap.size LC.toArray) w2.heap.size 64 LC := (Arr.new w2 64 L).row LC
  have k3 : Keep w2 ((w2.alloc (.cells L.toArray 64)).setRow w2.heap.size LC.toArray) := ((Keep.refl w2).alloc _).setRow (Nat.le_refl _) _
  clear NC
  go_wp2_with (first
    | (refine wpList_alloc_z (by rfl) 64 (by rfl) L HZ.out ?_)
    | (refine wpList_store_row (by rfl) 64 (.tmp 6) (.tmp 11) (by rfl) w2.heap.size LC.toArray (by rfl) (by rfl) 64 _ (Arr.new w2 64 L) (by rw [List.size_toArray, HLl.out]; exact s64) (by rw [List.size_toArray, List.size_toArray, HLl.out, HLZ.out]) HLo.out ?_))
  generalize (w2.alloc (.cells L.toArray 64)).setRow w2.heap.size LC.toArray = w3 at *
  have hg6 := A3.lt
  have hle := K2w.size
  have nkb : (Value.slice ka kn kc).ownBlock ≠ some w2.heap.size := hk.block HKL.out hle
  have nmb : m.length ≠ 0 → mv.ownBlock ≠ some w2.heap.size := fun h => hm.block h hle
  have K3 := K2w.trans k3
  rw [HLC.out] at A3
  have WR := cwrite_c w2.heap.size al ka kn kc key f K1 K2 Z16 Z16 [] m 0 mv w3 HE.out HL1.out HL2.out (St.zero f) A3 (hk.keep K3) nkb (hm.keep K3) nmb hml
  generalize w2.heap.size = g6 at *
  refine WR.mono ?_
  rintro e w4 ⟨rfl, X, H, n, hst, A4, gr4⟩
  rw [List.nil_append] at hst
  have hXl : X.length = 16 := by obtain ⟨j, hj, -⟩ := hst; rw [hj.2.2.1]; exact chn_length hfl _ _
  have hHl : H.length = 16 := by obtain ⟨j, hj, -⟩ := hst; exact hj.2.2.2.2
  have hn16 : n ≤ 16 := by obtain ⟨j, hj, -⟩ := hst; exact hj.2.1
  have hEq := HCL.out X H n hst
  have K4 := K3.grown gr4 (fun q hq => by simp at hq; omega)
  have ON : Own (g6 + 1) 5 w4 (.slice none 0 0) (([] : List UInt8).map cb) := World.ownsRow_nil _ _ _ _
  have hs4 := gr4.size
  have SM := csum_c g6 (g6 + 1) al ka kn kc key f K1 K2 X H n (.slice none 0 0) w4 HE.out HL1.out HL2.out hXl hHl hn16 A4 (hk.keep K4) ON (by omega) (by omega)
  rw [hEq] at SM
  clear WR hst hXl hHl hEq
  go_wp2_with fail
  refine SM.mono ?_
  rintro e w5 ⟨v5, rfl, o5, gr5⟩
  go_wp2
  go_ret2
  exact ⟨_, rfl, o5.mono (by omega), K4.grown gr5 (fun q hq => by simp [Value.ownBlock] at hq)⟩
end Go.Proofs.Qxb6500769a
