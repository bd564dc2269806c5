/- AtTheLimit: token.layoutOf, planUnwrap of an unsealed token. -/
import Derived.Test.Qxb6500771aGreatKa
namespace Go.Proofs.Qxb6500771aGreat
open Go.RowKit Go.Qm
set_option linter.unusedVariables false
set_option linter.unusedSimpArgs false
attribute [local go_sem ↓] Go.wp_at_zero Go.wp_at_succ
theorem siz98 : (Tryz.prog.info? 98).map (·.size) = some 6 := by kernel_rfl
theorem siz77 : (Tryz.prog.info? 77).map (·.size) = some 6 := by kernel_rfl
def zly : List Value := [.bool false, .int .i64 0, .int .i64 0, .int .i64 0, .int .i64 0, .int .i64 0]
def zpn : List Value := [.int .u16 0, .int .u8 0, .int .u16 0, .int .u16 0, .int .u64 0, .int .i64 0]
set_option maxRecDepth 4000 in
set_option maxHeartbeats 4000000 in
theorem layoutOf_ok {e : Int} (hS : srv e) (id f rrc sq n N : Nat) (w : World) (hf : f < 256) (hf2 : ¬ f / 2 % 2 = 1) (hr : rrc < 65536) (hn : n ≤ 1048576) (hN : N = 16 + cl e + n) :
    Calls Tryz.prog 52 #[.int .i32 e, .agg #[.int .i64 (kl e), .int .i64 16, .int .i64 (cl e)], .agg #[.int .u16 id, .int .u8 f, .int .u16 (cl e), .int .u16 rrc, .int .u64 sq], .int .i64 N] w fun x w' =>
      x = .returned (.tuple #[.agg #[.bool false, .int .i64 ((rrc % (n + cl e) : Nat) : Int), .int .i64 ((n + cl e : Nat) : Int), .int .i64 n, .int .i64 0, .int .i64 (cl e)], .int .i64 0]) ∧ Keep w w' := by
  have hcl := cl_le e
  have hcl0 : 0 < cl e := by rcases hS with h | h | h | h | h | h <;> subst h <;> decide
  have SLC : Hid (∀ Z, Calls Tryz.prog 8 #[.int .u8 f] Z fun x w' => x = .returned (.bool false) ∧ Keep Z w') := Hid.mk (fun Z => by
    have := sealed_c f Z hf
    rw [decide_eq_false hf2] at this
    exact this)
  obtain ⟨o, ho⟩ : ∃ o, o = 16 + cl e := ⟨_, rfl⟩
  have OV : Hid (∀ Z, Calls Tryz.prog 34 #[.int .i32 e, .agg #[.int .i64 (kl e), .int .i64 16, .int .i64 (cl e)], .bool false, .int .u16 0] Z fun x w' => x = .returned (.int .i64 o) ∧ Keep Z w') := Hid.mk (fun Z => by
    have := overhead_c e (.int .i64 (kl e)) (.int .i64 16) false 0 Z hS (by decide)
    rw [show ovh e false 0 = o by rw [ho]; rfl] at this
    exact this)
  obtain ⟨B, hB⟩ : ∃ B, B = n + cl e := ⟨_, rfl⟩
  have RD : Hid (∀ Z, Calls Tryz.prog 65 #[.int .i64 rrc, .int .i64 B] Z fun x w' => x = .returned (.int .i64 ((rrc % B : Nat) : Int)) ∧ w' = Z) := Hid.mk (fun Z => by
    have := reduce_c rrc B Z (by omega) (by omega) (by omega) (by omega)
    rw [show ((rrc : Int) % B) = ((rrc % B : Nat) : Int) by omega] at this
    exact this)
  rw [← hB]
  have y1 : IntKind.i64.wrap ((N : Int) - 16) = (B : Int) := by rw [IntKind.wrap_i64]; omega
  have y2 : IntKind.i64.wrap ((N : Int) - o) = (n : Int) := by rw [IntKind.wrap_i64]; omega
  have y3 : ¬ ((N : Int) < o) := by omega
  have y4 : ¬ ((n : Int) > 1048576) := by omega
  have y5 : IntKind.i64.wrap (cl e : Int) = (cl e : Int) := by rw [IntKind.wrap_i64]; omega
  have y6 : IntKind.i64.wrap (rrc : Int) = (rrc : Int) := by rw [IntKind.wrap_i64]; omega
  have y7 : ((cl e : Int) != (cl e : Int)) = false := by simp
  clear hS hf hf2 hr hn hN hcl hcl0 ho hB
  generalize kl e = a at *
  generalize cl e = c at *
  generalize rrc % B = rot at *
  obtain ⟨W, hW⟩ : ∃ W, W = ((w.alloc (.cells #[.int .i64 a, .int .i64 16, .int .i64 c] 69)).alloc (.cells #[.int .u16 id, .int .u8 f, .int .u16 c, .int .u16 rrc, .int .u64 sq] 56)).alloc (.cells #[.bool false, .int .i64 0, .int .i64 0, .int .i64 0, .int .i64 0, .int .i64 0] 98) := ⟨_, rfl⟩
  have kW : Keep w W := by rw [hW]; exact (((Keep.refl w).alloc _).alloc _).alloc _
  have A5 : Arr W w.heap.size 69 [.int .i64 a, .int .i64 16, .int .i64 c] := by rw [hW]; exact (Arr.new w 69 _).keep (((Keep.refl _).alloc _).alloc _)
  have A6 : Arr W (w.heap.size + 1) 56 [.int .u16 id, .int .u8 f, .int .u16 c, .int .u16 rrc, .int .u64 sq] := by rw [hW]; exact (new2 w _ 56 _).keep ((Keep.refl _).alloc _)
  have A8 : Arr W (w.heap.size + 1 + 1) 98 zly := by rw [hW]; exact new3 w _ _ 98 zly
  obtain ⟨g5, hg5⟩ : ∃ g5, g5 = w.heap.size := ⟨_, rfl⟩
  rw [← hg5] at A5 A6 A8
  have HG5 := Hid.mk hg5
  have HKW := Hid.mk kW
  have HALL : Hid (∀ Z, Keep W Z → Z.cell? ⟨g5, 0, none⟩ = some (.int .i64 a) ∧ Z.cell? ⟨g5, 1, none⟩ = some (.int .i64 16) ∧ Z.cell? ⟨g5, 2, none⟩ = some (.int .i64 c) ∧ Z.cell? ⟨g5 + 1, 1, none⟩ = some (.int .u8 f) ∧ Z.cell? ⟨g5 + 1, 2, none⟩ = some (.int .u16 c) ∧ Z.cell? ⟨g5 + 1, 3, none⟩ = some (.int .u16 rrc)) := Hid.mk (fun Z kz => ⟨(A5.keep kz).cell 0, (A5.keep kz).cell 1, (A5.keep kz).cell 2, (A6.keep kz).cell 1, (A6.keep kz).cell 2, (A6.keep kz).cell 3⟩)
  have HA8 := Hid.mk A8
  obtain ⟨c0, c1, c2, c3, c4, c5⟩ := HALL.out W (Keep.refl _)
  clear A5 A6 A8 kW
  go_enter Tryz.func52, Tryz.ntmps52
  go_wp2_with fail
  rw [← hg5, ← hW]
  clear hg5 hW
  refine (SLC.out W).mono ?_
  rintro x w1 ⟨rfl, k1⟩
  have K1 := Hid.mk k1
  clear k1 c0 c1 c2 c3 c4 c5
  obtain ⟨c0, c1, c2, c3, c4, c5⟩ := HALL.out w1 K1.out
  go_wp2_with fail
  refine (OV.out w1).mono ?_
  rintro x w2 ⟨rfl, k2⟩
  have K2 := Hid.mk (K1.out.trans k2)
  clear k2 c0 c1 c2 c3 c4 c5
  have KA := Hid.mk ((Keep.refl w2).alloc (.cells #[.bool false, .int .i64 0, .int .i64 B, .int .i64 0, .int .i64 0, .int .i64 c] 98))
  have A11 := Hid.mk (Arr.new w2 98 [.bool false, .int .i64 0, .int .i64 B, .int .i64 0, .int .i64 0, .int .i64 c])
  obtain ⟨c0, c1, c2, c3, c4, c5⟩ := HALL.out w2 K2.out
  have AA := A11.out
  have d0 := AA.cell 0
  have d1 := AA.cell 1
  have d2 := AA.cell 2
  have d3 := AA.cell 3
  have d4 := AA.cell 4
  have d5 := AA.cell 5
  simp only [List.getElem?_cons_zero, List.getElem?_cons_succ] at d0 d1 d2 d3 d4 d5
  obtain ⟨e0, e1, e2, e3, e4, e5⟩ := HALL.out _ (K2.out.trans KA.out)
  clear AA c0 c1 c3 c4 c5
  go_wp2_with fail
  have K3 := Hid.mk (K2.out.trans KA.out)
  have hp11 : Hid (W.heap.size ≤ w2.heap.size) := Hid.mk K2.out.size
  have H8 : Hid (g5 + 1 + 1 < W.heap.size) := Hid.mk HA8.out.lt
  clear K1 K2 KA c2
  generalize hWB : w2.alloc (.cells #[.bool false, .int .i64 0, .int .i64 B, .int .i64 0, .int .i64 0, .int .i64 c] 98) = WB at *
  clear hWB
  generalize hpp : w2.heap.size = p11 at *
  clear hpp
  clear d0 d1 d2 d3 d4 d5 e0 e1 e2 e3 e4 e5
  refine (OV.out WB).mono ?_
  rintro x w3 ⟨rfl, k3⟩
  have K4 := Hid.mk (K3.out.trans k3)
  have A12 := Hid.mk (A11.out.keep k3)
  clear k3 A11
  have AA := A12.out
  have d3 := AA.cell 3
  have z3 := AA.frozen 3
  simp only [List.getElem?_cons_zero, List.getElem?_cons_succ] at d3
  clear AA
  go_upto_region 13 with fail
  have gr := grown_set (grown_refl w3 (some p11)) 3 (.int .i64 (n : Int))
  have B3 := A12.out.set 3 (.int .i64 (n : Int))
  simp only [List.set_cons_succ, List.set_cons_zero] at B3
  have hne : ∀ Z g t cs, Arr Z g t cs → g < W.heap.size → g ≠ p11 := fun Z g t cs _ h => by have := hp11.out; omega
  have KS := Hid.mk (K4.out.setCell (p := ⟨p11, 3, none⟩) hp11.out (.int .i64 (n : Int)))
  clear hne gr d3 z3 A12
  generalize w3.setCell ⟨p11, 3, none⟩ (.int .i64 (n : Int)) = Z3 at *
  obtain ⟨e0, e1, e2, e3, e4, e5⟩ := HALL.out Z3 KS.out
  have HB3 := Hid.mk B3
  have d2 := B3.cell 2
  have d3 := B3.cell 3
  have z1 := B3.frozen 1
  have d1 := B3.cell 1
  simp only [List.getElem?_cons_zero, List.getElem?_cons_succ] at d1 d2 d3
  clear B3 e0 e1 e2 e3 e4
  go_wp2_with fail
  refine (RD.out Z3).mono ?_
  rintro x y ⟨rfl, hy⟩
  have hy2 := hy.symm
  clear hy
  subst hy2
  go_upto_region 16 with fail
  have B4 := HB3.out.set 1 (.int .i64 (rot : Int))
  simp only [List.set_cons_succ, List.set_cons_zero] at B4
  have KT := Hid.mk (KS.out.setCell (p := ⟨p11, 1, none⟩) hp11.out (.int .i64 (rot : Int)))
  clear d1 d2 d3 z1 e5 HB3
  generalize Z3.setCell ⟨p11, 1, none⟩ (.int .i64 (rot : Int)) = Z4 at *
  have d0 := B4.cell 0
  have d1 := B4.cell 1
  have d2 := B4.cell 2
  have d3 := B4.cell 3
  have d4 := B4.cell 4
  have d5 := B4.cell 5
  simp only [List.getElem?_cons_zero, List.getElem?_cons_succ] at d0 d1 d2 d3 d4 d5
  have A9 := HA8.out.keep KT.out
  go_wp2_with (refine wpList_store_rowN (by rfl) 98 (.tmp 8) (.tmp 69) (by rfl) (g5 + 1 + 1) [.bool false, .int .i64 rot, .int .i64 B, .int .i64 n, .int .i64 0, .int .i64 c].toArray (by rfl) (by rfl) 6 98 _ A9 siz98 (by rfl) (by rfl) (by simp [Value.oneCell']) ?_)
  have AR := A9.row [.bool false, .int .i64 rot, .int .i64 B, .int .i64 n, .int .i64 0, .int .i64 c]
  have r0 := AR.cell 0
  have r1 := AR.cell 1
  have r2 := AR.cell 2
  have r3 := AR.cell 3
  have r4 := AR.cell 4
  have r5 := AR.cell 5
  simp only [List.getElem?_cons_zero, List.getElem?_cons_succ] at r0 r1 r2 r3 r4 r5
  refine bodyPost_ret (v := .tuple #[.agg #[.bool false, .int .i64 rot, .int .i64 B, .int .i64 n, .int .i64 0, .int .i64 c], .int .i64 0]) (by simp [results, Tryz.results52, go_sem, r0, r1, r2, r3, r4, r5]) rfl ⟨rfl, (HKW.out.trans KT.out).setRow (by rw [HG5.out]; omega) _⟩
end Go.Proofs.Qxb6500771aGreat
