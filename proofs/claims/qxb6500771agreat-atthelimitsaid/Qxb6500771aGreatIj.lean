/- token.planMIC where it plans; coveredByMIC. -/
import Derived.Test.Qxb6500771aGreatIh
import Derived.Test.Qxb6500771aGreatIe
namespace Go.Proofs.Qxb6500771aGreat
open Go.RowKit Go.Qm
set_option linter.unusedVariables false
set_option linter.unusedSimpArgs false
attribute [local go_sem ↓] Go.wp_at_zero Go.wp_at_succ
set_option maxRecDepth 4000 in
set_option maxHeartbeats 4000000 in
theorem planMIC_ok (e : Int) (ao : Option Addr) (kn co : Nat) (us f sq : Nat) (ac : Option Addr) (nc cc n : Nat) (w : World) (hs : srv e) (hkn : kn = kl e) (hf : f < 8) (hf2 : ¬ f / 2 % 2 = 1) (hn : n ≤ 1048576) :
    Calls Tryz.prog 47 #[.agg #[.int .i32 e, .slice ao kn co], .agg #[.int .u32 us, .int .u8 f, .int .u64 sq, .int .u16 (0 : Nat), .int .u16 (0 : Nat), .slice ac nc cc], .int .i64 n] w fun x w' =>
      x = .returned (.tuple #[.agg #[.int .i64 (kl e), .int .i64 16, .int .i64 (cl e)], .int .i64 0]) ∧ Keep w w' := by
  obtain ⟨W, hW⟩ : ∃ W, W = ((w.alloc (.cells #[.int .i32 e, .slice ao kn co] 43)).alloc (.cells #[.int .u32 us, .int .u8 f, .int .u64 sq, .int .u16 (0 : Nat), .int .u16 (0 : Nat), .slice ac nc cc] 46)).alloc (.cells zer3.toArray 69) := ⟨_, rfl⟩
  have kW : Keep w W := by rw [hW]; exact (((Keep.refl w).alloc _).alloc _).alloc _
  have A3 : Arr W w.heap.size 43 [.int .i32 e, .slice ao kn co] := by rw [hW]; exact ((Arr.new w 43 _).keep ((Keep.refl _).alloc _)).keep ((Keep.refl _).alloc _)
  have A4 : Arr W (w.heap.size + 1) 46 [.int .u32 us, .int .u8 f, .int .u64 sq, .int .u16 (0 : Nat), .int .u16 (0 : Nat), .slice ac nc cc] := by rw [hW]; exact (new2 w _ 46 _).keep ((Keep.refl _).alloc _)
  have A6 : Arr W (w.heap.size + 1 + 1) 69 zer3 := by rw [hW]; exact new3 w _ _ 69 _
  unfold zer3 at hW
  have x0 : ¬ (n : Int) > 1048576 := by omega
  have hc0 : chH 1028 f 0 0 = 0 := by
    have hcf : cf 1028 f = 0 := by unfold cf; rw [if_neg (by omega), if_neg (by omega)]
    unfold chH; rw [hcf]; simp
  have CH : Hid (∀ Z, Calls Tryz.prog 61 #[.agg #[.int .u16 1028, .int .u8 f, .int .u16 0, .int .u16 0, .int .u64 sq]] Z fun e w' => e = .returned (.int .i64 0) ∧ Keep Z w') := Hid.mk (fun Z => (checkHeader_c 1028 f 0 0 sq Z (by omega) (by omega)).mono (by rintro x y ⟨rfl, k⟩; rw [hc0]; exact ⟨rfl, k⟩))
  have CK := Hid.mk (checkKey_ok e ao kn co W hs hkn)
  have HKW := Hid.mk kW
  have HA3 := Hid.mk A3
  have HA4 := Hid.mk A4
  have HA6 := Hid.mk A6
  generalize kl e = a at *
  generalize cl e = b at *
  clear hn hkn hc0 hf A3 A4 A6 kW hs hf2
  go_enter Tryz.func47, Tryz.ntmps47
  go_wp2_with fail
  rw [show (w.alloc (.cells #[.int .i32 e, .slice ao kn co] 43)).alloc (.cells #[.int .u32 us, .int .u8 f, .int .u64 sq, .int .u16 0, .int .u16 0, .slice ac nc cc] 46) = (w.alloc (.cells #[.int .i32 e, .slice ao kn co] 43)).alloc (.cells #[.int .u32 us, .int .u8 f, .int .u64 sq, .int .u16 (0 : Nat), .int .u16 (0 : Nat), .slice ac nc cc] 46) from rfl, ← hW]
  clear hW
  refine CK.out.mono ?_
  rintro x w1 ⟨rfl, k1⟩
  obtain ⟨W1, hW1⟩ : ∃ W1, W1 = w1.alloc (.cells #[.int .i64 a, .int .i64 16, .int .i64 b] 69) := ⟨_, rfl⟩
  have A8 : Arr W1 w1.heap.size 69 [.int .i64 a, .int .i64 16, .int .i64 b] := by rw [hW1]; exact Arr.new w1 69 _
  have kk : Keep W W1 := by rw [hW1]; exact k1.alloc _
  have e1 : W1.cell? ⟨w.heap.size + 1, 1, none⟩ = some (.int .u8 f) := (HA4.out.keep kk).cell 1
  have e2 : W1.cell? ⟨w.heap.size + 1, 2, none⟩ = some (.int .u64 sq) := (HA4.out.keep kk).cell 2
  have e3 : W1.cell? ⟨w.heap.size + 1, 3, none⟩ = some (.int .u16 0) := (HA4.out.keep kk).cell 3
  have e4 : W1.cell? ⟨w.heap.size + 1, 4, none⟩ = some (.int .u16 0) := (HA4.out.keep kk).cell 4
  have kA := (Keep.refl W1).alloc (.cells #[.int .u16 1028, .int .u8 f, .int .u16 0, .int .u16 0, .int .u64 sq] 56)
  have HKA := Hid.mk kA
  have HA8 := Hid.mk A8
  have HKK := Hid.mk kk
  rw [hW1] at e1 e2 e3 e4
  clear A8 kk kA k1
  go_wp2_with fail
  rw [← hW1]
  refine (CH.out _).mono ?_
  rintro x w2 ⟨rfl, k2⟩
  have K2 := HKA.out.trans k2
  have f0 : w2.cell? ⟨w1.heap.size, 0, none⟩ = some (.int .i64 a) := (HA8.out.keep K2).cell 0
  have f1 : w2.cell? ⟨w1.heap.size, 1, none⟩ = some (.int .i64 16) := (HA8.out.keep K2).cell 1
  have f2 : w2.cell? ⟨w1.heap.size, 2, none⟩ = some (.int .i64 b) := (HA8.out.keep K2).cell 2
  have A62 : Arr w2 (w.heap.size + 1 + 1) 69 zer3 := HA6.out.keep (HKK.out.trans K2)
  have HKF := Hid.mk ((HKW.out.trans (HKK.out.trans K2)).setRow (g := w.heap.size + 1 + 1) (by omega) #[.int .i64 a, .int .i64 16, .int .i64 b])
  clear hW1 e1 e2 e3 e4 k2
  go_wp2_with (refine wpList_store_rowN (by rfl) 69 (.tmp 6) (.tmp 38) (by rfl) (w.heap.size + 1 + 1) [.int .i64 a, .int .i64 16, .int .i64 b].toArray (by rfl) (by rfl) 3 69 _ A62 s69 (by rfl) (by rfl) (by simp [Value.oneCell']) ?_)
  have AR := A62.row [.int .i64 a, .int .i64 16, .int .i64 b]
  have r0 := AR.cell 0
  have r1 := AR.cell 1
  have r2 := AR.cell 2
  simp only [List.getElem?_cons_zero, List.getElem?_cons_succ] at r0 r1 r2
  refine bodyPost_ret (v := .tuple #[.agg #[.int .i64 a, .int .i64 16, .int .i64 b], .int .i64 0]) (by simp [results, Tryz.results47, go_sem, r0, r1, r2]) rfl ⟨rfl, HKF.out⟩
set_option maxRecDepth 4000 in
set_option maxHeartbeats 2000000 in
theorem coveredByMIC_c (gp : Nat) (ma : Option Addr) (n mc : Nat) (msg hd : List UInt8) (hv : Value) (w : World) (hn : n ≤ 1048576) (hp : w.cell? ⟨gp, 0, none⟩ = some (.slice ma n mc)) (hm : Bs w (.slice ma n mc) msg) (hml : msg.length = n) (hh : Bs w hv hd) (hhl : hd.length = 16) :
    Calls Tryz.prog 56 #[.slice (some ⟨gp, 0, none⟩) 1 1, .int .i64 n, hv] w fun x w' => ∃ gb, x = .returned (.slice (some ⟨gb, 0, none⟩) (n + 16) (n + 16)) ∧ w.heap.size ≤ gb ∧ Win w' gb 5 [] (msg ++ hd) [] ∧ Keep w w' := by
  have x1 : IntKind.i64.wrap ((n : Int) + 16) = ((n + 16 : Nat) : Int) := by rw [IntKind.wrap_i64]; omega
  have x2 : n + 16 - n = 16 := by omega
  have x3 : (n : Int) ≤ ((n + 16 : Nat) : Int) := by omega
  have x4 : (n : Int) ≤ (n : Int) + 16 := by omega
  have x5 : (0 : Int) ≤ n := by omega
  have x6 : n ≤ n + 16 := by omega
  have hmk := run_make1 (P := Tryz.prog) Tryz.underlying26 inf5 rfl ((n : Int) + 16) ((n : Int) + 16) (by omega) (by omega) (by omega) (by omega) w
  have hto : ((n : Int) + 16).toNat = n + 16 := by omega
  rw [hto] at hmk
  obtain ⟨W2, hW2⟩ : ∃ W2, W2 = w.alloc (.cells (rep (n + 16) (.int .u8 0)) 5) := ⟨_, rfl⟩
  have k2 : Keep w W2 := by rw [hW2]; exact (Keep.refl w).alloc _
  have V2 : Win W2 w.heap.size 5 [] (List.replicate (n + 16) 0) [] := by
    show W2.heap[w.heap.size]? = _
    rw [hW2, heap_alloc_new, rep_cb]; simp
  obtain ⟨gb, hgb⟩ : ∃ gb, gb = w.heap.size := ⟨_, rfl⟩
  rw [← hgb] at V2
  have C3 := Hid.mk (gather_c gb 0 (n + 16) (n + 16) gp ma n mc [] [] (List.replicate (n + 16) 0) msg W2 rfl (by simp) (by omega) (by omega) (Nat.le_refl _) (by unfold maxLen; omega) V2 (k2.cell hp) (hm.keep k2) hml (by omega))
  have hhb : hv.ownBlock ≠ some gb := hh.block (by omega) (by omega)
  have HH := Hid.mk (hh.keep k2)
  have HHL := Hid.mk hhl
  have HK2 := Hid.mk k2
  have HML := Hid.mk hml
  have HGB := Hid.mk hgb
  rw [← hW2] at hmk
  clear hp hm hml hh hhl k2 V2 hto hn
  rw [hgb] at C3
  go_enter Tryz.func56, Tryz.ntmps56
  go_wp2_with fail
  rw [← hW2]
  clear hmk hW2
  refine C3.out.mono ?_
  rintro x W3 ⟨rfl, V3, gr3⟩
  rw [← hgb] at V3 gr3
  rw [← hgb]
  have K3 : Keep w W3 := HK2.out.grown gr3 (fun k hk => by cases hk; exact Nat.le_of_eq hgb.symm)
  have V3a : Win W3 gb 5 [] (msg ++ List.replicate 16 0) [] := V3.cut (by rw [List.drop_replicate, x2])
  have H3 := HH.out.kept gr3 hhb
  obtain ⟨W4, hcp, V4, gr4⟩ := copy_into V3a H3 (o := n) (k := n) (n := 16) (dLen := 16) (dCap := 16) (by simp) HHL.out.symm (by rw [List.length_append, HML.out, List.length_replicate]; omega) (Nat.le_refl _)
  have HV4 : Hid (Win W4 gb 5 [] (msg ++ hd) []) := Hid.mk (V4.cut (by
    congr 2
    rw [List.take_append_of_le_length (by rw [HML.out]; omega), List.take_of_length_le (by rw [HML.out]; omega), List.drop_eq_nil_of_le (by rw [List.length_append, HML.out, List.length_replicate]; omega), List.append_nil]))
  have HK4 : Hid (Keep w W4) := Hid.mk (K3.grown gr4 (fun k hk => by cases hk; exact Nat.le_of_eq hgb.symm))
  clear hgb V3 V3a gr3 gr4 V4 K3 H3
  go_wp2_with fail
  go_ret
  exact ⟨gb, rfl, Nat.le_of_eq HGB.out.symm, HV4.out, HK4.out⟩
end Go.Proofs.Qxb6500771aGreat
