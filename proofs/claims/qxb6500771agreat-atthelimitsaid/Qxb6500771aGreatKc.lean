/- AtTheLimit: token.planUnwrap of an unsealed token. -/
import Derived.Test.Qxb6500771aGreatKb
namespace Go.Proofs.Qxb6500771aGreat
open Go.RowKit Go.Qm
set_option linter.unusedVariables false
set_option linter.unusedSimpArgs false
attribute [local go_sem ↓] Go.wp_at_zero Go.wp_at_succ
set_option maxRecDepth 4000 in
set_option maxHeartbeats 4000000 in
theorem planUnwrap_ok {e : Int} (hS : srv e) (ka : Option Addr) (kn kc us : Nat) (ta : Option Addr) (tc : Nat) (tok : List UInt8) (f rrc sq n N : Nat) (w : World) (hkn : kn = kl e) (ht : Bs w (.slice ta N tc) tok) (hp : parse tok = (0, 1284, f, cl e, rrc, sq)) (hf : f < 256) (hf0 : f % 2 = 0) (hf2 : ¬ f / 2 % 2 = 1) (hr : rrc < 65536) (hn : n ≤ 1048576) (hN : N = 16 + cl e + n) :
    Calls Tryz.prog 38 #[.agg #[.int .i32 e, .slice ka kn kc], .agg #[.int .u32 us, .bool false], .slice ta N tc] w fun x w' =>
      x = .returned (.tuple #[.agg #[.int .u16 1284, .int .u8 f, .int .u16 (cl e), .int .u16 rrc, .int .u64 sq, .int .i64 n], .int .i64 0]) ∧ Keep w w' := by
  have CK : Hid (∀ Z, Calls Tryz.prog 49 #[.agg #[.int .i32 e, .slice ka kn kc]] Z fun x w' => x = .returned (.tuple #[.agg #[.int .i64 (kl e), .int .i64 16, .int .i64 (cl e)], .int .i64 0]) ∧ Keep Z w') := Hid.mk (fun Z => checkKey_ok e ka kn kc Z hS hkn)
  have PK : Hid (∀ Z, Keep w Z → Calls Tryz.prog 50 #[.slice ta N tc, .int .u16 1284] Z fun x w' => x = .returned (.tuple #[.agg #[.int .u16 1284, .int .u8 f, .int .u16 (cl e), .int .u16 rrc, .int .u64 sq], .int .i64 0]) ∧ Keep Z w') := Hid.mk (fun Z kz => parseKind_ok _ tok Z (ht.keep kz) 1284 f (cl e) rrc sq hp)
  have CD : Hid (∀ Z, Calls Tryz.prog 51 #[.agg #[.int .u16 1284, .int .u8 f, .int .u16 (cl e), .int .u16 rrc, .int .u64 sq], .agg #[.int .u32 us, .bool false]] Z fun x w' => x = .returned (.int .i64 0) ∧ Keep Z w') := Hid.mk (fun Z => checkDirection_ok 1284 f (cl e) rrc sq us Z hf hf0)
  have LO : Hid (∀ Z, Calls Tryz.prog 52 #[.int .i32 e, .agg #[.int .i64 (kl e), .int .i64 16, .int .i64 (cl e)], .agg #[.int .u16 1284, .int .u8 f, .int .u16 (cl e), .int .u16 rrc, .int .u64 sq], .int .i64 N] Z fun x w' => x = .returned (.tuple #[.agg #[.bool false, .int .i64 ((rrc % (n + cl e) : Nat) : Int), .int .i64 ((n + cl e : Nat) : Int), .int .i64 n, .int .i64 0, .int .i64 (cl e)], .int .i64 0]) ∧ Keep Z w') := Hid.mk (fun Z => layoutOf_ok hS 1284 f rrc sq n N Z hf hf2 hr hn hN)
  clear hS hkn ht hp hf hf0 hf2 hr hn hN
  generalize kl e = a at *
  generalize cl e = c at *
  generalize rrc % (n + c) = rot at *
  generalize n + c = B at *
  obtain ⟨W, hW⟩ : ∃ W, W = ((w.alloc (.cells #[.int .i32 e, .slice ka kn kc] 43)).alloc (.cells #[.int .u32 us, .bool false] 53)).alloc (.cells #[.int .u16 0, .int .u8 0, .int .u16 0, .int .u16 0, .int .u64 0, .int .i64 0] 77) := ⟨_, rfl⟩
  have kW : Keep w W := by rw [hW]; exact (((Keep.refl w).alloc _).alloc _).alloc _
  have A3 : Arr W w.heap.size 43 [.int .i32 e, .slice ka kn kc] := by rw [hW]; exact (Arr.new w 43 _).keep (((Keep.refl _).alloc _).alloc _)
  have A4 : Arr W (w.heap.size + 1) 53 [.int .u32 us, .bool false] := by rw [hW]; exact (new2 w _ 53 _).keep ((Keep.refl _).alloc _)
  have A6 : Arr W (w.heap.size + 1 + 1) 77 zpn := by rw [hW]; exact new3 w _ _ 77 zpn
  obtain ⟨g3, hg3⟩ : ∃ g3, g3 = w.heap.size := ⟨_, rfl⟩
  rw [← hg3] at A3 A4 A6
  have HG3 := Hid.mk hg3
  have HKW := Hid.mk kW
  have HALL : Hid (∀ Z, Keep W Z → Z.cell? ⟨g3, 0, none⟩ = some (.int .i32 e) ∧ Z.cell? ⟨g3, 1, none⟩ = some (.slice ka kn kc) ∧ Z.cell? ⟨g3 + 1, 0, none⟩ = some (.int .u32 us) ∧ Z.cell? ⟨g3 + 1, 1, none⟩ = some (.bool false)) := Hid.mk (fun Z kz => ⟨(A3.keep kz).cell 0, (A3.keep kz).cell 1, (A4.keep kz).cell 0, (A4.keep kz).cell 1⟩)
  have HA6 := Hid.mk A6
  obtain ⟨c0, c1, c2, c3⟩ := HALL.out W (Keep.refl _)
  clear A3 A4 A6 kW
  go_enter Tryz.func38, Tryz.ntmps38
  go_wp2_with fail
  rw [← hg3, ← hW]
  clear hg3 hW
  refine (CK.out W).mono ?_
  rintro x w1 ⟨rfl, k1⟩
  have K1 := Hid.mk (k1.trans ((Keep.refl w1).alloc (.cells #[.int .i64 a, .int .i64 16, .int .i64 c] 69)))
  have A8 := Hid.mk (Arr.new w1 69 [.int .i64 a, .int .i64 16, .int .i64 c])
  clear k1 c0 c1 c2 c3
  go_wp2_with fail
  generalize hWB : w1.alloc (.cells #[.int .i64 a, .int .i64 16, .int .i64 c] 69) = WB at *
  clear hWB
  generalize hpp : w1.heap.size = p8 at *
  clear hpp
  refine (PK.out WB (HKW.out.trans K1.out)).mono ?_
  rintro x w2 ⟨rfl, k2⟩
  have kA := (Keep.refl w2).alloc (.cells #[.int .u16 1284, .int .u8 f, .int .u16 c, .int .u16 rrc, .int .u64 sq] 56)
  have K2 := Hid.mk (K1.out.trans (k2.trans kA))
  have A8b := Hid.mk (A8.out.keep (k2.trans kA))
  have A10 := Hid.mk (Arr.new w2 56 [.int .u16 1284, .int .u8 f, .int .u16 c, .int .u16 rrc, .int .u64 sq])
  obtain ⟨c0, c1, c2, c3⟩ := HALL.out _ K2.out
  clear k2 kA c0 c1 A8
  go_wp2_with fail
  generalize hWB : w2.alloc (.cells #[.int .u16 1284, .int .u8 f, .int .u16 c, .int .u16 rrc, .int .u64 sq] 56) = WC at *
  clear hWB
  generalize hpp : w2.heap.size = p10 at *
  clear hpp
  refine (CD.out WC).mono ?_
  rintro x w3 ⟨rfl, k3⟩
  have K3 := Hid.mk (K2.out.trans k3)
  have A8c := Hid.mk (A8b.out.keep k3)
  have A10b := Hid.mk (A10.out.keep k3)
  clear c2 c3 A8b A10 k3
  obtain ⟨c0, c1, c2, c3⟩ := HALL.out _ K3.out
  have AA := A8c.out
  have BB := A10b.out
  have s0 := AA.cell 0
  have s1 := AA.cell 1
  have s2 := AA.cell 2
  have h0 := BB.cell 0
  have h1 := BB.cell 1
  have h2 := BB.cell 2
  have h3 := BB.cell 3
  have h4 := BB.cell 4
  simp only [List.getElem?_cons_zero, List.getElem?_cons_succ] at s0 s1 s2 h0 h1 h2 h3 h4
  clear AA BB c1 c2 c3
  go_wp2_with fail
  refine (LO.out w3).mono ?_
  rintro x w4 ⟨rfl, k4⟩
  have kA := (Keep.refl w4).alloc (.cells #[.bool false, .int .i64 (rot : Int), .int .i64 (B : Int), .int .i64 n, .int .i64 0, .int .i64 c] 98)
  have K4 := Hid.mk (K3.out.trans (k4.trans kA))
  have BB := A10b.out.keep (k4.trans kA)
  clear s0 s1 s2 h0 h1 h2 h3 h4 c0
  have h0 := BB.cell 0
  have h1 := BB.cell 1
  have h2 := BB.cell 2
  have h3 := BB.cell 3
  have h4 := BB.cell 4
  simp only [List.getElem?_cons_zero, List.getElem?_cons_succ] at h0 h1 h2 h3 h4
  have A9 := HA6.out.keep K4.out
  clear BB k4 kA
  go_wp2_with (refine wpList_store_rowN (by rfl) 77 (.tmp 6) (.tmp 54) (by rfl) (g3 + 1 + 1) [.int .u16 1284, .int .u8 f, .int .u16 c, .int .u16 rrc, .int .u64 sq, .int .i64 n].toArray (by rfl) (by rfl) 6 77 _ A9 siz77 (by rfl) (by rfl) (by simp [Value.oneCell']) ?_)
  have AR := A9.row [.int .u16 1284, .int .u8 f, .int .u16 c, .int .u16 rrc, .int .u64 sq, .int .i64 n]
  have r0 := AR.cell 0
  have r1 := AR.cell 1
  have r2 := AR.cell 2
  have r3 := AR.cell 3
  have r4 := AR.cell 4
  have r5 := AR.cell 5
  simp only [List.getElem?_cons_zero, List.getElem?_cons_succ] at r0 r1 r2 r3 r4 r5
  refine bodyPost_ret (v := .tuple #[.agg #[.int .u16 1284, .int .u8 f, .int .u16 c, .int .u16 rrc, .int .u64 sq, .int .i64 n], .int .i64 0]) (by simp [results, Tryz.results38, go_sem, r0, r1, r2, r3, r4, r5]) rfl ⟨rfl, (HKW.out.trans K4.out).setRow (by rw [HG3.out]; omega) _⟩
end Go.Proofs.Qxb6500771aGreat
