/- AtTheLimit: token.openUnsealed. -/
import Derived.Test.Qxb6500771aGreatKc
namespace Go.Proofs.Qxb6500771aGreat
open Go.RowKit Go.Qm
set_option linter.unusedVariables false
set_option linter.unusedSimpArgs false
attribute [local go_sem ↓] Go.wp_at_zero Go.wp_at_succ
set_option maxRecDepth 4000 in
set_option maxHeartbeats 4000000 in
theorem openUnsealed_c {e : Int} (hS : srv e) (ka : Option Addr) (kn kc us : Nat) (gb f ec rrc sq n Bn c : Nat) (key msg : List UInt8) (w : World) (hc : c = cl e) (hc0 : 0 < c) (hBn : Bn = n + c) (hn : n ≤ 1048576) (hf : f < 256) (hsq : sq < 2 ^ 64) (hus : us < 4294967296)
    (hk : Bs w (.slice ka kn kc) key) (hkl : key.length = kl e) (hml : msg.length = n) (hb : Bs w (.slice (some ⟨gb, 0, none⟩) Bn Bn) (msg ++ mcF e (drvF e key us 153) (msg ++ enc 1284 f 0 0 sq))) :
    Calls Tryz.prog 55 #[.agg #[.int .u16 1284, .int .u8 f, .int .u16 ec, .int .u16 rrc, .int .u64 sq, .int .i64 n], .agg #[.int .i32 e, .slice ka kn kc], .int .u32 us, .slice (some ⟨gb, 0, none⟩) Bn Bn] w fun x w' =>
      ∃ g, x = .returned (.tuple #[.slice (some ⟨g, 0, none⟩) (n + 16) (n + 16), .int .i64 0]) ∧ w.heap.size ≤ g ∧ Win w' g 5 [] (msg ++ enc 1284 f 0 0 sq) [] ∧ Keep w w' := by
  have hcl := cl_le e
  have hsl := mcF_length hS (drvF e key us 153) (msg ++ enc 1284 f 0 0 sq) (drv_key hS key us 153 hkl).2.1
  have HSM : Hid (mcF e (drvF e key us 153) (msg ++ enc 1284 f 0 0 sq) = mcF e (drvF e key us 153) (msg ++ enc 1284 f 0 0 sq)) := Hid.mk rfl
  obtain ⟨sm, hsm⟩ : ∃ sm, sm = mcF e (drvF e key us 153) (msg ++ enc 1284 f 0 0 sq) := ⟨_, rfl⟩
  rw [← hsm] at hb hsl
  rw [← hc] at hsl
  clear HSM
  have b1 : Bs w (.slice (some ⟨gb, 0, none⟩) n Bn) msg := by
    have := Bs.part hb (i := 0) (j := n) (by omega) (by omega) (some ⟨gb, 0, none⟩) (fun _ => by simp [Addr.add])
    rw [List.drop_zero, Nat.sub_zero, List.take_append_of_le_length (by omega), List.take_of_length_le (by omega)] at this
    exact this
  have b2 : Bs w (.slice (some ⟨gb, n, none⟩) c c) sm := by
    have := Bs.part hb (i := n) (j := Bn) (by omega) (by omega) (some ⟨gb, n, none⟩) (fun _ => by simp [Addr.add])
    rw [List.drop_append_of_le_length (by omega), List.drop_eq_nil_of_le (by omega), List.nil_append, List.take_of_length_le (by omega), show Bn - n = c by omega] at this
    exact this
  obtain ⟨W, hW⟩ : ∃ W, W = (w.alloc (.cells #[.int .u16 1284, .int .u8 f, .int .u16 ec, .int .u16 rrc, .int .u64 sq, .int .i64 n] 77)).alloc (.cells #[.int .i32 e, .slice ka kn kc] 43) := ⟨_, rfl⟩
  have kW : Keep w W := by rw [hW]; exact ((Keep.refl w).alloc _).alloc _
  have A4 : Arr W w.heap.size 77 [.int .u16 1284, .int .u8 f, .int .u16 ec, .int .u16 rrc, .int .u64 sq, .int .i64 n] := by rw [hW]; exact (Arr.new w 77 _).keep ((Keep.refl _).alloc _)
  have A5 : Arr W (w.heap.size + 1) 43 [.int .i32 e, .slice ka kn kc] := by rw [hW]; exact new2 w _ 43 _
  have hWs : W.heap.size = w.heap.size + 1 + 1 := by rw [hW, World.size_alloc, World.size_alloc]
  have hmk := run_make1 (P := Tryz.prog) Tryz.underlying26 inf5 rfl ((n : Int) + 16) ((n : Int) + 16) (by omega) (by omega) (by omega) (by omega) W
  have hto : ((n : Int) + 16).toNat = n + 16 := by omega
  rw [hto] at hmk
  obtain ⟨W2, hW2⟩ : ∃ W2, W2 = W.alloc (.cells (rep (n + 16) (.int .u8 0)) 5) := ⟨_, rfl⟩
  have k2 : Keep W W2 := by rw [hW2]; exact (Keep.refl W).alloc _
  have V2 : Win W2 W.heap.size 5 [] (List.replicate (n + 16) 0) [] := by
    show W2.heap[W.heap.size]? = _
    rw [hW2, heap_alloc_new, rep_cb]; simp
  rw [← hW2, hWs] at hmk
  rw [hWs] at V2
  obtain ⟨W3, hcp, V3, gr3⟩ := copy_into V2 (b1.keep (kW.trans k2)) (o := 0) (k := 0) (n := n) (dLen := n + 16) (dCap := n + 16) rfl hml.symm (by rw [List.length_replicate]; omega) (by omega)
  have V3a : Win W3 (w.heap.size + 1 + 1) 5 [] (msg ++ List.replicate 16 0) [] := V3.cut (by rw [List.take_zero, List.nil_append, List.drop_replicate, show n + 16 - (0 + n) = 16 by omega]; simp)
  have K3 : Keep W W3 := k2.grown gr3 (fun k hk => by cases hk; omega)
  have HALL : Hid (∀ Z, Keep W Z → Z.cell? ⟨w.heap.size, 0, none⟩ = some (.int .u16 1284) ∧ Z.cell? ⟨w.heap.size, 1, none⟩ = some (.int .u8 f) ∧ Z.cell? ⟨w.heap.size, 2, none⟩ = some (.int .u16 ec) ∧ Z.cell? ⟨w.heap.size, 3, none⟩ = some (.int .u16 rrc) ∧ Z.cell? ⟨w.heap.size, 4, none⟩ = some (.int .u64 sq) ∧ Z.cell? ⟨w.heap.size, 5, none⟩ = some (.int .i64 n) ∧ Z.cell? ⟨w.heap.size + 1, 0, none⟩ = some (.int .i32 e) ∧ Z.cell? ⟨w.heap.size + 1, 1, none⟩ = some (.slice ka kn kc)) := Hid.mk (fun Z kz => ⟨(A4.keep kz).cell 0, (A4.keep kz).cell 1, (A4.keep kz).cell 2, (A4.keep kz).cell 3, (A4.keep kz).cell 4, (A4.keep kz).cell 5, (A5.keep kz).cell 0, (A5.keep kz).cell 1⟩)
  have x1 : IntKind.i64.wrap ((n : Int) + 16) = (n : Int) + 16 := by rw [IntKind.wrap_i64]; omega
  have x2 : ¬ Bn = n := by omega
  have x3 : Bn - n = c := by omega
  have x4 : (n : Int) ≤ Bn := by omega
  have x5 : (0 : Int) ≤ n := by omega
  have HB2 := Hid.mk b2
  have HKW := Hid.mk kW
  have HK := Hid.mk hk
  have HKL := Hid.mk hkl
  have HML := Hid.mk hml
  have HS := Hid.mk hS
  have HSM := Hid.mk hsm
  have HSQ := Hid.mk hsq
  have HK3 := Hid.mk K3
  have HV3 := Hid.mk V3a
  have HNB := Hid.mk hn
  have HWS := Hid.mk hWs
  obtain ⟨p0, p1, p2, p3, p4, p5, p6, p7⟩ := HALL.out W2 k2
  obtain ⟨q0, q1, q2, q3, q4, q5, q6, q7⟩ := HALL.out W3 K3
  clear b1 b2 hb hsl hk hkl hml kW A4 A5 hcl hsm hBn hc hn k2 V2 V3 V3a gr3 K3 hto hsq hS hWs p6 p7 hW2
  rw [hW] at hmk
  go_enter Tryz.func55, Tryz.ntmps55
  go_upto_region 7 with fail
  have k4 : Keep W3 (W3.alloc (.cells #[.int .u16 1284, .int .u8 f, .int .u16 0, .int .u16 0, .int .u64 sq] 56)) := (Keep.refl W3).alloc _
  have F4 : Five (W3.alloc (.cells #[.int .u16 1284, .int .u8 f, .int .u16 0, .int .u16 0, .int .u64 sq] 56)) W3.heap.size (.int .u16 1284) (.int .u8 f) (.int .u16 0) (.int .u16 0) (.int .u64 sq) := Five.new _ _ _ _ _ _
  generalize hWB : W3.alloc (.cells #[.int .u16 1284, .int .u8 f, .int .u16 0, .int .u16 0, .int .u64 sq] 56) = W4 at *
  clear hWB
  have HGH : Hid (w.heap.size ≤ W3.heap.size ∧ W.heap.size ≤ W3.heap.size) := Hid.mk ⟨(HKW.out.trans HK3.out).size, HK3.out.size⟩
  have hgl := HV3.out.lt
  have hgne : W3.heap.size ≠ w.heap.size + 1 + 1 := by omega
  generalize hgh : W3.heap.size = gh at *
  have hgh2 := HV3.out.lt
  clear hgh hgl hgh2
  obtain ⟨gc, hgc⟩ : ∃ gc, gc = w.heap.size + 1 + 1 := ⟨_, rfl⟩
  rw [← hgc] at HV3 hgne HWS
  rw [← hgc]
  have HLB : Hid (w.heap.size ≤ gc ∧ W.heap.size ≤ gc) := Hid.mk ⟨by omega, Nat.le_of_eq HWS.out⟩
  clear hgc
  have V4 : Win W4 gc 5 (msg.map cb) (List.replicate 16 0) [] := (HV3.out.keep k4).cut (by simp)
  have y2 : n + 16 - n = 16 := by omega
  have y3 : (n : Int) ≤ ((n + 16 : Nat) : Int) := by omega
  have y4 : (n : Int) ≤ (n : Int) + 16 := by omega
  have y6 : n ≤ n + 16 := by omega
  have C4 := Hid.mk (writeHeader_c gc n 16 (msg.map cb) [] (List.replicate 16 0) 1284 f 0 0 sq W4.drew (by rw [List.length_map, HML.out]) (by simp) (by omega) (by unfold maxLen; omega) (Or.inl rfl) hf (by omega) (by omega) HSQ.out V4)
  have HK4 := Hid.mk (HK3.out.trans k4)
  have HS4 : Hid (∀ Z, Keep W Z ∧ Five Z gh (.int .u16 1284) (.int .u8 f) (.int .u16 0) (.int .u16 0) (.int .u64 sq) → Z.cell? ⟨w.heap.size, 5, none⟩ = some (.int .i64 n) ∧ Z.cell? ⟨gh, 0, none⟩ = some (.int .u16 1284) ∧ Z.cell? ⟨gh, 1, none⟩ = some (.int .u8 f) ∧ Z.cell? ⟨gh, 2, none⟩ = some (.int .u16 0) ∧ Z.cell? ⟨gh, 3, none⟩ = some (.int .u16 0) ∧ Z.cell? ⟨gh, 4, none⟩ = some (.int .u64 sq)) := Hid.mk (fun Z hz => ⟨(HALL.out Z hz.1).2.2.2.2.2.1, hz.2.cells⟩)
  have Q0 : Keep W W4.drew ∧ Five W4.drew gh (.int .u16 1284) (.int .u8 f) (.int .u16 0) (.int .u16 0) (.int .u64 sq) := ⟨HK4.out.drew, F4⟩
  obtain ⟨d5, h0, h1, h2, h3, h4⟩ := HS4.out W4 ⟨HK4.out, F4⟩
  clear V4 k4 F4 p0 p1 p2 p3 p4 p5 q0 q1 q2 q3 q4 q5 q6 q7 hmk hcp hW
  go_region_held3 (fun Z => Z.cell? ⟨w.heap.size, 5, none⟩ = some (.int .i64 n) ∧ Z.cell? ⟨gh, 0, none⟩ = some (.int .u16 1284) ∧ Z.cell? ⟨gh, 1, none⟩ = some (.int .u8 f) ∧ Z.cell? ⟨gh, 2, none⟩ = some (.int .u16 0) ∧ Z.cell? ⟨gh, 3, none⟩ = some (.int .u16 0) ∧ Z.cell? ⟨gh, 4, none⟩ = some (.int .u64 sq))
    ((refine HS4.out _ ?_; first | (with_reducible exact Q1) | (with_reducible exact Q0)))
    (first
    | (go_at_call 62; refine C4.out.mono ?_; rintro x W5 ⟨rfl, V5, gr5⟩; have Q1 : Keep W W5 ∧ Five W5 gh (.int .u16 1284) (.int .u8 f) (.int .u16 0) (.int .u16 0) (.int .u64 sq) := ⟨Q0.1.grown gr5 (fun k hk => by cases hk; exact HLB.out.2), Q0.2.kept gr5 hgne⟩))
  rename_i hHd
  have HV5 : Hid (Win W5 gc 5 [] (msg ++ enc 1284 f 0 0 sq) []) := Hid.mk (V5.cut (by simp))
  have HK5 := Hid.mk Q1.1
  have HL5 : Hid ((msg ++ enc 1284 f 0 0 sq).length = n + 16) := Hid.mk (by rw [List.length_append, HML.out, enc_length])
  have kw5 := HKW.out.trans HK5.out
  have C5 := Hid.mk (verifyP_c HS.out ka kn kc key us (.slice (some ⟨gc, 0, none⟩) (n + 16) (n + 16)) (.slice (some ⟨gb, n, none⟩) c c) (msg ++ enc 1284 f 0 0 sq) sm W5 (HK.out.keep kw5) HKL.out hus (Win.bs HV5.out HL5.out.symm (Nat.le_refl _) (by have := HNB.out; unfold maxLen; omega)) (by have := HNB.out; rw [HL5.out]; omega) (HB2.out.keep kw5) HSM.out)
  clear hHd V5 gr5 Q0 Q1 C4 h0 h1 h2 h3 h4 HS4 d5 kw5
  obtain ⟨q0, q1, q2, q3, q4, q5, q6, q7⟩ := HALL.out W5 HK5.out
  clear q0 q1 q2 q3 q4 q5
  go_wp2_with fail
  refine C5.out.mono ?_
  rintro x W6 ⟨rfl, k6⟩
  have HV6 := Hid.mk (HV5.out.keep k6)
  have HK6 := Hid.mk (HKW.out.trans (HK5.out.trans k6))
  clear k6 C5 q6 q7
  go_wp2_with fail
  go_ret2
  exact ⟨gc, rfl, HLB.out.1, HV6.out, HK6.out⟩
end Go.Proofs.Qxb6500771aGreat
