/- AtTheLimit: token.VerifyMICParts, VerifyMIC. -/
import Derived.Test.Qxb6500771aGreatKb
namespace Go.Proofs.Qxb6500771aGreat
open Go.RowKit Go.Qm
set_option linter.unusedVariables false
set_option linter.unusedSimpArgs false
attribute [local go_sem ↓] Go.wp_at_zero Go.wp_at_succ
set_option maxRecDepth 4000 in
set_option maxHeartbeats 4000000 in
theorem verifyParts_c {e : Int} (hS : srv e) (ka : Option Addr) (kn kc us : Nat) (gt f sq n N c gp : Nat) (ma : Option Addr) (mc : Nat) (key msg : List UInt8) (w : World) (hc : c = cl e) (hc0 : 0 < c) (hN : N = 16 + c) (hn : n ≤ 1048576) (hf : f < 256) (hf0 : f % 2 = 0) (hus : us < 4294967296)
    (hk : Bs w (.slice ka kn kc) key) (hkl : key.length = kl e) (hm : Bs w (.slice ma n mc) msg) (hml : msg.length = n) (hgp : w.cell? ⟨gp, 0, none⟩ = some (.slice ma n mc)) (hb : Bs w (.slice (some ⟨gt, 0, none⟩) N N) (tokM e key msg us f sq)) (hp : parse (tokM e key msg us f sq) = (0, 1028, f, 0, 0, sq)) :
    Calls Tryz.prog 42 #[.agg #[.int .i32 e, .slice ka kn kc], .agg #[.int .u32 us, .bool false], .slice (some ⟨gt, 0, none⟩) N N, .slice (some ⟨gp, 0, none⟩) 1 1] w fun x w' =>
      x = .returned (.tuple #[.agg #[.int .u16 1028, .int .u8 f, .int .u16 0, .int .u16 0, .int .u64 sq], .int .i64 0]) ∧ Keep w w' := by
  have hkn : kn = kl e := by
    obtain ⟨a, c, h1, -⟩ := hk.form
    simp only [Value.slice.injEq] at h1
    omega
  have hcl := cl_le e
  have hsl := mcF_length hS (drvF e key us 153) (msg ++ enc 1028 f 0 0 sq) (drv_key hS key us 153 hkl).2.1
  have b1 : Bs w (.slice (some ⟨gt, 0, none⟩) 16 N) (enc 1028 f 0 0 sq) := by
    have := Bs.part hb (i := 0) (j := 16) (by omega) (by omega) (some ⟨gt, 0, none⟩) (fun _ => by simp [Addr.add])
    rw [tokM, List.drop_zero, Nat.sub_zero, List.take_append_of_le_length (by rw [enc_length]; omega), List.take_of_length_le (by rw [enc_length]; omega)] at this
    exact this
  have b2 : Bs w (.slice (some ⟨gt, 16, none⟩) c c) (mcF e (drvF e key us 153) (msg ++ enc 1028 f 0 0 sq)) := by
    have := Bs.part hb (i := 16) (j := N) (by omega) (by omega) (some ⟨gt, 16, none⟩) (fun _ => by simp [Addr.add])
    rw [tokM, List.drop_append_of_le_length (by rw [enc_length]; omega), List.drop_eq_nil_of_le (by rw [enc_length]; omega), List.nil_append, List.take_of_length_le (by omega), show N - 16 = c by omega] at this
    exact this
  have CK : Hid (∀ Z, Calls Tryz.prog 49 #[.agg #[.int .i32 e, .slice ka kn kc]] Z fun x w' => x = .returned (.tuple #[.agg #[.int .i64 (kl e), .int .i64 16, .int .i64 c], .int .i64 0]) ∧ Keep Z w') := Hid.mk (fun Z => by rw [hc]; exact checkKey_ok e ka kn kc Z hS hkn)
  have PK : Hid (∀ Z, Keep w Z → Calls Tryz.prog 50 #[.slice (some ⟨gt, 0, none⟩) N N, .int .u16 1028] Z fun x w' => x = .returned (.tuple #[.agg #[.int .u16 1028, .int .u8 f, .int .u16 0, .int .u16 0, .int .u64 sq], .int .i64 0]) ∧ Keep Z w') := Hid.mk (fun Z kz => parseKind_ok _ _ Z (hb.keep kz) 1028 f 0 0 sq hp)
  have CD : Hid (∀ Z, Calls Tryz.prog 51 #[.agg #[.int .u16 1028, .int .u8 f, .int .u16 0, .int .u16 0, .int .u64 sq], .agg #[.int .u32 us, .bool false]] Z fun x w' => x = .returned (.int .i64 0) ∧ Keep Z w') := Hid.mk (fun Z => checkDirection_ok 1028 f 0 0 sq us Z hf hf0)
  have LO : Hid (∀ Z, Keep w Z → Calls Tryz.prog 45 #[.slice (some ⟨gp, 0, none⟩) 1 1] Z fun x w' => x = .returned (.int .i64 n) ∧ Keep Z w') := Hid.mk (fun Z kz => by
    have := lengthOf_c gp ma n mc Z (by omega) (kz.cell hgp)
    rw [show lof n = n from if_pos hn] at this
    exact this)
  have CV : Hid (∀ Z, Keep w Z → Calls Tryz.prog 56 #[.slice (some ⟨gp, 0, none⟩) 1 1, .int .i64 n, .slice (some ⟨gt, 0, none⟩) 16 N] Z _) := Hid.mk (fun Z kz => coveredByMIC_c gp ma n mc msg (enc 1028 f 0 0 sq) (.slice (some ⟨gt, 0, none⟩) 16 N) Z hn (kz.cell hgp) (hm.keep kz) hml (b1.keep kz) (enc_length _ _ _ _ _))
  have hLL : (msg ++ enc 1028 f 0 0 sq).length = n + 16 := by rw [List.length_append, hml, enc_length]
  have VP : Hid (∀ Z gb, Keep w Z → Win Z gb 5 [] (msg ++ enc 1028 f 0 0 sq) [] → Calls Tryz.prog 57 #[.agg #[.int .i32 e, .slice ka kn kc], .int .u32 us, .slice (some ⟨gb, 0, none⟩) (n + 16) (n + 16), .slice (some ⟨gt, 16, none⟩) c c] Z fun x w' => x = .returned (.bool true) ∧ Keep Z w') := Hid.mk (fun Z gb kz V => verifyP_c hS ka kn kc key us _ _ _ _ Z (hk.keep kz) hkl hus (Win.bs V hLL.symm (Nat.le_refl _) (by unfold maxLen; omega)) (by rw [hLL]; omega) (b2.keep kz) rfl)
  have x1 : IntKind.i64.wrap (16 + (c : Int)) = (N : Int) := by rw [IntKind.wrap_i64]; omega
  have x2 : ¬ N = 16 := by omega
  have x3 : N - 16 = c := by omega
  have x4 : (16 : Int) ≤ N := by omega
  have x5 : ¬ ((n : Int) > 1048576) := by omega
  have x6 : ¬ ((N : Int) < (N : Int)) := by omega
  have x7 : ¬ ((N : Int) > (N : Int)) := by omega
  have HLL := Hid.mk hLL
  have HN := Hid.mk hn
  clear hS hc hc0 hN hn hf hf0 hus hk hkl hm hml hgp hb hp hkn hcl hsl b1 b2 hLL
  generalize kl e = a at *
  obtain ⟨W, hW⟩ : ∃ W, W = ((w.alloc (.cells #[.int .i32 e, .slice ka kn kc] 43)).alloc (.cells #[.int .u32 us, .bool false] 53)).alloc (.cells #[.int .u16 0, .int .u8 0, .int .u16 0, .int .u16 0, .int .u64 0] 56) := ⟨_, rfl⟩
  have kW : Keep w W := by rw [hW]; exact (((Keep.refl w).alloc _).alloc _).alloc _
  have A3 : Arr W w.heap.size 43 [.int .i32 e, .slice ka kn kc] := by rw [hW]; exact (Arr.new w 43 _).keep (((Keep.refl _).alloc _).alloc _)
  have A4 : Arr W (w.heap.size + 1) 53 [.int .u32 us, .bool false] := by rw [hW]; exact (new2 w _ 53 _).keep ((Keep.refl _).alloc _)
  have A9 : Arr W (w.heap.size + 1 + 1) 56 zhd5 := by rw [hW]; exact new3 w _ _ 56 zhd5
  obtain ⟨g3, hg3⟩ : ∃ g3, g3 = w.heap.size := ⟨_, rfl⟩
  rw [← hg3] at A3 A4 A9
  have HG3 := Hid.mk hg3
  have HKW := Hid.mk kW
  have HALL : Hid (∀ Z, Keep W Z → Z.cell? ⟨g3, 0, none⟩ = some (.int .i32 e) ∧ Z.cell? ⟨g3, 1, none⟩ = some (.slice ka kn kc) ∧ Z.cell? ⟨g3 + 1, 0, none⟩ = some (.int .u32 us) ∧ Z.cell? ⟨g3 + 1, 1, none⟩ = some (.bool false)) := Hid.mk (fun Z kz => ⟨(A3.keep kz).cell 0, (A3.keep kz).cell 1, (A4.keep kz).cell 0, (A4.keep kz).cell 1⟩)
  have HA9 := Hid.mk A9
  obtain ⟨c0, c1, c2, c3⟩ := HALL.out W (Keep.refl _)
  clear A3 A4 A9 kW
  go_enter Tryz.func42, Tryz.ntmps42
  go_wp2_with fail
  rw [← hg3, ← hW]
  clear hg3 hW
  refine (CK.out W).mono ?_
  rintro x w1 ⟨rfl, k1⟩
  have K1 := Hid.mk (k1.trans ((Keep.refl w1).alloc (.cells #[.int .i64 a, .int .i64 16, .int .i64 c] 69)))
  have A8 := Hid.mk (Arr.new w1 69 [.int .i64 a, .int .i64 16, .int .i64 c])
  clear k1 c0 c1 c2 c3
  go_wp2_with fail
  generalize hWB : w1.alloc (.cells #[.int .i64 a, .int .i64 16, .int .i64 c] 69) = WB at *
  clear hWB
  generalize hpp : w1.heap.size = p10 at *
  clear hpp
  refine (PK.out WB (HKW.out.trans K1.out)).mono ?_
  rintro x w2 ⟨rfl, k2⟩
  have kA := (Keep.refl w2).alloc (.cells #[.int .u16 1028, .int .u8 f, .int .u16 0, .int .u16 0, .int .u64 sq] 56)
  have K2 := Hid.mk (K1.out.trans (k2.trans kA))
  have A8b := Hid.mk (A8.out.keep (k2.trans kA))
  have A12 := Hid.mk (Arr.new w2 56 [.int .u16 1028, .int .u8 f, .int .u16 0, .int .u16 0, .int .u64 sq])
  obtain ⟨c0, c1, c2, c3⟩ := HALL.out _ K2.out
  clear k2 kA c0 c1 A8
  go_wp2_with fail
  generalize hWB : w2.alloc (.cells #[.int .u16 1028, .int .u8 f, .int .u16 0, .int .u16 0, .int .u64 sq] 56) = WC at *
  clear hWB
  generalize hpp : w2.heap.size = p12 at *
  clear hpp
  refine (CD.out WC).mono ?_
  rintro x w3 ⟨rfl, k3⟩
  have K3 := Hid.mk (K2.out.trans k3)
  have A8c := Hid.mk (A8b.out.keep k3)
  have A12b := Hid.mk (A12.out.keep k3)
  clear c2 c3 A8b A12 k3
  have AA := A8c.out
  have s2 := AA.cell 2
  simp only [List.getElem?_cons_zero, List.getElem?_cons_succ] at s2
  clear AA
  go_wp2_with fail
  refine (LO.out w3 (HKW.out.trans K3.out)).mono ?_
  rintro x w4 ⟨rfl, k4⟩
  have K4 := Hid.mk (K3.out.trans k4)
  have A12c := Hid.mk (A12b.out.keep k4)
  clear s2 A8c A12b k4
  go_wp2_with fail
  refine (CV.out w4 (HKW.out.trans K4.out)).mono ?_
  rintro x w5 ⟨gb, rfl, hgb, V5, k5⟩
  have K5 := Hid.mk (K4.out.trans k5)
  have A12d := Hid.mk (A12c.out.keep k5)
  have hp12 : p12 ≠ gb := by have := A12c.out.lt; omega
  have hWgb : W.heap.size ≤ gb := Nat.le_trans K4.out.size hgb
  have HV5 := Hid.mk V5
  clear A12c V5 k5 hgb
  have HS5 : Hid (∀ Z, Keep W Z → Z.cell? ⟨g3, 0, none⟩ = some (.int .i32 e) ∧ Z.cell? ⟨g3, 1, none⟩ = some (.slice ka kn kc) ∧ Z.cell? ⟨g3 + 1, 0, none⟩ = some (.int .u32 us)) := Hid.mk (fun Z kz => ⟨(HALL.out Z kz).1, (HALL.out Z kz).2.1, (HALL.out Z kz).2.2.1⟩)
  have Q0 : Keep W w5.drew := K5.out.drew
  have C6 := Hid.mk (VP.out w5.drew gb (HKW.out.trans Q0) HV5.out.drew)
  obtain ⟨c0, c1, c2⟩ := HS5.out w5 K5.out
  go_upto_region 18 with fail
  go_region_held3 (fun Z => Z.cell? ⟨g3, 0, none⟩ = some (.int .i32 e) ∧ Z.cell? ⟨g3, 1, none⟩ = some (.slice ka kn kc) ∧ Z.cell? ⟨g3 + 1, 0, none⟩ = some (.int .u32 us))
    ((refine HS5.out _ ?_; first | (with_reducible exact Q1) | (with_reducible exact Q0)))
    (first
    | (go_at_call 57; refine C6.out.mono ?_; rintro x w6 ⟨rfl, q6⟩; have Q1 : Keep W w6 := Q0.trans q6))
  rename_i hHd
  have k6 := (Keep.refl w5).drew.trans q6
  have HV6 := Hid.mk (HV5.out.keep k6)
  have K6 := Hid.mk Q1
  have A12e := Hid.mk (A12d.out.keep k6)
  have C7 := Hid.mk (wipe_c gb (n + 16) (n + 16) (msg ++ enc 1028 f 0 0 sq) [] [] w6 HLL.out.symm (Nat.le_refl _) (by have := HN.out; unfold maxLen; omega) HV6.out)
  clear hHd Q0 Q1 q6 k6 c0 c1 c2 C6 A12d
  go_wp2_with fail
  refine C7.out.mono ?_
  rintro x w7 ⟨rfl, -, gr7⟩
  have K7 := Hid.mk (K6.out.grown gr7 (fun k hk => by cases hk; exact hWgb))
  have BB := A12e.out.kept gr7 hp12
  have h0 := BB.cell 0
  have h1 := BB.cell 1
  have h2 := BB.cell 2
  have h3 := BB.cell 3
  have h4 := BB.cell 4
  simp only [List.getElem?_cons_zero, List.getElem?_cons_succ] at h0 h1 h2 h3 h4
  have A9 := HA9.out.keep K7.out
  clear BB gr7 C7 hp12 hWgb
  go_wp2_with (refine wpList_store_rowN (by rfl) 56 (.tmp 8) (.tmp 77) (by rfl) (g3 + 1 + 1) [.int .u16 1028, .int .u8 f, .int .u16 0, .int .u16 0, .int .u64 sq].toArray (by rfl) (by rfl) 5 56 _ A9 siz56 (by rfl) (by rfl) (by simp [Value.oneCell']) ?_)
  have AR := A9.row [.int .u16 1028, .int .u8 f, .int .u16 0, .int .u16 0, .int .u64 sq]
  have r0 := AR.cell 0
  have r1 := AR.cell 1
  have r2 := AR.cell 2
  have r3 := AR.cell 3
  have r4 := AR.cell 4
  simp only [List.getElem?_cons_zero, List.getElem?_cons_succ] at r0 r1 r2 r3 r4
  refine bodyPost_ret (v := .tuple #[.agg #[.int .u16 1028, .int .u8 f, .int .u16 0, .int .u16 0, .int .u64 sq], .int .i64 0]) (by simp [results, Tryz.results42, go_sem, r0, r1, r2, r3, r4]) rfl ⟨rfl, (HKW.out.trans K7.out).setRow (by rw [HG3.out]; omega) _⟩
set_option maxHeartbeats 2000000 in
theorem verifyM_c {e : Int} (hS : srv e) (ka : Option Addr) (kn kc us : Nat) (gt f sq n N c : Nat) (ma : Option Addr) (mc : Nat) (key msg : List UInt8) (w : World) (hc : c = cl e) (hc0 : 0 < c) (hN : N = 16 + c) (hn : n ≤ 1048576) (hf : f < 256) (hf0 : f % 2 = 0) (hus : us < 4294967296)
    (hk : Bs w (.slice ka kn kc) key) (hkl : key.length = kl e) (hm : Bs w (.slice ma n mc) msg) (hml : msg.length = n) (hb : Bs w (.slice (some ⟨gt, 0, none⟩) N N) (tokM e key msg us f sq)) (hp : parse (tokM e key msg us f sq) = (0, 1028, f, 0, 0, sq)) :
    Calls Tryz.prog 25 #[.agg #[.int .i32 e, .slice ka kn kc], .agg #[.int .u32 us, .bool false], .slice (some ⟨gt, 0, none⟩) N N, .slice ma n mc] w fun x w' =>
      x = .returned (.tuple #[.agg #[.int .u16 1028, .int .u8 f, .int .u16 0, .int .u16 0, .int .u64 sq], .int .i64 0]) ∧ Keep w w' := by
  obtain ⟨W, hW⟩ : ∃ W, W = (((w.alloc (.cells #[.int .i32 e, .slice ka kn kc] 43)).alloc (.cells #[.int .u32 us, .bool false] 53)).alloc (.cells #[.int .u16 0, .int .u8 0, .int .u16 0, .int .u16 0, .int .u64 0] 56)).alloc (.cells #[.slice ma n mc] 26) := ⟨_, rfl⟩
  have kW : Keep w W := by rw [hW]; exact ((((Keep.refl w).alloc _).alloc _).alloc _).alloc _
  have A9 : Arr W (w.heap.size + 1 + 1) 56 zhd5 := by rw [hW]; exact (new3 w _ _ 56 zhd5).keep ((Keep.refl _).alloc _)
  have AP : Arr W (w.heap.size + 1 + 1 + 1) 26 [.slice ma n mc] := by
    rw [hW]
    have := Arr.new (((w.alloc (.cells #[.int .i32 e, .slice ka kn kc] 43)).alloc (.cells #[.int .u32 us, .bool false] 53)).alloc (.cells #[.int .u16 0, .int .u8 0, .int .u16 0, .int .u16 0, .int .u64 0] 56)) 26 [.slice ma n mc]
    rw [World.size_alloc, World.size_alloc, World.size_alloc] at this
    exact this
  have C := Hid.mk (verifyParts_c hS ka kn kc us gt f sq n N c (w.heap.size + 1 + 1 + 1) ma mc key msg W hc hc0 hN hn hf hf0 hus (hk.keep kW) hkl (hm.keep kW) hml (AP.cell 0) (hb.keep kW) hp)
  have HKW := Hid.mk kW
  have HA9 := Hid.mk A9
  clear hS hc hc0 hN hn hf hf0 hus hk hkl hm hml hb hp A9 AP kW
  go_enter Tryz.func25, Tryz.ntmps25
  go_wp2_with fail
  rw [← hW]
  clear hW
  refine C.out.mono ?_
  rintro x w1 ⟨rfl, k1⟩
  have A9 := HA9.out.keep k1
  have K1 := Hid.mk (HKW.out.trans k1)
  clear k1
  go_wp2_with (refine wpList_store_rowN (by rfl) 56 (.tmp 8) (.tmp 16) (by rfl) (w.heap.size + 1 + 1) [.int .u16 1028, .int .u8 f, .int .u16 0, .int .u16 0, .int .u64 sq].toArray (by rfl) (by rfl) 5 56 _ A9 siz56 (by rfl) (by rfl) (by simp [Value.oneCell']) ?_)
  have AR := A9.row [.int .u16 1028, .int .u8 f, .int .u16 0, .int .u16 0, .int .u64 sq]
  have r0 := AR.cell 0
  have r1 := AR.cell 1
  have r2 := AR.cell 2
  have r3 := AR.cell 3
  have r4 := AR.cell 4
  simp only [List.getElem?_cons_zero, List.getElem?_cons_succ] at r0 r1 r2 r3 r4
  refine bodyPost_ret (v := .tuple #[.agg #[.int .u16 1028, .int .u8 f, .int .u16 0, .int .u16 0, .int .u64 sq], .int .i64 0]) (by simp [results, Tryz.results25, go_sem, r0, r1, r2, r3, r4]) rfl ⟨rfl, K1.out.setRow (by omega) _⟩
end Go.Proofs.Qxb6500771aGreat
