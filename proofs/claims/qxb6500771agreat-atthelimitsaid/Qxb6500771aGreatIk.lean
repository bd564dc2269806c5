/- token.writeMIC, MICParts, MIC. -/
import Derived.Test.Qxb6500771aGreatIj
import Derived.Test.Qxb6500771aGreatIi
namespace Go.Proofs.Qxb6500771aGreat
open Go.RowKit Go.Qm
set_option linter.unusedVariables false
set_option linter.unusedSimpArgs false
attribute [local go_sem ↓] Go.wp_at_zero Go.wp_at_succ
theorem bs_kept2 {w w' : World} {v : Value} {l : List UInt8} {g : Nat} (h : Bs w v l) (gr : w.grownBy w' (some g)) (hne : l.length ≠ 0 → v.ownBlock ≠ some g) : Bs w' v l := by
  by_cases h0 : l.length = 0
  · obtain ⟨a, c, rfl, h1, h2, -⟩ := h.form
    have : l = [] := List.eq_nil_of_length_eq_zero h0
    subst this
    exact Bs.nil a c h2
  · exact h.kept gr (hne h0)
/-- A MIC token. -/
def tokM (e : Int) (key msg : List UInt8) (us f sq : Nat) : List UInt8 := enc 1028 f 0 0 sq ++ mcF e (drvF e key us 153) (msg ++ enc 1028 f 0 0 sq)
set_option maxRecDepth 4000 in
set_option maxHeartbeats 4000000 in
theorem writeMIC_c {e : Int} (hS : srv e) (g N n : Nat) (m msg key : List UInt8) (ka : Option Addr) (kn kc : Nat) (us f sq ec rrc : Nat) (ac : Option Addr) (nc cc gp : Nat) (ma : Option Addr) (mc : Nat) (w : World)
    (hN : N = m.length) (hn : N = 16 + cl e) (hnb : n ≤ 1048576) (hg : Win w g 5 [] m [])
    (hk : Bs w (.slice ka kn kc) key) (hkl : key.length = kl e) (hus : us < 4294967296) (hf : f < 256) (hsq : sq < 2 ^ 64)
    (hp : w.cell? ⟨gp, 0, none⟩ = some (.slice ma n mc)) (hm : Bs w (.slice ma n mc) msg) (hml : msg.length = n) (hcl0 : 0 < cl e) (hgp : gp ≠ g) (hkg : (Value.slice ka kn kc).ownBlock ≠ some g) (hmg : msg.length ≠ 0 → (Value.slice ma n mc).ownBlock ≠ some g) :
    Calls Tryz.prog 48 #[.slice (some ⟨g, 0, none⟩) N N, .agg #[.int .i32 e, .slice ka kn kc], .agg #[.int .u32 us, .int .u8 f, .int .u64 sq, .int .u16 ec, .int .u16 rrc, .slice ac nc cc], .slice (some ⟨gp, 0, none⟩) 1 1, .int .i64 n] w fun x w' =>
      x = .returned (.tuple #[]) ∧ Win w' g 5 [] (tokM e key msg us f sq) [] ∧ w.grownBy w' (some g) := by
  obtain ⟨W, hW⟩ : ∃ W, W = (w.alloc (.cells #[.int .i32 e, .slice ka kn kc] 43)).alloc (.cells #[.int .u32 us, .int .u8 f, .int .u64 sq, .int .u16 ec, .int .u16 rrc, .slice ac nc cc] 46) := ⟨_, rfl⟩
  have kW : Keep w W := by rw [hW]; exact ((Keep.refl w).alloc _).alloc _
  have A6 : Arr W w.heap.size 43 [.int .i32 e, .slice ka kn kc] := by rw [hW]; exact (Arr.new w 43 _).keep ((Keep.refl _).alloc _)
  have A7 : Arr W (w.heap.size + 1) 46 [.int .u32 us, .int .u8 f, .int .u64 sq, .int .u16 ec, .int .u16 rrc, .slice ac nc cc] := by rw [hW]; exact new2 w _ 46 _
  obtain ⟨g6, hg6⟩ : ∃ g6, g6 = w.heap.size := ⟨_, rfl⟩
  rw [← hg6] at A6 A7
  have hgl := hg.lt
  have hn6 : g6 ≠ g := by omega
  have hn7 : g6 + 1 ≠ g := by omega
  have hcl := cl_le e
  have c1 : (16 : Int) ≤ N := by omega
  have c3 : ¬ N = 16 := by omega
  have c4 : 16 ≤ N := by omega
  have c5 : N - 16 = cl e := by omega
  have HALL : Hid (∀ Z, Arr Z g6 43 [.int .i32 e, .slice ka kn kc] ∧ Arr Z (g6 + 1) 46 [.int .u32 us, .int .u8 f, .int .u64 sq, .int .u16 ec, .int .u16 rrc, .slice ac nc cc] → Z.cell? ⟨g6, 0, none⟩ = some (.int .i32 e) ∧ Z.cell? ⟨g6, 1, none⟩ = some (.slice ka kn kc) ∧ Z.cell? ⟨g6 + 1, 0, none⟩ = some (.int .u32 us) ∧ Z.cell? ⟨g6 + 1, 1, none⟩ = some (.int .u8 f) ∧ Z.cell? ⟨g6 + 1, 2, none⟩ = some (.int .u64 sq)) :=
    Hid.mk (fun Z h => ⟨h.1.cell 0, h.1.cell 1, h.2.cell 0, h.2.cell 1, h.2.cell 2⟩)
  have hm16 : (m.take 16).length = 16 := by rw [List.length_take]; omega
  have V1 := win_tk (hg.keep kW) 16
  have C1 := Hid.mk (writeHeader_c g 0 N [] ((m.drop 16).map cb ++ []) (m.take 16) 1028 f 0 0 sq W.drew rfl hm16 (by omega) (by unfold maxLen; omega) (Or.inr rfl) hf (by omega) (by omega) hsq V1)
  have HA6 := Hid.mk A6
  have HA7 := Hid.mk A7
  have HKW := Hid.mk kW
  have HK := Hid.mk hk
  have HM := Hid.mk hm
  have HP := Hid.mk hp
  have HKL := Hid.mk hkl
  have HML := Hid.mk hml
  have HN := Hid.mk hN
  have Hn := Hid.mk hn
  have HG6 := Hid.mk hg6
  obtain ⟨d0, d1, d2, d3, d4⟩ := HALL.out W ⟨A6, A7⟩
  have HNM : Hid (N ≤ 1000) := Hid.mk (by omega)
  have HNB := Hid.mk hnb
  clear hk hm hp hkl hml hN hn hg V1 kW A6 A7 hm16 hsq hcl hnb
  go_enter Tryz.func48, Tryz.ntmps48
  go_wp2_with fail
  rw [← hg6, ← hW]
  clear hg6 hW
  have Q0 : Arr W.drew g6 43 [.int .i32 e, .slice ka kn kc] ∧ Arr W.drew (g6 + 1) 46 [.int .u32 us, .int .u8 f, .int .u64 sq, .int .u16 ec, .int .u16 rrc, .slice ac nc cc] := ⟨HA6.out, HA7.out⟩
  go_region_held3 (fun Z => Z.cell? ⟨g6, 0, none⟩ = some (.int .i32 e) ∧ Z.cell? ⟨g6, 1, none⟩ = some (.slice ka kn kc) ∧ Z.cell? ⟨g6 + 1, 0, none⟩ = some (.int .u32 us) ∧ Z.cell? ⟨g6 + 1, 1, none⟩ = some (.int .u8 f) ∧ Z.cell? ⟨g6 + 1, 2, none⟩ = some (.int .u64 sq))
    ((refine HALL.out _ ?_; first | (with_reducible exact Q1) | (with_reducible exact Q0)))
    (first
    | (go_at_call 62; refine C1.out.mono ?_; rintro x w1 ⟨rfl, V1, gr1⟩; have Q1 : Arr w1 g6 43 [.int .i32 e, .slice ka kn kc] ∧ Arr w1 (g6 + 1) 46 [.int .u32 us, .int .u8 f, .int .u64 sq, .int .u16 ec, .int .u16 rrc, .slice ac nc cc] := ⟨Q0.1.kept gr1 hn6, Q0.2.kept gr1 hn7⟩))
  rename_i hHd
  have kd := HKW.out.drew
  have G1 := grown_trans (keep_grown kd (some g)) gr1
  have M1 := bs_kept2 (HM.out.keep kd) gr1 hmg
  have K1 := (HK.out.keep kd).kept gr1 hkg
  have P1 : w1.cell? ⟨gp, 0, none⟩ = some (.slice ma n mc) := by
    have := gr1.block gp (World.block_lt_of_cell? _ _ (kd.cell HP.out)) (by simpa using hgp)
    have h2 := kd.cell HP.out
    unfold World.cell? at h2 ⊢
    simp only [this]
    exact h2
  have HDB : Bs w1 (.slice (some ⟨g, 0, none⟩) 16 N) (enc 1028 f 0 0 sq) := V1.bs (n := 16) (c := N) (by rw [enc_length]) (by omega) (by have := HNM.out; unfold maxLen; omega)
  have C2 := Hid.mk (coveredByMIC_c gp ma n mc msg (enc 1028 f 0 0 sq) (.slice (some ⟨g, 0, none⟩) 16 N) w1 HNB.out P1 M1 HML.out HDB (enc_length _ _ _ _ _))
  have HV1 : Hid (Win w1 g 5 ((enc 1028 f 0 0 sq).map cb) (m.drop 16) []) := Hid.mk (V1.cut (by simp))
  have HB1 := Hid.mk Q1
  have HG1 := Hid.mk G1
  have HK1 := Hid.mk K1
  clear hHd V1 gr1 kd G1 M1 K1 P1 HDB d0 d1 d2 d3 d4 Q0 Q1 C1
  go_wp2_with fail
  refine C2.out.mono ?_
  rintro x w2 ⟨gb, rfl, hgb, V2, k2⟩
  have hgbg : gb ≠ g := by have := HV1.out.lt; omega
  have HGB : Hid (w.heap.size ≤ gb) := Hid.mk (by have := HG1.out.size; omega)
  have Q0 : Arr w2.drew g6 43 [.int .i32 e, .slice ka kn kc] ∧ Arr w2.drew (g6 + 1) 46 [.int .u32 us, .int .u8 f, .int .u64 sq, .int .u16 ec, .int .u16 rrc, .slice ac nc cc] := ⟨HB1.out.1.keep k2.drew, HB1.out.2.keep k2.drew⟩
  have HL2 : Hid ((msg ++ enc 1028 f 0 0 sq).length = n + 16) := Hid.mk (by rw [List.length_append, HML.out, enc_length])
  have C3 := Hid.mk (getMIC_c hS ka kn kc key us (.slice (some ⟨gb, 0, none⟩) (n + 16) (n + 16)) (msg ++ enc 1028 f 0 0 sq) w2.drew (HK1.out.keep k2.drew) HKL.out hus (Win.bs V2.drew HL2.out.symm (Nat.le_refl _) (by have := HNB.out; unfold maxLen; omega)) (by have := HNB.out; rw [HL2.out]; omega))
  have HSL : Hid ((mcF e (drvF e key us 153) (msg ++ enc 1028 f 0 0 sq)).length = cl e) := Hid.mk (mcF_length hS _ _ (drv_key hS key us 153 HKL.out).2.1)
  have HTK : Hid (tokM e key msg us f sq = enc 1028 f 0 0 sq ++ mcF e (drvF e key us 153) (msg ++ enc 1028 f 0 0 sq)) := Hid.mk rfl
  generalize mcF e (drvF e key us 153) (msg ++ enc 1028 f 0 0 sq) = sm at *
  have HV2 := Hid.mk V2
  have HV12 := Hid.mk (HV1.out.keep k2)
  have HG2 := Hid.mk (grown_trans HG1.out (keep_grown k2 (some g)))
  have HDL : Hid ((m.drop 16).length = cl e) := Hid.mk (by have := HN.out; have := Hn.out; rw [List.length_drop]; omega)
  obtain ⟨d0, d1, d2, d3, d4⟩ := HALL.out w2 ⟨Q0.1, Q0.2⟩
  clear V2 k2 C2 hgb
  go_wp2_with fail
  go_region_held3 (fun Z => Z.cell? ⟨g6, 0, none⟩ = some (.int .i32 e) ∧ Z.cell? ⟨g6, 1, none⟩ = some (.slice ka kn kc) ∧ Z.cell? ⟨g6 + 1, 0, none⟩ = some (.int .u32 us) ∧ Z.cell? ⟨g6 + 1, 1, none⟩ = some (.int .u8 f) ∧ Z.cell? ⟨g6 + 1, 2, none⟩ = some (.int .u64 sq))
    ((refine HALL.out _ ?_; first | (with_reducible exact Q2) | (with_reducible exact Q1) | (with_reducible exact Q0)))
    (first
    | (go_at_call 63; refine C3.out.mono ?_; rintro x w3 ⟨sv, rfl, b3, k3⟩; have Q1 : Arr w3 g6 43 [.int .i32 e, .slice ka kn kc] ∧ Arr w3 (g6 + 1) 46 [.int .u32 us, .int .u8 f, .int .u64 sq, .int .u16 ec, .int .u16 rrc, .slice ac nc cc] := ⟨Q0.1.keep k3, Q0.2.keep k3⟩; obtain ⟨W4, hcp, V4, gr4⟩ := copy_into (HV12.out.drew.keep k3) b3 (o := 16) (k := 0) (n := cl e) (dLen := cl e) (dCap := cl e) (by rw [List.length_map, enc_length]) HSL.out.symm (by rw [HDL.out]; omega) (Nat.le_refl _); have Q2 : Arr W4 g6 43 [.int .i32 e, .slice ka kn kc] ∧ Arr W4 (g6 + 1) 46 [.int .u32 us, .int .u8 f, .int .u64 sq, .int .u16 ec, .int .u16 rrc, .slice ac nc cc] := ⟨Q1.1.kept gr4 hn6, Q1.2.kept gr4 hn7⟩))
  rename_i hHd
  have HV4 : Hid (Win W4 g 5 [] (tokM e key msg us f sq) []) := Hid.mk (V4.cut (by
    rw [HTK.out, List.take_zero, List.nil_append, List.drop_eq_nil_of_le (by rw [HDL.out]; omega), List.append_nil]
    simp))
  have HG4 := Hid.mk (grown_trans (grown_trans (grown_trans HG2.out (grown_drew (grown_refl _ _))) (keep_grown k3 (some g))) gr4)
  have VB := ((HV2.out.drew.keep k3).kept gr4 hgbg)
  have C5 := Hid.mk (wipe_c gb (n + 16) (n + 16) (msg ++ enc 1028 f 0 0 sq) [] [] W4 HL2.out.symm (Nat.le_refl _) (by have := HNB.out; unfold maxLen; omega) VB)
  clear hHd V4 gr4 b3 k3 hcp Q0 Q1 Q2 d0 d1 d2 d3 d4 VB C3
  go_wp2_with fail
  refine C5.out.mono ?_
  rintro x w5 ⟨rfl, -, gr5⟩
  have HV5 := Hid.mk (HV4.out.kept gr5 hgbg.symm)
  have HG5 := Hid.mk (grown_two HG4.out gr5 HGB.out)
  clear gr5 C5
  go_wp2_with fail
  go_end0
  exact ⟨rfl, HV5.out, HG5.out⟩
theorem tokM_length {e : Int} (hS : srv e) (key msg : List UInt8) (us f sq : Nat) (hkl : key.length = kl e) : (tokM e key msg us f sq).length = 16 + cl e := by
  rw [tokM, List.length_append, enc_length, mcF_length hS _ _ (drv_key hS key us 153 hkl).2.1]
set_option maxRecDepth 4000 in
set_option maxHeartbeats 4000000 in
theorem micParts_c {e : Int} (hS : srv e) (da : Option Addr) (ka : Option Addr) (kn kc : Nat) (us f sq : Nat) (ac : Option Addr) (nc cc gp : Nat) (ma : Option Addr) (n mc : Nat) (key msg : List UInt8) (w : World)
    (hk : Bs w (.slice ka kn kc) key) (hkl : key.length = kl e) (hus : us < 4294967296) (hf : f < 8) (hf2 : ¬ f / 2 % 2 = 1) (hsq : sq < 2 ^ 64) (hp : w.cell? ⟨gp, 0, none⟩ = some (.slice ma n mc)) (hm : Bs w (.slice ma n mc) msg) (hml : msg.length = n) (hn : n ≤ 1048576) :
    Calls Tryz.prog 36 #[.slice da 0 0, .agg #[.int .i32 e, .slice ka kn kc], .agg #[.int .u32 us, .int .u8 f, .int .u64 sq, .int .u16 (0 : Nat), .int .u16 (0 : Nat), .slice ac nc cc], .slice (some ⟨gp, 0, none⟩) 1 1] w (RT w (16 + cl e) (fun t => t = tokM e key msg us f sq)) := by
  have hkn : kn = kl e := by
    obtain ⟨a, c, h1, -⟩ := hk.form
    simp only [Value.slice.injEq] at h1
    omega
  have hcl := cl_le e
  have hkl0 := kl_srv hS
  have hcl0 : 0 < cl e := by rcases hS with h | h | h | h | h | h <;> subst h <;> decide
  have K0 := ((Keep.refl w).alloc (.cells #[.int .i32 e, .slice ka kn kc] 43)).alloc (.cells #[.int .u32 us, .int .u8 f, .int .u64 sq, .int .u16 (0 : Nat), .int .u16 (0 : Nat), .slice ac nc cc] 46)
  have AK := (Arr.new w 43 [.int .i32 e, .slice ka kn kc]).keep ((Keep.refl _).alloc (.cells #[.int .u32 us, .int .u8 f, .int .u64 sq, .int .u16 (0 : Nat), .int .u16 (0 : Nat), .slice ac nc cc] 46))
  have AS := new2 w (.cells #[.int .i32 e, .slice ka kn kc] 43) 46 [.int .u32 us, .int .u8 f, .int .u64 sq, .int .u16 (0 : Nat), .int .u16 (0 : Nat), .slice ac nc cc]
  obtain ⟨W, hW⟩ : ∃ W, W = (w.alloc (.cells #[.int .i32 e, .slice ka kn kc] 43)).alloc (.cells #[.int .u32 us, .int .u8 f, .int .u64 sq, .int .u16 (0 : Nat), .int .u16 (0 : Nat), .slice ac nc cc] 46) := ⟨_, rfl⟩
  have HALL : Hid (∀ w', Keep W w' → (w'.cell? ⟨w.heap.size, 0, none⟩ = some (.int .i32 e) ∧ w'.cell? ⟨w.heap.size, 1, none⟩ = some (.slice ka kn kc) ∧ w'.cell? ⟨w.heap.size + 1, 0, none⟩ = some (.int .u32 us) ∧ w'.cell? ⟨w.heap.size + 1, 1, none⟩ = some (.int .u8 f) ∧ w'.cell? ⟨w.heap.size + 1, 2, none⟩ = some (.int .u64 sq) ∧ w'.cell? ⟨w.heap.size + 1, 3, none⟩ = some (.int .u16 0) ∧ w'.cell? ⟨w.heap.size + 1, 4, none⟩ = some (.int .u16 0) ∧ w'.cell? ⟨w.heap.size + 1, 5, none⟩ = some (.slice ac nc cc))) := Hid.mk (fun Z K => by
    rw [hW] at K
    have B1 := AK.keep K
    have B2 := AS.keep K
    exact ⟨B1.cell 0, B1.cell 1, B2.cell 0, B2.cell 1, B2.cell 2, B2.cell 3, B2.cell 4, B2.cell 5⟩)
  rw [← hW] at K0
  have LO := Hid.mk (lengthOf_c gp ma n mc W (by omega) (K0.cell hp))
  rw [show lof n = n from if_pos hn] at LO
  have PM : Hid (∀ Z, Calls Tryz.prog 47 #[.agg #[.int .i32 e, .slice ka kn kc], .agg #[.int .u32 us, .int .u8 f, .int .u64 sq, .int .u16 0, .int .u16 0, .slice ac nc cc], .int .i64 n] Z fun x w' => x = .returned (.tuple #[.agg #[.int .i64 (kl e), .int .i64 16, .int .i64 (cl e)], .int .i64 0]) ∧ Keep Z w') := Hid.mk (fun Z => planMIC_ok e ka kn kc us f sq ac nc cc n Z hS hkn hf hf2 hn)
  have EX : Hid (∀ Z, Calls Tryz.prog 40 #[.slice da 0 0, .int .i64 ((16 + cl e : Nat) : Int)] Z fun e' w' => ∃ g, e' = .returned (.tuple #[.slice (some ⟨g, 0, none⟩) (16 + cl e) (16 + cl e), .slice (some ⟨g, 0, none⟩) (16 + cl e) (16 + cl e)]) ∧ Z.heap.size ≤ g ∧ Win w' g 5 [] (List.replicate (16 + cl e) 0) [] ∧ Keep Z w') := Hid.mk (fun Z => extend_c da (16 + cl e) Z (by omega) (by omega))
  have WM : Hid (∀ Z g, Keep w Z → w.heap.size ≤ g → Win Z g 5 [] (List.replicate (16 + cl e) 0) [] → Calls Tryz.prog 48 #[.slice (some ⟨g, 0, none⟩) (16 + cl e) (16 + cl e), .agg #[.int .i32 e, .slice ka kn kc], .agg #[.int .u32 us, .int .u8 f, .int .u64 sq, .int .u16 0, .int .u16 0, .slice ac nc cc], .slice (some ⟨gp, 0, none⟩) 1 1, .int .i64 n] Z fun x w' => x = .returned (.tuple #[]) ∧ Win w' g 5 [] (tokM e key msg us f sq) [] ∧ Z.grownBy w' (some g)) := Hid.mk (fun Z g kz hgz V => writeMIC_c hS g (16 + cl e) n (List.replicate (16 + cl e) 0) msg key ka kn kc us f sq 0 0 ac nc cc gp ma mc Z (by simp) rfl hn V (hk.keep kz) hkl hus (by omega) hsq (kz.cell hp) (hm.keep kz) hml hcl0 (by have := World.block_lt_of_cell? w _ hp; simp only at this; omega) (hk.block (by omega) hgz) (fun h0 => hm.block h0 hgz))
  have HTL := Hid.mk (tokM_length hS key msg us f sq hkl)
  have x1 : IntKind.i64.wrap (16 + (cl e : Int)) = ((16 + cl e : Nat) : Int) := by rw [IntKind.wrap_i64]; omega
  have HK0 := Hid.mk K0
  clear hk hm hp hkl hml hn hkn hcl hkl0 hcl0 AK AS K0 hf2
  generalize kl e = a at *
  go_enter Tryz.func36, Tryz.ntmps36
  go_wp2_with fail
  rw [show (w.alloc (.cells #[.int .i32 e, .slice ka kn kc] 43)).alloc (.cells #[.int .u32 us, .int .u8 f, .int .u64 sq, .int .u16 0, .int .u16 0, .slice ac nc cc] 46) = W from hW.symm]
  clear hW
  refine LO.out.mono ?_
  rintro x w1 ⟨rfl, k1⟩
  have HK1 := Hid.mk k1
  obtain ⟨c0, c1, c2, c3, c4, c5, c6, c7⟩ := HALL.out w1 k1
  clear k1
  go_wp2_with fail
  refine (PM.out w1).mono ?_
  rintro x w2 ⟨rfl, k2⟩
  have HK2 := Hid.mk (HK1.out.trans k2)
  have kA := (Keep.refl w2).alloc (.cells #[.int .i64 a, .int .i64 16, .int .i64 (cl e)] 69)
  have HKA := Hid.mk (HK2.out.trans kA)
  clear k2 kA c0 c1 c2 c3 c4 c5 c6 c7
  go_wp2_with fail
  refine (EX.out _).mono ?_
  rintro x w3 ⟨g, rfl, hgz, V3, k3⟩
  have HK3 := Hid.mk (HKA.out.trans k3)
  obtain ⟨c0, c1, c2, c3, c4, c5, c6, c7⟩ := HALL.out w3 HK3.out
  have HGG : Hid (w.heap.size ≤ g) := Hid.mk (Nat.le_trans (Nat.le_trans HK0.out.size HKA.out.size) hgz)
  have C4 := Hid.mk (WM.out w3 g (HK0.out.trans HK3.out) HGG.out V3)
  clear V3 k3 hgz
  go_wp2_with fail
  refine C4.out.mono ?_
  rintro x w4 ⟨rfl, V4, gr4⟩
  have HV4 := Hid.mk V4
  have HK4 := Hid.mk ((HK0.out.trans HK3.out).grown gr4 (fun k hk => by cases hk; exact HGG.out))
  clear V4 gr4 c0 c1 c2 c3 c4 c5 c6 c7 C4
  go_wp2_with fail
  go_ret2
  exact ⟨g, _, rfl, HGG.out, rfl, HTL.out, HV4.out, HK4.out⟩
theorem mic_c {e : Int} (hS : srv e) (da : Option Addr) (ka : Option Addr) (kn kc : Nat) (us f sq : Nat) (ac : Option Addr) (nc cc : Nat) (ma : Option Addr) (n mc : Nat) (key msg : List UInt8) (w : World)
    (hk : Bs w (.slice ka kn kc) key) (hkl : key.length = kl e) (hus : us < 4294967296) (hf : f < 8) (hf2 : ¬ f / 2 % 2 = 1) (hsq : sq < 2 ^ 64) (hm : Bs w (.slice ma n mc) msg) (hml : msg.length = n) (hn : n ≤ 1048576) :
    Calls Tryz.prog 18 #[.slice da 0 0, .agg #[.int .i32 e, .slice ka kn kc], .agg #[.int .u32 us, .int .u8 f, .int .u64 sq, .int .u16 (0 : Nat), .int .u16 (0 : Nat), .slice ac nc cc], .slice ma n mc] w (RT w (16 + cl e) (fun t => t = tokM e key msg us f sq)) := by
  have K0 := (((Keep.refl w).alloc (.cells #[.int .i32 e, .slice ka kn kc] 43)).alloc (.cells #[.int .u32 us, .int .u8 f, .int .u64 sq, .int .u16 (0 : Nat), .int .u16 (0 : Nat), .slice ac nc cc] 46)).alloc (.cells #[.slice ma n mc] 26)
  have A0 := new3 w (.cells #[.int .i32 e, .slice ka kn kc] 43) (.cells #[.int .u32 us, .int .u8 f, .int .u64 sq, .int .u16 (0 : Nat), .int .u16 (0 : Nat), .slice ac nc cc] 46) 26 [.slice ma n mc]
  have C := Hid.mk (micParts_c hS da ka kn kc us f sq ac nc cc (w.heap.size + 1 + 1) ma n mc key msg _ (hk.keep K0) hkl hus hf hf2 hsq (A0.cell 0) (hm.keep K0) hml hn)
  have HK := Hid.mk K0
  clear hk hm hkl hml hn A0 K0 hf2
  go_enter Tryz.func18, Tryz.ntmps18
  go_wp2_with fail
  refine C.out.mono ?_
  rintro x w1 ⟨g, t, rfl, hg, ht, htl, V, k1⟩
  have HG : Hid (w.heap.size ≤ g) := Hid.mk (Nat.le_trans HK.out.size hg)
  have HT := Hid.mk ht
  have HTL := Hid.mk htl
  have HV := Hid.mk V
  have HK1 := Hid.mk (HK.out.trans k1)
  clear hg ht htl V k1
  go_wp2_with fail
  go_ret2
  exact ⟨g, t, rfl, HG.out, HT.out, HTL.out, HV.out, HK1.out⟩
end Go.Proofs.Qxb6500771aGreat
