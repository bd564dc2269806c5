/- token.writeSealed, writeWrap. -/
import Derived.Test.Qxb6500771aGreatIe
namespace Go.Proofs.Qxb6500771aGreat
open Go.RowKit Go.Qm
set_option linter.unusedVariables false
set_option linter.unusedSimpArgs false
attribute [local go_sem ↓] Go.wp_at_zero Go.wp_at_succ
set_option maxRecDepth 4000 in
set_option maxHeartbeats 4000000 in
theorem writeSealed_c {e : Int} (hS : srv e) (g N c n tot : Nat) (m msg key : List UInt8) (post : List Value) (ka : Option Addr) (kn kc : Nat) (us f sq ec rrc : Nat) (ac : Option Addr) (nc cc gp : Nat) (ma : Option Addr) (mc : Nat) (w : World)
    (hN : N = m.length) (hn : N = 16 + (16 + (n + ec + 16) + cl e)) (hec : ec < 65536) (conf : List UInt8) (hcf : Bs w (.slice ac nc cc) conf) (hcfl : conf.length = 16) (hnb : n ≤ 1048576) (hnc : N ≤ c) (hcm : c ≤ maxLen) (hg : Win w g 5 [] m post)
    (hk : Bs w (.slice ka kn kc) key) (hkl : key.length = kl e) (hus : us < 4294967296) (hf : f < 256) (hsq : sq < 2 ^ 64) (hrrc : rrc < 65536)
    (hp : w.cell? ⟨gp, 0, none⟩ = some (.slice ma n mc)) (hm : Bs w (.slice ma n mc) msg) (hml : msg.length = n) (hcl0 : 0 < cl e) :
    Calls Tryz.prog 59 #[.slice (some ⟨g, 0, none⟩) N c, .agg #[.int .i64 (kl e), .int .i64 16, .int .i64 (cl e), .bool true, .int .i64 n, .int .i64 tot], .agg #[.int .i32 e, .slice ka kn kc], .agg #[.int .u32 us, .int .u8 f, .int .u64 sq, .int .u16 ec, .int .u16 rrc, .slice ac nc cc], .slice (some ⟨gp, 0, none⟩) 1 1] w fun x w' =>
      x = .returned (.tuple #[]) ∧ (∃ t : List UInt8, t.length = N ∧ Win w' g 5 [] t post) ∧ w.grownBy w' (some g) := by
  obtain ⟨W, hW⟩ : ∃ W, W = ((w.alloc (.cells #[.int .i64 (kl e), .int .i64 16, .int .i64 (cl e), .bool true, .int .i64 n, .int .i64 tot] 87)).alloc (.cells #[.int .i32 e, .slice ka kn kc] 43)).alloc (.cells #[.int .u32 us, .int .u8 f, .int .u64 sq, .int .u16 ec, .int .u16 rrc, .slice ac nc cc] 46) := ⟨_, rfl⟩
  have kW : Keep w W := by rw [hW]; exact (((Keep.refl w).alloc _).alloc _).alloc _
  have B0 : Bx3 W w.heap.size [.int .i64 (kl e), .int .i64 16, .int .i64 (cl e), .bool true, .int .i64 n, .int .i64 tot] [.int .i32 e, .slice ka kn kc] [.int .u32 us, .int .u8 f, .int .u64 sq, .int .u16 ec, .int .u16 rrc, .slice ac nc cc] := by rw [hW]; exact Bx3.new _ _ _ _
  obtain ⟨g6, hg6⟩ : ∃ g6, g6 = w.heap.size := ⟨_, rfl⟩
  rw [← hg6] at B0
  have hgW := hg.lt
  have kW0 := kW.size
  have HCL := cl_le e
  have a1 : W.cell? ⟨g6, 4, none⟩ = some (.int .i64 n) := B0.a.cell 4
  have b0 : W.cell? ⟨g6 + 1, 0, none⟩ = some (.int .i32 e) := B0.b.cell 0
  have b1 : W.cell? ⟨g6 + 1, 1, none⟩ = some (.slice ka kn kc) := B0.b.cell 1
  have c0 : W.cell? ⟨g6 + 1 + 1, 0, none⟩ = some (.int .u32 us) := B0.c.cell 0
  have c1 : W.cell? ⟨g6 + 1 + 1, 1, none⟩ = some (.int .u8 f) := B0.c.cell 1
  have c2 : W.cell? ⟨g6 + 1 + 1, 2, none⟩ = some (.int .u64 sq) := B0.c.cell 2
  have c3 : W.cell? ⟨g6 + 1 + 1, 3, none⟩ = some (.int .u16 ec) := B0.c.cell 3
  have c4 : W.cell? ⟨g6 + 1 + 1, 4, none⟩ = some (.int .u16 rrc) := B0.c.cell 4
  have c5 : W.cell? ⟨g6 + 1 + 1, 5, none⟩ = some (.slice ac nc cc) := B0.c.cell 5
  have HALL : Hid (∀ Z, Keep W Z → Z.cell? ⟨g6, 4, none⟩ = some (.int .i64 n) ∧ Z.cell? ⟨g6 + 1, 0, none⟩ = some (.int .i32 e) ∧ Z.cell? ⟨g6 + 1, 1, none⟩ = some (.slice ka kn kc) ∧ Z.cell? ⟨g6 + 1 + 1, 0, none⟩ = some (.int .u32 us) ∧ Z.cell? ⟨g6 + 1 + 1, 3, none⟩ = some (.int .u16 ec) ∧ Z.cell? ⟨g6 + 1 + 1, 4, none⟩ = some (.int .u16 rrc) ∧ Z.cell? ⟨g6 + 1 + 1, 5, none⟩ = some (.slice ac nc cc)) :=
    Hid.mk (fun Z kz => ⟨kz.cell a1, kz.cell b0, kz.cell b1, kz.cell c0, kz.cell c3, kz.cell c4, kz.cell c5⟩)
  have x0 : IntKind.i64.wrap (ec : Int) = ec := by rw [IntKind.wrap_i64]; omega
  have x1 : IntKind.i64.wrap ((n : Int) + ec) = ((n + ec : Nat) : Int) := by rw [IntKind.wrap_i64]; omega
  have x1b : IntKind.i64.wrap ((n : Int) + ec + 16) = ((n + ec + 16 : Nat) : Int) := by rw [IntKind.wrap_i64]; omega
  have x2 : n + ec + 16 - (n + ec) = 16 := by omega
  have x3 : ((n + ec : Nat) : Int) ≤ ((n + ec + 16 : Nat) : Int) := by omega
  have x4 : (n : Int) + ec ≤ (n : Int) + ec + 16 := by omega
  have x5 : (0 : Int) ≤ (n : Int) + ec := by omega
  have x6 : n + ec ≤ n + ec + 16 := by omega
  have x7 : ((n : Int) + ec).toNat = n + ec := by omega
  have HCF := Hid.mk hcf
  have HCFL := Hid.mk hcfl
  have HK := Hid.mk hk
  have HM := Hid.mk hm
  have HP := Hid.mk hp
  have HKL := Hid.mk hkl
  have HML := Hid.mk hml
  have HG := Hid.mk hg
  have HKW := Hid.mk kW
  have HN := Hid.mk hN
  have Hn := Hid.mk hn
  have HNB := Hid.mk hnb
  have HNC := Hid.mk hnc
  have HCM := Hid.mk hcm
  have HG6 := Hid.mk hg6
  have HSq := Hid.mk hsq
  clear hk hm hp hkl hml hg kW hN hn B0 hcm hnc hsq hcf hcfl
  have hWs : W.heap.size = g6 + 1 + 1 + 1 := by rw [hW, World.size_alloc, World.size_alloc, World.size_alloc, hg6]
  obtain ⟨W1, hW1⟩ : ∃ W1, W1 = W.alloc (.cells #[.int .u16 1284, .int .u8 f, .int .u16 ec, .int .u16 0, .int .u64 sq] 56) := ⟨_, rfl⟩
  have k1 : Keep W W1 := by rw [hW1]; exact (Keep.refl W).alloc _
  have F1 : Five W1 (g6 + 1 + 1 + 1) (.int .u16 1284) (.int .u8 f) (.int .u16 ec) (.int .u16 0) (.int .u64 sq) := by rw [hW1, ← hWs]; exact Five.new _ _ _ _ _ _
  have hW1s : W1.heap.size = g6 + 1 + 1 + 1 + 1 := by rw [hW1, World.size_alloc, hWs]
  have hmk := run_make1 (P := Tryz.prog) Tryz.underlying26 inf5 rfl ((n : Int) + ec + 16) ((n : Int) + ec + 16) (by omega) (by omega) (by omega) (by omega) W1
  have hto : ((n : Int) + ec + 16).toNat = n + ec + 16 := by omega
  rw [hto] at hmk
  obtain ⟨W2, hW2⟩ : ∃ W2, W2 = W1.alloc (.cells (rep (n + ec + 16) (.int .u8 0)) 5) := ⟨_, rfl⟩
  rw [← hW2, hW1s] at hmk
  have k2 : Keep W1 W2 := by rw [hW2]; exact (Keep.refl W1).alloc _
  have V2 : Win W2 (g6 + 1 + 1 + 1 + 1) 5 [] (List.replicate (n + ec + 16) 0) [] := by
    show W2.heap[g6 + 1 + 1 + 1 + 1]? = _
    rw [hW2, ← hW1s, heap_alloc_new, rep_cb]; simp
  have K2 := k1.trans k2
  have KW2 := HKW.out.trans K2
  have C3 := Hid.mk (gather_c (g6 + 1 + 1 + 1 + 1) 0 (n + ec + 16) (n + ec + 16) gp ma n mc [] [] (List.replicate (n + ec + 16) 0) msg W2 rfl (by simp) (by omega) (by omega) (Nat.le_refl _) (by unfold maxLen; omega) V2 (KW2.cell HP.out) (HM.out.keep KW2) HML.out (by omega))
  have HK2 := Hid.mk K2
  have HKW2 := Hid.mk KW2
  have HF2 := Hid.mk (F1.keep k2)
  have HLB : Hid (w.heap.size ≤ g6 + 1 + 1 + 1 + 1 ∧ W.heap.size ≤ g6 + 1 + 1 + 1 + 1) := Hid.mk ⟨by omega, by omega⟩
  clear K2 KW2 V2 k1 k2 F1 hto
  rw [hW1, hW, hg6] at hmk
  clear a1 b0 b1 c0 c1 c2 c3 c4 c5
  go_enter Tryz.func59, Tryz.ntmps59
  go_wp2_with fail
  rw [← hg6, ← hW, ← hW1, ← hW2]
  clear hmk hW hW1 hW2
  refine C3.out.mono ?_
  rintro x W3 ⟨rfl, V3, gr3⟩
  obtain ⟨gb, hgb⟩ : ∃ gb, gb = g6 + 1 + 1 + 1 + 1 := ⟨_, rfl⟩
  obtain ⟨gh, hgh⟩ : ∃ gh, gh = g6 + 1 + 1 + 1 := ⟨_, rfl⟩
  have hgne : gh ≠ gb := by omega
  rw [← hgb] at V3 gr3 HLB
  rw [← hgb, ← hgh]
  rw [← hgh] at HF2
  have HGH : Hid (W.heap.size ≤ gh ∧ w.heap.size ≤ gh) := Hid.mk ⟨by omega, by omega⟩
  have K3 : Keep W W3 := HK2.out.grown gr3 (fun k hk => by cases hk; exact HLB.out.2)
  have F3 := HF2.out.kept gr3 hgne
  have V3a : Win W3 gb 5 ((msg ++ List.replicate ec 0).map cb) (List.replicate 16 0) [] := V3.cut (by
    have e9 : n + ec + 16 - n = ec + 16 := by omega
    rw [List.drop_replicate, e9, ← List.replicate_append_replicate]; simp)
  obtain ⟨d0, d1, d2, d3, d4, d5, d6⟩ := HALL.out W3 K3
  obtain ⟨h0, h1, h2, h3, h4⟩ := F3.cells
  have C4 := Hid.mk (writeHeader_c gb (n + ec) 16 (List.map cb (msg ++ List.replicate ec (0 : UInt8))) [] (List.replicate 16 0) 1284 f ec 0 sq W3.drew (by rw [List.length_map, List.length_append, HML.out, List.length_replicate]) (by simp) (by omega) (by unfold maxLen; omega) (Or.inl rfl) hf hec (by omega) HSq.out V3a.drew)
  have HK3 := Hid.mk K3
  have HF3 := Hid.mk F3
  have HS4 : Hid (∀ Z, Keep W Z ∧ Five Z gh (.int .u16 1284) (.int .u8 f) (.int .u16 ec) (.int .u16 0) (.int .u64 sq) → Z.cell? ⟨g6, 4, none⟩ = some (.int .i64 n) ∧ Z.cell? ⟨g6 + 1 + 1, 3, none⟩ = some (.int .u16 ec) ∧ Z.cell? ⟨gh, 0, none⟩ = some (.int .u16 1284) ∧ Z.cell? ⟨gh, 1, none⟩ = some (.int .u8 f) ∧ Z.cell? ⟨gh, 2, none⟩ = some (.int .u16 ec) ∧ Z.cell? ⟨gh, 3, none⟩ = some (.int .u16 0) ∧ Z.cell? ⟨gh, 4, none⟩ = some (.int .u64 sq)) := Hid.mk (fun Z hz => ⟨(HALL.out Z hz.1).1, (HALL.out Z hz.1).2.2.2.2.1, hz.2.cells⟩)
  have Q0 : Keep W W3.drew ∧ Five W3.drew gh (.int .u16 1284) (.int .u8 f) (.int .u16 ec) (.int .u16 0) (.int .u64 sq) := ⟨K3.drew, F3⟩
  clear V3 V3a gr3 K3 F3 hgb hgh hWs hW1s C3 hg6
  go_upto_region 4 with fail
  go_region_held3 (fun Z => Z.cell? ⟨g6, 4, none⟩ = some (.int .i64 n) ∧ Z.cell? ⟨g6 + 1 + 1, 3, none⟩ = some (.int .u16 ec) ∧ Z.cell? ⟨gh, 0, none⟩ = some (.int .u16 1284) ∧ Z.cell? ⟨gh, 1, none⟩ = some (.int .u8 f) ∧ Z.cell? ⟨gh, 2, none⟩ = some (.int .u16 ec) ∧ Z.cell? ⟨gh, 3, none⟩ = some (.int .u16 0) ∧ Z.cell? ⟨gh, 4, none⟩ = some (.int .u64 sq))
    ((refine HS4.out _ ?_; first | (with_reducible exact Q1) | (with_reducible exact Q0)))
    (first
    | (go_at_call 62; refine C4.out.mono ?_; rintro x W4 ⟨rfl, V4, gr4⟩; have Q1 : Keep W W4 ∧ Five W4 gh (.int .u16 1284) (.int .u8 f) (.int .u16 ec) (.int .u16 0) (.int .u64 sq) := ⟨Q0.1.grown gr4 (fun k hk => by cases hk; exact HLB.out.2), Q0.2.kept gr4 hgne⟩))
  rename_i hHd
  have HV4 : Hid (Win W4 gb 5 [] (msg ++ List.replicate ec 0 ++ enc 1284 f ec 0 sq) []) := Hid.mk (V4.cut (by simp))
  have HK4 := Hid.mk Q1.1
  have HF4 := Hid.mk Q1.2
  have HL4 : Hid ((msg ++ List.replicate ec 0 ++ enc 1284 f ec 0 sq).length = n + ec + 16) := Hid.mk (by rw [List.length_append, List.length_append, HML.out, enc_length, List.length_replicate])
  obtain ⟨pl, hpl⟩ : ∃ pl, pl = msg ++ List.replicate ec 0 ++ enc 1284 f ec 0 sq := ⟨_, rfl⟩
  rw [← hpl] at HV4 HL4
  obtain ⟨d0, d1, d2, d3, d4, d5, d6⟩ := HALL.out W4 HK4.out
  have C5 := Hid.mk (encrypt_c hS ka kn kc key us (.slice ac nc cc) (.slice (some ⟨gb, 0, none⟩) (n + ec + 16) (n + ec + 16)) conf pl (n + ec + 16) W4 (HK.out.keep (HKW.out.trans HK4.out)) HKL.out hus (HCF.out.keep (HKW.out.trans HK4.out)) HCFL.out (Win.bs HV4.out HL4.out.symm (Nat.le_refl _) (by unfold maxLen; omega)) HL4.out (by omega))
  clear hHd V4 gr4 Q0 Q1 C4 h0 h1 h2 h3 h4 HS4 HF3 HK3 hpl
  go_wp2_with fail
  refine C5.out.mono ?_
  rintro x W5 ⟨ba, bc, bl, rfl, hbl, b5, k5, hfr⟩
  have hbl0 : bl.length ≠ 0 := by omega
  obtain ⟨ba', bc', hbv, hb1, hb2, hb3⟩ := b5.form
  obtain ⟨gs, os, hba, -⟩ := hb3 0 (by omega)
  have hba2 : ba = some ⟨gs, os, none⟩ := by
    simp only [Value.slice.injEq] at hbv
    rw [hbv.1, hba]
  subst hba2
  have hgs : W4.heap.size ≤ gs := hfr gs rfl
  have hg4 : W.heap.size ≤ W4.heap.size := HK4.out.size
  have hgsb : gs ≠ gb := by have := HV4.out.lt; omega
  have hgsh : gs ≠ gh := by have := blk_lt HF4.out; omega
  have hgsg : gs ≠ g := by omega
  have HV5 := Hid.mk (HV4.out.keep k5)
  have HK5 := Hid.mk (HK4.out.trans k5)
  have HF5 := Hid.mk (HF4.out.keep k5)
  have HB5 := Hid.mk b5
  have HBL := Hid.mk hbl
  have HGB : Hid (w.heap.size ≤ gb) := Hid.mk HLB.out.1
  have C6 := Hid.mk (wipe_c gb (n + ec + 16) (n + ec + 16) pl [] [] W5 HL4.out.symm (Nat.le_refl _) (by unfold maxLen; omega) HV5.out)
  clear C5 k5 b5 hbv hb1 hb2 hb3 hba hfr hbl hbl0 d0 d1 d2 d3 d4 d5 d6
  go_wp2_with fail
  refine C6.out.mono ?_
  rintro x W6 ⟨rfl, -, gr6⟩
  have K6 : Keep W W6 := HK5.out.grown gr6 (fun k hk => by cases hk; exact HLB.out.2)
  have F6 := HF5.out.kept gr6 hgne
  have F7 := F6.set3 (.int .u16 rrc)
  have K7 := K6.setCell (p := ⟨gh, 3, none⟩) HGH.out.1 (.int .u16 rrc)
  obtain ⟨-, -, -, -, -, d5, -⟩ := HALL.out W6 K6
  obtain ⟨-, -, f2, f3, -⟩ := F6.cells
  obtain ⟨-, -, t2, t3, -⟩ := F6.thaw
  obtain ⟨p0, p1, p2, p3, p4⟩ := F7.cells
  have B7 : Bs (W6.setCell ⟨gh, 3, none⟩ (.int .u16 rrc)) (.slice (some ⟨gs, os, none⟩) (16 + (n + ec + 16) + cl e) bc) bl := (HB5.out.kept gr6 (by simpa [Value.ownBlock] using hgsb)).kept (grown_set (grown_refl _ _) 3 _) (by simpa [Value.ownBlock] using hgsh)
  have KW7 := HKW.out.trans K7
  have C9 := Hid.mk (writeToken_c g (16 + (n + ec + 16) + cl e) N c gs os bc 1284 f ec rrc sq m bl post _ HN.out Hn.out HBL.out (by omega) (by omega) HNC.out HCM.out (HG.out.keep KW7) B7 hgsg (Or.inl rfl) hf hec hrrc HSq.out)
  have HK7 := Hid.mk KW7
  clear K6 F6 F7 K7 B7 KW7 gr6 C6
  go_wp2_with fail
  refine C9.out.mono ?_
  rintro x W9 ⟨rfl, V9, gr9⟩
  have HV9 := Hid.mk V9
  have HG9 := Hid.mk (grown_trans (keep_grown HK7.out (some g)) gr9)
  clear d5 f2 f3 t2 t3 p0 p1 p2 p3 p4 V9 gr9 C9
  go_wp2_with fail
  go_end0
  exact ⟨rfl, ⟨_, by rw [List.length_append, enc_length, rtr_length, HBL.out, ← Hn.out], HV9.out⟩, HG9.out⟩
set_option maxHeartbeats 1000000 in
theorem writeWrapS_c {e : Int} (hS : srv e) (g N c n tot : Nat) (m msg key : List UInt8) (post : List Value) (ka : Option Addr) (kn kc : Nat) (us f sq ec rrc : Nat) (ac : Option Addr) (nc cc gp : Nat) (ma : Option Addr) (mc : Nat) (w : World)
    (hN : N = m.length) (hn : N = 16 + (16 + (n + ec + 16) + cl e)) (hec : ec < 65536) (conf : List UInt8) (hcf : Bs w (.slice ac nc cc) conf) (hcfl : conf.length = 16) (hnb : n ≤ 1048576) (hnc : N ≤ c) (hcm : c ≤ maxLen) (hg : Win w g 5 [] m post)
    (hk : Bs w (.slice ka kn kc) key) (hkl : key.length = kl e) (hus : us < 4294967296) (hf : f < 256) (hsq : sq < 2 ^ 64) (hrrc : rrc < 65536)
    (hp : w.cell? ⟨gp, 0, none⟩ = some (.slice ma n mc)) (hm : Bs w (.slice ma n mc) msg) (hml : msg.length = n) (hcl0 : 0 < cl e) :
    Calls Tryz.prog 46 #[.slice (some ⟨g, 0, none⟩) N c, .agg #[.int .i64 (kl e), .int .i64 16, .int .i64 (cl e), .bool true, .int .i64 n, .int .i64 tot], .agg #[.int .i32 e, .slice ka kn kc], .agg #[.int .u32 us, .int .u8 f, .int .u64 sq, .int .u16 ec, .int .u16 rrc, .slice ac nc cc], .slice (some ⟨gp, 0, none⟩) 1 1] w fun x w' =>
      x = .returned (.tuple #[]) ∧ (∃ t : List UInt8, t.length = N ∧ Win w' g 5 [] t post) ∧ w.grownBy w' (some g) := by
  have kW := (((Keep.refl w).alloc (.cells #[.int .i64 (kl e), .int .i64 16, .int .i64 (cl e), .bool true, .int .i64 n, .int .i64 tot] 87)).alloc (.cells #[.int .i32 e, .slice ka kn kc] 43)).alloc (.cells #[.int .u32 us, .int .u8 f, .int .u64 sq, .int .u16 ec, .int .u16 rrc, .slice ac nc cc] 46)
  have C := Hid.mk (writeSealed_c hS g N c n tot m msg key post ka kn kc us f sq ec rrc ac nc cc gp ma mc _ hN hn hec conf (hcf.keep kW) hcfl hnb hnc hcm (hg.keep kW) (hk.keep kW) hkl hus hf hsq hrrc (kW.cell hp) (hm.keep kW) hml hcl0)
  have HKW := Hid.mk kW
  clear hN hn hg hk hkl hp hm hml kW
  go_enter Tryz.func46, Tryz.ntmps46
  go_wp2_with fail
  refine C.out.mono ?_
  rintro x w1 ⟨rfl, a1, g1⟩
  have A1 := Hid.mk a1
  have G1 := Hid.mk (grown_trans (keep_grown HKW.out (some g)) g1)
  clear a1 g1
  go_wp2_with fail
  go_end0
  exact ⟨rfl, A1.out, G1.out⟩
set_option maxHeartbeats 1000000 in
theorem writeWrapU_c {e : Int} (hS : srv e) (g N c n tot : Nat) (m msg key : List UInt8) (post : List Value) (ka : Option Addr) (kn kc : Nat) (us f sq ec rrc : Nat) (ac : Option Addr) (nc cc gp : Nat) (ma : Option Addr) (mc : Nat) (w : World)
    (hN : N = m.length) (hn : N = 16 + (n + cl e)) (hnb : n ≤ 1048576) (hnc : N ≤ c) (hcm : c ≤ maxLen) (hg : Win w g 5 [] m post)
    (hk : Bs w (.slice ka kn kc) key) (hkl : key.length = kl e) (hus : us < 4294967296) (hf : f < 256) (hsq : sq < 2 ^ 64) (hrrc : rrc < 65536)
    (hp : w.cell? ⟨gp, 0, none⟩ = some (.slice ma n mc)) (hm : Bs w (.slice ma n mc) msg) (hml : msg.length = n) (hcl0 : 0 < cl e) :
    Calls Tryz.prog 46 #[.slice (some ⟨g, 0, none⟩) N c, .agg #[.int .i64 (kl e), .int .i64 16, .int .i64 (cl e), .bool false, .int .i64 n, .int .i64 tot], .agg #[.int .i32 e, .slice ka kn kc], .agg #[.int .u32 us, .int .u8 f, .int .u64 sq, .int .u16 ec, .int .u16 rrc, .slice ac nc cc], .slice (some ⟨gp, 0, none⟩) 1 1] w fun x w' =>
      x = .returned (.tuple #[]) ∧ Win w' g 5 [] (enc 1284 f (cl e) rrc sq ++ rtr (msg ++ mcF e (drvF e key us 153) (msg ++ enc 1284 f 0 0 sq)) (rrc % (n + cl e))) post ∧ w.grownBy w' (some g) := by
  have kW := (((Keep.refl w).alloc (.cells #[.int .i64 (kl e), .int .i64 16, .int .i64 (cl e), .bool false, .int .i64 n, .int .i64 tot] 87)).alloc (.cells #[.int .i32 e, .slice ka kn kc] 43)).alloc (.cells #[.int .u32 us, .int .u8 f, .int .u64 sq, .int .u16 ec, .int .u16 rrc, .slice ac nc cc] 46)
  have C := Hid.mk (writeUnsealed_c hS g N c n tot m msg key post ka kn kc us f sq ec rrc ac nc cc gp ma mc _ hN hn hnb hnc hcm (hg.keep kW) (hk.keep kW) hkl hus hf hsq hrrc (kW.cell hp) (hm.keep kW) hml hcl0)
  have HKW := Hid.mk kW
  clear hN hn hg hk hkl hp hm hml kW
  go_enter Tryz.func46, Tryz.ntmps46
  go_wp2_with fail
  refine C.out.mono ?_
  rintro x w1 ⟨rfl, a1, g1⟩
  have A1 := Hid.mk a1
  have G1 := Hid.mk (grown_trans (keep_grown HKW.out (some g)) g1)
  clear a1 g1
  go_wp2_with fail
  go_end0
  exact ⟨rfl, A1.out, G1.out⟩
end Go.Proofs.Qxb6500771aGreat
