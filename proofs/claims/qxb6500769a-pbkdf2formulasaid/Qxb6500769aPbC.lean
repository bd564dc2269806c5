/- modes.PBKDF2. -/
import Derived.Test.Qxb6500769aPbB
namespace Go.Proofs.Qxb6500769a
open Go.RowKit Go.Qm
set_option linter.unusedVariables false
set_option linter.unusedSimpArgs false
attribute [local go_sem ↓] Go.wp_at_zero Go.wp_at_succ

set_option maxRecDepth 1400 in
set_option maxHeartbeats 2000000 in
theorem pbCount_c (h c : Nat) (dk : Int) (kv sv : Value) (p s : List UInt8) (w : World) (hk : Bs w kv p) (hkl : p.length ≤ 400000) (h1 : 1 ≤ h) (h5 : h ≤ 5) (hc : c = 0 ∨ 65536 < c) :
    Calls Try.prog 26 #[.int .i64 h, kv, sv, .int .u32 c, .int .i64 dk] w fun e w' => ∃ v', e = .returned (.tuple #[v', .int .i64 7]) ∧ Keep w w' := by
  have hil := hin_length h p h1 h5
  have hol := hout_length h p h1 h5
  go_enter Try.func26, Try.ntmps26
  go_wp2_with fail
  refine (newHMAC_c h kv p w hk (by omega) h1 h5).mono ?_
  rintro e w1 ⟨vi, vo, rfl, bi, bo, k1⟩
  obtain ⟨ai, ci, rfl, -⟩ := bi.form
  obtain ⟨ao, co, rfl, -⟩ := bo.form
  rcases hc with rfl | hc
  · go_wp2
    go_ret2
    exact ⟨_, rfl, k1.alloc _⟩
  · have y1 : ((c : Int) == 0) = false := by simp; omega
    have y2 : (c : Int) > 65536 := by omega
    go_wp2
    go_ret2
    exact ⟨_, rfl, k1.alloc _⟩
set_option maxRecDepth 1400 in
set_option maxHeartbeats 2000000 in
theorem pbLen_c (h c : Nat) (dk : Int) (kv sv : Value) (p s : List UInt8) (w : World) (hk : Bs w kv p) (hkl : p.length ≤ 400000) (h1 : 1 ≤ h) (h5 : h ≤ 5) (hc1 : 1 ≤ c) (hc2 : c ≤ 65536) (hd : dk < 1 ∨ (4294967295 * (hsz h : Int) < dk ∧ dk ≤ 9223372036854775807)) :
    Calls Try.prog 26 #[.int .i64 h, kv, sv, .int .u32 c, .int .i64 dk] w fun e w' => ∃ v', e = .returned (.tuple #[v', .int .i64 8]) ∧ Keep w w' := by
  have hsb := hsz_le h
  have hil := hin_length h p h1 h5
  have hol := hout_length h p h1 h5
  have y1 : ((c : Int) == 0) = false := by simp; omega
  have y2 : ¬ (c : Int) > 65536 := by omega
  go_enter Try.func26, Try.ntmps26
  go_wp2_with fail
  refine (newHMAC_c h kv p w hk (by omega) h1 h5).mono ?_
  rintro e w1 ⟨vi, vo, rfl, bi, bo, k1⟩
  obtain ⟨ai, ci, rfl, -⟩ := bi.form
  obtain ⟨ao, co, rfl, -⟩ := bo.form
  have A2 := Arr.new w1 58 [.int .i64 (hsz h), .int .i64 h, .slice ai (hin h p).length ci, .int .i64 h, .slice ao (hout h p).length co, .int .i64 h, .slice ai (hin h p).length ci]
  generalize (hin h p).length = li at *
  generalize (hout h p).length = lo at *
  generalize hsz h = sz at *
  clear hil hol
  rcases hd with hd | ⟨hd, hd9⟩
  · go_wp2
    go_ret2
    exact ⟨_, rfl, k1.alloc _⟩
  · have z1 : ¬ dk < 1 := by omega
    have x1 : IntKind.u64.wrap dk = dk := by rw [w64]; omega
    have x2 : IntKind.u64.wrap (sz : Int) = sz := wrap_u64' sz (by omega)
    have x3 : IntKind.u64.wrap (4294967295 * (sz : Int)) = 4294967295 * (sz : Int) := by rw [w64]; omega
    have x4 : dk > 4294967295 * (sz : Int) := by omega
    go_wp2_with fail
    refine (hsize_c w1.heap.size sz _ (A2.cell 0)).mono ?_
    rintro e w' ⟨rfl, rfl⟩
    go_wp2
    go_ret2
    exact ⟨_, rfl, k1.alloc _⟩

theorem PS.wrote {w1 W w2 : World} {g gt gu cu : Nat} {ov v c0 c1 c2 c3 c4 c5 c6 : Value} {U T O l : List UInt8} (h : PS w1 W g gt gu cu ov [c0, c1, c2, c3, c4, c5, c6] U T O) (k : Keep W w2) (ow : Own W.heap.size 5 w2 v (l.map cb)) :
    PS w1 (w2.setCell ⟨g, 6, none⟩ v) g gt gu cu ov [c0, c1, c2, c3, c4, c5, v] U T O ∧ Bs (w2.setCell ⟨g, 6, none⟩ v) v l := by
  have lg := h.hd.lt
  have hne : v.ownBlock ≠ some g := fun e => by have := (ow.lt _ e).1; omega
  exact ⟨(h.step k).seth 6 v, ow.bs.kept (grown_set (grown_refl w2 (some g)) 6 v) hne⟩
/-- t, its first k octets with those of u added. -/
def xfs (T U : List UInt8) (k : Nat) : List UInt8 := xork T U k ++ T.drop k
theorem xfs_length (T U : List UInt8) (k : Nat) (hk : k ≤ T.length) : (xfs T U k).length = T.length := by simp [xfs, xork_length]; omega
theorem xfs_get (T U : List UInt8) (k : Nat) (hk : k < T.length) (h : k < (xfs T U k).length) : (xfs T U k)[k] = T[k] := by
  simp only [xfs]
  rw [List.getElem_append_right (by rw [xork_length]; omega)]
  simp [xork_length]
theorem xfs_set (T U : List UInt8) (k : Nat) (hk : k < T.length) (hu : k < U.length) : (xfs T U k).set k (T[k] ^^^ U[k]) = xfs T U (k + 1) := by
  unfold xfs
  rw [List.set_append_right _ _ (by rw [xork_length]; omega), xork_length, Nat.sub_self, List.drop_eq_getElem_cons hk, List.set_cons_zero, xork_succ, List.append_assoc]
  simp [List.getD, hk, hu]
theorem xfs_all (T U : List UInt8) : xfs T U T.length = xorl T U := by simp [xfs, xork, xorl]
theorem xfs_zero (T U : List UInt8) : xfs T U 0 = T := by simp [xfs, xork]

set_option maxRecDepth 1400 in
set_option maxHeartbeats 8000000 in
theorem pbk_c (h c dk : Nat) (kv sv : Value) (p s : List UInt8) (w : World) (hk : Bs w kv p) (hs : Bs w sv s) (hkl : p.length ≤ 400000) (hsl : s.length ≤ 400000) (h1 : 1 ≤ h) (h5 : h ≤ 5) (hc1 : 1 ≤ c) (hc2 : c ≤ 65536) (hd1 : 1 ≤ dk) (hd2 : dk ≤ 4294967295 * hsz h) :
    Calls Try.prog 26 #[.int .i64 h, kv, sv, .int .u32 c, .int .i64 dk] w fun e w' => ∃ v', e = .returned (.tuple #[v', .int .i64 0]) ∧ Bs w' v' (pb h p s c dk) ∧ Keep w w' := by
  have hsb := hsz_le h
  have hbb := bsz_le h
  have hil := hin_length h p h1 h5
  have hol := hout_length h p h1 h5
  have PM := fun m => pM_eq (n := dk) (sz := hsz h) (m := m) (by omega)
  have PTL := fun m j => pT_length h p m h1 h5 j
  have PUL := fun m j => pU_length h p m h1 h5 j
  have POL := fun n => pO_length h p s c h1 h5 n
  have hpb : pb h p s c dk = (pO h p s c (pM dk (hsz h))).take dk := rfl
  have y1 : ((c : Int) == 0) = false := by simp; omega
  have y2 : ¬ (c : Int) > 65536 := by omega
  go_enter Try.func26, Try.ntmps26
  go_wp2_with fail
  refine (newHMAC_c h kv p w hk (by omega) h1 h5).mono ?_
  rintro e w1 ⟨vi, vo, rfl, bi, bo, k1⟩
  obtain ⟨ai, ci, rfl, -⟩ := bi.form
  obtain ⟨ao, co, rfl, -⟩ := bo.form
  rw [hil] at bi ⊢
  rw [hol] at bo ⊢
  generalize hsz h = sz at *
  generalize bsz h = b at *
  have HIL := Hid.mk hil
  have HOL := Hid.mk hol
  have HPB := Hid.mk hpb
  have HPM := Hid.mk PM
  have HPTL := Hid.mk PTL
  have HPUL := Hid.mk PUL
  have HPOL := Hid.mk POL
  clear hpb PM PTL PUL POL hil hol
  have A2 := Arr.new w1 58 [.int .i64 sz, .int .i64 h, .slice ai b ci, .int .i64 h, .slice ao b co, .int .i64 h, .slice ai b ci]
  have z1 : ¬ (dk : Int) < 1 := by omega
  have x1 : IntKind.u64.wrap (dk : Int) = dk := wrap_u64' dk (by omega)
  have x2 : IntKind.u64.wrap (sz : Int) = sz := wrap_u64' sz (by omega)
  have x3 : IntKind.u64.wrap (4294967295 * (sz : Int)) = 4294967295 * (sz : Int) := by rw [w64]; omega
  have x4 : ¬ (dk : Int) > 4294967295 * (sz : Int) := by omega
  go_wp2_with fail
  refine (hsize_c w1.heap.size sz _ (A2.cell 0)).mono ?_
  rintro e w' ⟨rfl, rfl⟩
  have hmk1 := run_make1 (P := Try.prog) Try.underlying27 inf5 rfl (0 : Int) (sz : Int) (by omega) (by omega) (by omega) (by omega)
  have hmk2 := run_make1 (P := Try.prog) Try.underlying27 inf5 rfl (sz : Int) (sz : Int) (by omega) (by omega) (by omega) (by omega)
  have KA := (Keep.refl w1).alloc (.cells [.int .i64 (sz : Int), .int .i64 (h : Int), .slice ai b ci, .int .i64 (h : Int), .slice ao b co, .int .i64 (h : Int), .slice ai b ci].toArray 58)
  have A3 := A2.keep ((Keep.refl _).alloc (.cells #[] 5))
  go_wp2_with fail
  refine (hsize_c w1.heap.size sz _ (A3.cell 0)).mono ?_
  rintro e w' ⟨rfl, rfl⟩
  have A4 := A3.keep ((Keep.refl _).alloc (.cells (rep sz (.int .u8 0)) 5))
  go_wp2_with fail
  refine (hsize_c w1.heap.size sz _ (A4.cell 0)).mono ?_
  rintro e w' ⟨rfl, rfl⟩
  have PS0 : PS w1 ((((w1.alloc (.cells [.int .i64 (sz : Int), .int .i64 (h : Int), .slice ai b ci, .int .i64 (h : Int), .slice ao b co, .int .i64 (h : Int), .slice ai b ci].toArray 58)).alloc (.cells #[] 5)).alloc (.cells (rep sz (.int .u8 0)) 5)).alloc (.cells (rep sz (.int .u8 0)) 5)) w1.heap.size (w1.heap.size + 1 + 1 + 1) (w1.heap.size + 1 + 1) sz (.slice (some ⟨w1.heap.size + 1, 0, none⟩) 0 0) [.int .i64 sz, .int .i64 h, .slice ai b ci, .int .i64 h, .slice ao b co, .int .i64 h, .slice ai b ci] [] (List.replicate sz 0) (pO h p s c 0) := by
    generalize hWA : w1.alloc (.cells [.int .i64 (sz : Int), .int .i64 (h : Int), .slice ai b ci, .int .i64 (h : Int), .slice ao b co, .int .i64 (h : Int), .slice ai b ci].toArray 58) = WA at *
    have sA : WA.heap.size = w1.heap.size + 1 := by rw [← hWA]; exact World.size_alloc _ _
    have sB : (WA.alloc (.cells #[] 5)).heap.size = w1.heap.size + 1 + 1 := by rw [World.size_alloc, sA]
    have sC : ((WA.alloc (.cells #[] 5)).alloc (.cells (rep sz (.int .u8 0)) 5)).heap.size = w1.heap.size + 1 + 1 + 1 := by rw [World.size_alloc, sB]
    have hT := rep_win ((WA.alloc (.cells #[] 5)).alloc (.cells (rep sz (.int .u8 0)) 5)) sz
    rw [sC] at hT
    have hU := (rep_win (WA.alloc (.cells #[] 5)) sz).keep ((Keep.refl _).alloc (.cells (rep sz (.int .u8 0)) 5))
    rw [sB] at hU
    have hO : Own w1.heap.size 5 (WA.alloc (.cells #[] 5)) (.slice (some ⟨WA.heap.size, 0, none⟩) 0 0) (([] : List UInt8).map cb) := Own.lit (B := w1.heap.size) (e := 5) (w := WA) [] (by omega) (by simp)
    rw [sA] at hO
    refine ⟨((KA.alloc _).alloc _).alloc _, A4.keep ((Keep.refl _).alloc _), hT, ⟨(List.replicate sz (0 : UInt8)).map cb, hU.cut (by simp), by simp⟩, by unfold maxLen; omega, (hO.keep ((Keep.refl _).alloc _)).keep ((Keep.refl _).alloc _), Nat.le_refl _, by omega, by omega, by omega, by omega, by omega, fun q e => ?_⟩
    have : q = w1.heap.size + 1 := by simpa [Value.ownBlock] using e.symm
    omega
  go_wp2_with fail
  have HC2 := Hid.mk hc2
  have HD1 := Hid.mk hd1
  have HD2 := Hid.mk hd2
  have HC1 := Hid.mk hc1
  clear y1 y2 z1 x1 x2 x3 x4 hmk1 hmk2 A2 A3 A4 KA hc1 hc2 hd1 hd2
  obtain ⟨gt, hgt⟩ : ∃ g, g = w1.heap.size + 1 + 1 + 1 := ⟨_, rfl⟩
  rw [← hgt] at PS0 ⊢
  clear hgt
  obtain ⟨gu0, hgu⟩ : ∃ g, g = w1.heap.size + 1 + 1 := ⟨_, rfl⟩
  rw [← hgu] at PS0 ⊢
  clear hgu
  have hsz0 : (1 : Int) ≤ sz := by omega
  go_loopw [14, 15, 17] (fun ov uv bv wr => ∃ (n L x gu cu : Nat) (U T : List UInt8) (ar : Option Addr) (nr cr : Nat), L = n * sz ∧ L < dk + sz ∧ x < 4294967296 ∧ (L < dk → x = n + 1) ∧ bv = .int .u32 x ∧ uv = .slice (some ⟨gu, 0, none⟩) U.length cu ∧ T.length = sz ∧
      PS w1 wr w1.heap.size gt gu cu ov [.int .i64 sz, .int .i64 h, .slice ai b ci, .int .i64 h, .slice ao b co, .int .i64 h, .slice ar nr cr] U T (pO h p s c n)) (fun ov _ _ _ => dk + sz - lenV ov)
  case atStart => exact ⟨0, 0, 1, gu0, sz, [], List.replicate sz 0, ai, b, ci, by simp, by omega, by omega, fun _ => rfl, rfl, rfl, by simp, PS0⟩
  case round =>
    clear PS0
    obtain ⟨n, L, x, gu, cu, U, T, ar, nr, cr, hL, hL2, hx, hxn, rfl, rfl, hTl, S⟩ := hrel
    have hol := HPOL.out n
    obtain ⟨aO, cO, rfl, hoa, hoc, -⟩ := S.o.bs.form
    rw [hol, ← hL] at hoa S ⊢
    unfold maxLen at hoc
    have HL := Hid.mk hL
    have HPO := Hid.mk hol
    have HTl := Hid.mk hTl
    have HX := Hid.mk hx
    have HXN := Hid.mk hxn
    have lS := S.hd.lt
    clear hL hol hTl hx hxn
    generalize hg : w1.heap.size = g at *
    have HG := Hid.mk hg
    clear hg
    by_cases hlt : L < dk
    · have i0 : (L : Int) < dk := by omega
      have HLT := Hid.mk hlt
      clear hlt
      have hxe := HXN.out HLT.out
      have HXE := Hid.mk hxe
      clear hxe HXN
      go_wp2_with fail
      refine (reset_c g h ai b ci _ _ _ _ _ S.hd).mono ?_
      rintro e w2 ⟨rfl, rfl⟩
      have S1 : PS w1 ((wr.setCell ⟨g, 5, none⟩ (.int .i64 h)).setCell ⟨g, 6, none⟩ (.slice ai b ci)) g gt gu cu (.slice aO L cO) [.int .i64 sz, .int .i64 h, .slice ai b ci, .int .i64 h, .slice ao b co, .int .i64 h, .slice ai b ci] U T (pO h p s c n) := (S.seth 5 (.int .i64 h)).seth 6 (.slice ai b ci)
      generalize (wr.setCell ⟨g, 5, none⟩ (.int .i64 h)).setCell ⟨g, 6, none⟩ (.slice ai b ci) = W1 at *
      go_wp2_with fail
      refine (hwrite_c g (hin h p ++ s).length (.slice ai b ci) sv (hin h p) s _ _ rfl rfl (S1.hd.cell 6) (S1.hd.frozen 6) (bi.keep S1.keep) (hs.keep (k1.trans S1.keep)) (by rw [List.length_append, HIL.out]; omega)).mono ?_
      rintro e w3 ⟨ar2, cr2, w2, rfl, rfl, o2, k2⟩
      obtain ⟨n2, hn2⟩ : ∃ n, n = (hin h p ++ s).length := ⟨_, rfl⟩
      rw [← hn2] at o2 ⊢
      clear hn2
      obtain ⟨S3, B3⟩ := S1.wrote k2 o2
      generalize w2.setCell ⟨g, 6, none⟩ (.slice ar2 n2 cr2) = W3 at *
      clear S S1 k2 o2
      go_wp2_with fail
      refine (be32_c x _ HX.out).mono ?_
      rintro e w4 ⟨bv, rfl, o4, k4⟩
      have S4 := S3.step k4
      go_wp2_with fail
      refine (hwrite_c g (hin h p ++ (s ++ dig x 4)).length (.slice ar2 n2 cr2) bv (hin h p ++ s) (dig x 4) _ _ (by rw [List.append_assoc]) rfl (S4.hd.cell 6) (S4.hd.frozen 6) (B3.keep k4) o4.bs (by rw [List.length_append, List.length_append, HIL.out, dig_length]; omega)).mono ?_
      rintro e w6 ⟨ar3, cr3, w5, rfl, rfl, o5, k5⟩
      obtain ⟨n3, hn3⟩ : ∃ n, n = (hin h p ++ (s ++ dig x 4)).length := ⟨_, rfl⟩
      have hn3b : n3 ≤ 1000000 := by rw [hn3, List.length_append, List.length_append, HIL.out, dig_length]; omega
      rw [← hn3] at o5 ⊢
      have HN3 := Hid.mk hn3
      clear hn3
      obtain ⟨S6, B6⟩ := S4.wrote k5 o5
      generalize w5.setCell ⟨g, 6, none⟩ (.slice ar3 n3 cr3) = W6 at *
      obtain ⟨mm, hmm⟩ : ∃ mm, mm = s ++ dig x 4 := ⟨_, rfl⟩
      rw [← hmm] at B6 HN3
      have HMM := Hid.mk hmm
      clear hmm S3 S4 B3 k4 k5 o4 o5
      have hU0 := HPUL.out mm 0
      have HU0 := Hid.mk hU0
      clear hU0
      go_wp2_with fail
      refine (hsum_c g h w1.heap.size _ _ _ (hout h p) (hin h p ++ mm) [] _ h1 h5 (S6.hd.cell 3) (S6.hd.cell 4) (S6.hd.cell 5) (S6.hd.cell 6) (bo.keep S6.keep) B6 S6.u0 S6.keep.size (by rw [← HN3.out]; exact hn3b) (by rw [HOL.out]; omega) (by simp)).mono ?_
      rintro e W7 ⟨uv7, rfl, o7, g7, s7, ob7⟩
      rw [List.nil_append, hm_def] at o7
      obtain ⟨gu7, cu7, rfl, S7⟩ := S6.usum (U' := pU h p mm 0) (by rw [HU0.out]; omega) g7 o7 ob7
      rw [HU0.out]
      clear S6 B6 g7 s7 ob7 o7
      have hcu7 : sz ≤ cu7 := by obtain ⟨sp, _, hl⟩ := S7.u; rw [HU0.out] at hl; omega
      have ub7 := S7.ub
      rw [HU0.out] at ub7
      obtain ⟨W8, hcp, win8, gr8⟩ := copy_into (P := Try.prog) (t := 27) Try.underlying27 siz5 S7.t ub7 (o := 0) (k := 0) (n := sz) rfl HU0.out.symm (by rw [HTl.out]; omega) (dLen := sz) (dCap := sz) (Nat.le_refl _)
      rw [List.take_zero, List.nil_append, Nat.zero_add, List.drop_of_length_le (by rw [HTl.out]; omega), List.append_nil] at win8
      have S8 := S7.tgrow gr8 win8
      clear win8 gr8 S7 ub7
      go_wp2_with fail
      go_loopw [15, 18] (fun uv iv wx => ∃ (j gu cu : Nat) (ar : Option Addr) (nr cr : Nat), j + 1 ≤ c ∧ iv = .int .u32 (j + 1 : Nat) ∧ uv = .slice (some ⟨gu, 0, none⟩) sz cu ∧
          PS w1 wx g gt gu cu (.slice aO L cO) [.int .i64 sz, .int .i64 h, .slice ai b ci, .int .i64 h, .slice ao b co, .int .i64 h, .slice ar nr cr] (pU h p mm j) (pT h p mm j) (pO h p s c n)) (fun _ iv _ => c + 5 - (intOf iv).toNat)
      case atStart => exact ⟨0, gu7, cu7, ar3, n3, cr3, by have := HC1.out; omega, rfl, rfl, S8⟩
      case round =>
        clear S8 hcp
        obtain ⟨j, gu', cu', ar4, nr4, cr4, hj, rfl, rfl, S⟩ := hrel
        have HTj := Hid.mk (HPTL.out mm j)
        have HUj := Hid.mk (HPUL.out mm j)
        have HUj1 := Hid.mk (HPUL.out mm (j + 1))
        obtain ⟨q, hq⟩ : ∃ q, q = j + 1 := ⟨_, rfl⟩
        rw [← hq]
        have HQ := Hid.mk hq
        by_cases hlt2 : j + 2 ≤ c
        · have j0 : (q : Int) < c := by omega
          have j00 : (q : Int) < 65536 := by have := HC2.out; omega
          clear hq
          go_wp2_with fail
          refine (reset_c g h ai b ci _ _ _ _ _ S.hd).mono ?_
          rintro e w2 ⟨rfl, rfl⟩
          have S1 : PS w1 ((wr.setCell ⟨g, 5, none⟩ (.int .i64 h)).setCell ⟨g, 6, none⟩ (.slice ai b ci)) g gt gu' cu' (.slice aO L cO) [.int .i64 sz, .int .i64 h, .slice ai b ci, .int .i64 h, .slice ao b co, .int .i64 h, .slice ai b ci] (pU h p mm j) (pT h p mm j) (pO h p s c n) := (S.seth 5 (.int .i64 h)).seth 6 (.slice ai b ci)
          generalize (wr.setCell ⟨g, 5, none⟩ (.int .i64 h)).setCell ⟨g, 6, none⟩ (.slice ai b ci) = W1 at *
          have ub1 := S1.ub
          rw [HUj.out] at ub1
          go_wp2_with fail
          refine (hwrite_c g (hin h p ++ pU h p mm j).length (.slice ai b ci) _ (hin h p) (pU h p mm j) _ _ rfl rfl (S1.hd.cell 6) (S1.hd.frozen 6) (bi.keep S1.keep) ub1 (by rw [List.length_append, HIL.out, HUj.out]; omega)).mono ?_
          rintro e w3 ⟨ar5, cr5, w2, rfl, rfl, o2, k2⟩
          obtain ⟨n5, hn5⟩ : ∃ n, n = (hin h p ++ pU h p mm j).length := ⟨_, rfl⟩
          have hn5b : n5 ≤ 1000000 := by rw [hn5, List.length_append, HIL.out, HUj.out]; omega
          rw [← hn5] at o2 ⊢
          have HN5 := Hid.mk hn5
          clear hn5
          obtain ⟨S3, B3⟩ := S1.wrote k2 o2
          generalize w2.setCell ⟨g, 6, none⟩ (.slice ar5 n5 cr5) = W3 at *
          clear S S1 k2 o2 ub1
          go_wp2_with fail
          refine (hsum_c g h w1.heap.size _ _ _ (hout h p) (hin h p ++ pU h p mm j) [] _ h1 h5 (S3.hd.cell 3) (S3.hd.cell 4) (S3.hd.cell 5) (S3.hd.cell 6) (bo.keep S3.keep) B3 S3.u0 S3.keep.size (by rw [← HN5.out]; exact hn5b) (by rw [HOL.out]; omega) (by simp)).mono ?_
          rintro e W7 ⟨uv7, rfl, o7, g7, s7, ob7⟩
          rw [List.nil_append, hm_def] at o7
          obtain ⟨gu8, cu8, rfl, S7⟩ := S3.usum (U' := pU h p mm (j + 1)) (by rw [HUj1.out]; omega) g7 o7 ob7
          rw [HUj1.out]
          clear S3 B3 g7 s7 ob7 o7
          have hcu8 : sz ≤ cu8 := by obtain ⟨sp, _, hl⟩ := S7.u; rw [HUj1.out] at hl; omega
          go_wp2_with fail
          go_loopw [81] (fun iv wx => ∃ k : Nat, k ≤ sz ∧ iv = .int .i64 k ∧ PS w1 wx g gt gu8 cu8 (.slice aO L cO) [.int .i64 sz, .int .i64 h, .slice ai b ci, .int .i64 h, .slice ao b co, .int .i64 h, .slice ar5 n5 cr5] (pU h p mm (j + 1)) (xfs (pT h p mm j) (pU h p mm (j + 1)) k) (pO h p s c n)) (fun iv _ => sz - (intOf iv).toNat)
          case atStart => exact ⟨0, by omega, rfl, by rw [xfs_zero]; exact S7⟩
          case round =>
            clear S7
            obtain ⟨k, hk', rfl, S⟩ := hrel
            by_cases hlt3 : k < sz
            · have i3 : (k : Int) < sz := by omega
              have i4 : (0 : Int) ≤ k := by omega
              have hkT : k < (pT h p mm j).length := by rw [HTj.out]; exact hlt3
              have hkU : k < (pU h p mm (j + 1)).length := by rw [HUj1.out]; exact hlt3
              obtain ⟨sp, hu, hl⟩ := S.u
              have ct := S.t.cell (k := k) (o := k) (by rw [xfs_length _ _ _ (by omega)]; exact hkT) (by simp)
              rw [xfs_get _ _ _ hkT] at ct
              have cu := hu.cell (k := k) (o := k) hkU (by simp)
              have fz := S.t.frozen k
              have hx8 := bits_xor8 (pT h p mm j)[k] (pU h p mm (j + 1))[k]
              have hset := S.sett (i := k) (by rw [xfs_length _ _ _ (by omega)]; exact hkT) ((pT h p mm j)[k] ^^^ (pU h p mm (j + 1))[k])
              rw [xfs_set _ _ _ hkT hkU] at hset
              generalize (pT h p mm j)[k] = xt at *
              generalize (pU h p mm (j + 1))[k] = xu at *
              have HS := Hid.mk hset
              clear hset hu hl
              go_wp2_with fail
              go_region
              all_goals
                go_wp2_with fail
                go_roundw
                case rel => exact ⟨k + 1, by omega, by go_num, HS.out.step (Keep.refl _).drew⟩
                case measure => simp [intOf]; omega
            · have i3 : ¬ (k : Int) < sz := by omega
              have hks : k = sz := by omega
              have hall : xfs (pT h p mm j) (pU h p mm (j + 1)) k = pT h p mm (j + 1) := by rw [hks, ← HTj.out, xfs_all]; rfl
              rw [hall] at S
              clear hall hks
              go_wp2_with fail
              go_roundw
              case rel => exact ⟨j + 1, gu8, cu8, ar5, n5, cr5, by omega, by have := HQ.out; go_num, rfl, S⟩
              case measure => have := HQ.out; simp [intOf]; omega
        · have j0 : ¬ (q : Int) < c := by omega
          have hjc : j = c - 1 := by omega
          have HJC := Hid.mk hjc
          clear hq hjc
          have tb := S.tb (n := sz) HTj.out.symm (by unfold maxLen; omega)
          have HD2' := HD2.out
          have hLs : L + sz ≤ 1000000000000 := by omega
          have hso := S.o
          have hsk := S.keep.size
          clear HD2'
          go_wp2_with (at_builtin; refine wpList_app (by rfl) _ _ _ (by rfl) Try.underlying27 inf5 rfl w1.heap.size hso tb (cb_one _) (by rfl) (by rfl) (by rw [List.length_map, List.length_map, HPO.out, HTj.out, ← HL.out]; unfold maxLen; omega) (by rw [List.length_map, List.length_map, HPO.out, HTj.out, ← HL.out]; omega) hsk ?_; intro ov' w' hown' hgr hob)
          rw [← List.map_append] at hown'
          have S9 := S.oapp hgr hown' hob
          have x9 : ∃ x' : Nat, x' < 4294967296 ∧ IntKind.u32.wrap ((x : Int) + 1) = (x' : Int) ∧ (L + sz < dk → x' = n + 1 + 1) := by
            refine ⟨(x + 1) % 4294967296, Nat.mod_lt _ (by omega), by rw [w32]; omega, fun hh => ?_⟩
            have h9 := HXE.out
            have h10 : n + 1 < 4294967295 := by
              have h11 : (n + 1) * sz < 4294967295 * sz := by rw [Nat.succ_mul, ← HL.out]; exact Nat.lt_of_lt_of_le hh HD2.out
              exact Nat.lt_of_mul_lt_mul_right h11
            omega
          obtain ⟨x', hx'1, hx'2, hx'3⟩ := x9
          have HX3 := Hid.mk hx'3
          have HX1 := Hid.mk hx'1
          clear hx'3 hx'1
          go_wp2_with fail
          go_roundw
          case rel =>
            refine ⟨n + 1, L + sz, x', gu', cu', pU h p mm j, pT h p mm j, ar4, nr4, cr4, by rw [HL.out, Nat.succ_mul], by have := HLT.out; omega, HX1.out, HX3.out, ?_, by rw [HUj.out], HTj.out, ?_⟩
            · rw [w32] at hx'2; rw [hx'2]
            · have e1 : pO h p s c (n + 1) = pO h p s c n ++ pT h p mm j := by rw [pO, ← HJC.out, HMM.out, HXE.out]
              rw [e1]
              exact S9
          case measure =>
            obtain ⟨a3, c3, h3, -⟩ := hown'.sl
            rw [h3]; simp [lenV, HPO.out, HTj.out]; have := HLT.out; have := HL.out; omega
    · have i0 : ¬ (L : Int) < dk := by omega
      have hd1' := HD1.out
      have hm := HPM.out n (by rw [← HL.out]; omega) (by rw [← HL.out]; omega)
      have hpbn : pb h p s c dk = (pO h p s c n).take dk := by rw [HPB.out, hm]
      have HPN := Hid.mk hpbn
      clear hpbn hm
      rcases S.o.win with ⟨hv, _⟩ | ⟨go, cap, sp, hv, hB, hwin, hl, hcm⟩
      · exfalso
        simp only [Value.slice.injEq] at hv
        omega
      · simp only [Value.slice.injEq] at hv
        obtain ⟨rfl, -, rfl⟩ := hv
        rw [HPO.out, ← HL.out] at hl
        have hle : dk ≤ L := by omega
        have i1 : (dk : Int) ≤ L := by omega
        have i2 : (dk : Int) ≤ cO := by omega
        have i3 : dk ≤ cO := by omega
        have hBB := hB
        have K0 := k1.trans S.keep
        have hKs := k1.size
        clear hd1'
        by_cases hcc : cO = dk
        · have hwin0 : Win wr go 5 [] [] ((pO h p s c n).map cb ++ sp) := hwin.cut (by simp)
          have hcc' := hcc.symm
          subst hcc'
          go_wp2_with fail
          refine (wipe_c go 0 0 [] [] ((pO h p s c n).map cb ++ sp) _ rfl (Nat.le_refl _) (by unfold maxLen; omega) hwin0).mono ?_
          rintro e w5 ⟨rfl, win5, gr5⟩
          have win6 : Win w5 go 5 [] ((pO h p s c n).take dk) (((pO h p s c n).drop dk).map cb ++ sp) := win5.cut (by simp [← List.map_append, ← List.append_assoc])
          have b6 := win6.bs (n := dk) (c := dk) (by rw [List.length_take, HPO.out, ← HL.out]; omega) (Nat.le_refl _) hcm
          go_wp2
          go_ret2
          exact ⟨_, rfl, by rw [HPN.out]; exact b6, K0.grown gr5 (fun q hq => by simp at hq; omega)⟩
        · have hwin0 : Win wr go 5 (((pO h p s c n).take dk).map cb) ((pO h p s c n).drop dk) sp := hwin.cut (by simp [← List.map_append])
          have hpre : (((pO h p s c n).take dk).map cb).length = dk := by rw [List.length_map, List.length_take, HPO.out, ← HL.out]; omega
          have WC := wipe_c go (L - dk) (cO - dk) ((pO h p s c n).drop dk) (((pO h p s c n).take dk).map cb) sp wr (by rw [List.length_drop, HPO.out, ← HL.out]) (by omega) (by omega) hwin0
          rw [hpre] at WC
          clear hpre
          go_wp2_with fail
          refine WC.mono ?_
          rintro e w5 ⟨rfl, win5, gr5⟩
          have win6 : Win w5 go 5 [] ((pO h p s c n).take dk) ((List.replicate (L - dk) (0 : UInt8)).map cb ++ sp) := win5.cut (by simp)
          have b6 := win6.bs (n := dk) (c := cO) (by rw [List.length_take, HPO.out, ← HL.out]; omega) (by omega) hcm
          clear WC
          go_wp2
          go_ret2
          exact ⟨_, rfl, by rw [HPN.out]; exact b6, K0.grown gr5 (fun q hq => by simp at hq; omega)⟩
end Go.Proofs.Qxb6500769a
