/- unionvfs: Open. -/
import Derived.Test.Qxb6500767aFm
import Derived.Test.Qxb6500767aFc
import Derived.Test.Qxb6500767aPd
namespace Go.Proofs.Qxb6500767a
open Go.RowKit Go.Qm
set_option linter.unusedVariables false
set_option linter.unusedSimpArgs false
attribute [local go_sem ↓] Go.wp_at_zero Go.wp_at_succ
theorem or_lt {u n : Nat} (hu : u < 2 ^ 32) (hn : n < 32) : u ||| 2 ^ n < 2 ^ 32 := Nat.or_lt_two_pow hu (Nat.pow_lt_pow_right (by omega) hn)
theorem bit_or (u n : Nat) (hu : u < 2 ^ 32) (hn : n < 32) : bits .or .u32 (u : Int) ((2 : Int) ^ n % 4294967296) = ((u ||| 2 ^ n : Nat) : Int) := by
  have h1 : 2 ^ n < 2 ^ 32 := Nat.pow_lt_pow_right (by omega) hn
  have e0 : (2 : Int) ^ n % 4294967296 = ((2 ^ n : Nat) : Int) := by
    have : (2 : Int) ^ n = ((2 ^ n : Nat) : Int) := by push_cast; rfl
    have h1' : (2 ^ n : Nat) < 4294967296 := h1
    rw [this]
    generalize (2 ^ n : Nat) = x at *
    omega
  rw [e0]
  have e : (BitVec.ofInt 32 (u : Int) ||| BitVec.ofInt 32 ((2 ^ n : Nat) : Int)).toNat = u ||| 2 ^ n := by
    rw [BitVec.ofInt_natCast, BitVec.ofInt_natCast, BitVec.toNat_or, BitVec.toNat_ofNat, BitVec.toNat_ofNat, Nat.mod_eq_of_lt hu, Nat.mod_eq_of_lt h1]
  show IntKind.u32.wrap ((BitVec.ofInt 32 (u : Int) ||| BitVec.ofInt 32 ((2 ^ n : Nat) : Int)).toNat : Int) = _
  rw [e]
  have := or_lt hu hn
  generalize u ||| 2 ^ n = x at *
  simp [IntKind.wrap, IntKind.signed, IntKind.bits]
  omega
/-- A handle is set. -/
theorem FSW.put0 {w : World} {gf gt u : Nat} {hs : List Hd} (h : FSW w gf gt u hs) {n : Nat} (hn : n < 32) (nd : Nat) (fl : Int) (b : Bool) : FSW (((((w.setCell ⟨gf, 2 + n * 5, none⟩ (.int .i64 (nd : Nat))).setCell ⟨gf, 2 + n * 5 + 1, none⟩ (.int .i64 fl)).setCell ⟨gf, 2 + n * 5 + 2, none⟩ (.bool b)).setCell ⟨gf, 2 + n * 5 + 3, none⟩ (.int .i64 0)).setCell ⟨gf, 2 + n * 5 + 4, none⟩ (str [])) gf gt u (hs.set n ⟨nd, fl, b, 0, []⟩) := by
  have hl : n < hs.length := by rw [h.len]; exact hn
  have r1 := h.seth hn (j := 0) (by omega) { hat hs n with node := nd } (.int .i64 (nd : Nat)) rfl
  have r2 := r1.seth hn (j := 1) (by omega) { hat hs n with node := nd, flags := fl } (.int .i64 fl) (by rw [hat_set hl]; rfl)
  rw [List.set_set] at r2
  have r3 := r2.seth hn (j := 2) (by omega) { hat hs n with node := nd, flags := fl, dir := b } (.bool b) (by rw [hat_set hl]; rfl)
  rw [List.set_set] at r3
  have r4 := r3.seth hn (j := 3) (by omega) { hat hs n with node := nd, flags := fl, dir := b, off := 0 } (.int .i64 0) (by rw [hat_set hl]; rfl)
  rw [List.set_set] at r4
  have r5 := r4.seth hn (j := 4) (by omega) ⟨nd, fl, b, 0, []⟩ (str []) (by rw [hat_set hl]; rfl)
  rw [List.set_set, Nat.add_zero] at r5
  exact r5
/-- What a successful open leaves. -/
def finO (u : Nat) (hs : List Hd) (h : Nat) (fl : Int) (T : List Nd) (nd : Nat) : Nat × List Hd × List Nd × Int × Int :=
  (u ||| 2 ^ h, hs.set h ⟨nd, bits .and .i64 fl 35, decide ((at' T nd).kind = 2), 0, []⟩, T.set nd { at' T nd with opens := (at' T nd).opens + 1 }, (h : Nat), 0)
def opF (u : Nat) (hs : List Hd) (T : List Nd) (path : List UInt8) (fl mode : Int) : Nat × List Hd × List Nd × Int × Int :=
  if chkF fl mode ≠ 0 then (u, hs, T, -1, chkF fl mode) else match lowN u with
  | none => (u, hs, T, -1, 3)
  | some h =>
    if (pathF T path true).2 = 6 ∧ nob fl 4 = false then
      (if (makeT T path 1 mode []).2.2 ≠ 0 then (u, hs, (makeT T path 1 mode []).1, -1, (makeT T path 1 mode []).2.2) else finO u hs h fl (makeT T path 1 mode []).1 (makeT T path 1 mode []).2.1)
    else if (pathF T path true).2 ≠ 0 then (u, hs, T, -1, (pathF T path true).2)
    else if admF (at' T (pathF T path true).1) fl ≠ 0 then (u, hs, T, -1, admF (at' T (pathF T path true).1) fl)
    else finO u hs h fl (if nob fl 16 = false then (resT T (pathF T path true).1 0).1 else T) (pathF T path true).1
theorem res_at (T : List Nd) {i : Nat} (hi : i < T.length) (n j : Nat) : (at' (resT T i n).1 j).kind = (at' T j).kind ∧ (resT T i n).1.length = T.length ∧ (at' (resT T i n).1 j).opens = (at' T j).opens := by
  unfold resT
  split
  · exact ⟨rfl, rfl, rfl⟩
  · rw [at_upd hi, List.length_set]
    by_cases e : j = i
    · rw [if_pos e, e]; exact ⟨rfl, rfl, rfl⟩
    · rw [if_neg e]; exact ⟨rfl, rfl, rfl⟩
theorem lowN_lt {u h : Nat} (e : lowN u = some h) : h < 32 ∧ u.testBit h = false ∧ ∀ i, i < h → u.testBit i = true := by
  unfold lowN at e
  rw [List.find?_range_eq_some] at e
  obtain ⟨h1, h2, h3⟩ := e
  exact ⟨by simpa using h2, by simpa using h1, fun i hi => by simpa using h3 i hi⟩
set_option maxRecDepth 4000 in
set_option maxHeartbeats 8000000 in
theorem vOpen_c (B gf gt u k kf kn : Nat) (path : List UInt8) (fl mode : Int) (fp : Nat → Prop) (hs : List Hd) (T : List Nd) (w : World) (hV : VW B fp w gf gt u hs T) (lim : TLim T) (ti : TIx (fun _ => False) k kf kn T) (hl : path.length ≤ 100000) :
    Calls Try.prog 28 #[.pointer (some ⟨gf, 0, none⟩), str path, .int .i64 fl, .int .i64 mode] w fun e w' => RetV B fp w gf gt (opF u hs T path fl mode).1 (opF u hs T path fl mode).2.1 (opF u hs T path fl mode).2.2.1 (.returned (.tuple #[.int .i64 (opF u hs T path fl mode).2.2.2.1, .int .i64 (opF u hs T path fl mode).2.2.2.2])) e w' := by
  have HH := Hid.mk hV
  have CF := checkFlags_c fl mode w
  have LF := lowestFree_c gf gt u hs w hV.fs
  have WC := walk_c gt T true path w hV.tree.tr lim.ok hl
  obtain ⟨c0, c1⟩ := hV.fs.head
  obtain ⟨R, hR⟩ : ∃ R, R = opF u hs T path fl mode := ⟨_, rfl⟩
  rw [← hR]
  unfold opF at hR
  by_cases hc : chkF fl mode = 0
  · rw [if_neg (by simpa using hc)] at hR
    rw [hc] at CF
    cases hlow : lowN u with
    | none =>
      rw [hlow] at LF hR
      simp only [optI] at LF hR
      have HV := Hid.mk hR
      clear hR hc hlow hV WC
      go_enter Try.func28, Try.ntmps28
      go_wp2_with fail
      refine CF.mono ?_
      rintro e w0 ⟨rfl, rfl⟩
      go_wp2_with fail
      refine LF.mono ?_
      rintro e w1 ⟨rfl, rfl⟩
      go_wp2_with fail
      go_ret2
      rw [HV.out]
      exact RetV.of HH.out (Keep.refl _) _
    | some h =>
      rw [hlow] at LF hR
      simp only [optI] at LF hR
      obtain ⟨hh, htb, -⟩ := lowN_lt hlow
      have hn := pathF_lt lim.ok path true
      have hu := hV.fs.lt
      have HC := Hid.mk (fun W (hk : Keep w W) => create_c B gt mode path fp T W (hV.tree.keep hk) lim (by have := ti.ub; omega) hl)
      have HM := Hid.mk (make_ti ti path (kd := 1) (by decide) mode (data := []) (fun a => by cases a)).2
      have HA := Hid.mk (fun W (hk : Keep w W) => admit_c gf gt u (pathF T path true).1 hs fl T W (hV.fs.keep hk) (hV.tree.tr.keep hk) hn)
      have HS := Hid.mk (fun W (hk : Keep w W) => resize_c B gt (pathF T path true).1 0 fp T W (hV.tree.keep hk) hn lim.ok.len (by have := ti.ub; omega) (by omega) (by have := ti.data (pathF T path true).1; omega))
      have HF := Hid.mk (fun W (hk : Keep w W) => (hV.fs.keep hk).head.1)
      have HO := Hid.mk lim.opens
      generalize makeT T path 1 mode [] = MK at *
      obtain ⟨⟨n, er⟩, hp⟩ : ∃ p, p = pathF T path true := ⟨_, rfl⟩
      rw [← hp] at WC hn HA HS hR
      simp only at WC hn HA HS hR
      obtain ⟨b4, h4⟩ : ∃ b, b = nob fl 4 := ⟨_, rfl⟩
      obtain ⟨b16, h16⟩ : ∃ b, b = nob fl 16 := ⟨_, rfl⟩
      rw [← h4, ← h16] at hR
      unfold nob at h4 h16
      have f4 : (bits .and .i64 fl 4 != 0) = !b4 := by rw [h4]; rfl
      have f16 : (bits .and .i64 fl 16 != 0) = !b16 := by rw [h16]; rfl
      have HR := Hid.mk hR
      have z1 : decide ((h : Int) < 0) = false := decide_eq_false (by omega)
      have h32 : (h : Int) < 32 := by omega
      have h00 : (0 : Int) ≤ h := by omega
      clear hR hc hlow hV h4 h16 hp lim ti
      go_enter Try.func28, Try.ntmps28
      go_wp2_with fail
      refine CF.mono ?_
      rintro e w0 ⟨rfl, rfl⟩
      go_wp2_with fail
      refine LF.mono ?_
      rintro e w1 ⟨rfl, rfl⟩
      go_wp2_with fail
      refine WC.mono ?_
      rintro e w2 ⟨rfl, k2⟩
      obtain ⟨W0, hW0⟩ : ∃ W0, W0 = w1 := ⟨_, rfl⟩
      subst hW0
      replace c0 := HF.out _ k2
      clear WC CF LF c1
      go_upto_region 8 with fail
      obtain ⟨tb, htb2⟩ : ∃ tb, tb = ((er == 6) && !b4) := ⟨_, rfl⟩
      go_cut [39] from 33 to 38 (fun tv wx => tv = .bool tb ∧ wx = w2)
      case first =>
        by_cases h6 : er = 6
        · subst h6
          have ht : tb = !b4 := by rw [htb2]; simp
          have HT := Hid.mk ht
          clear ht htb2
          go_wp2_with fail
          go_meet
          case rel => rw [HT.out]; exact ⟨rfl, rfl⟩
        · have q2 : (er == 6) = false := by simpa using h6
          have ht : tb = false := by rw [htb2, q2]; rfl
          have HT := Hid.mk ht
          clear ht htb2 h6
          go_wp2_with fail
          go_meet
          case rel => rw [HT.out]; exact ⟨rfl, rfl⟩
      case rest =>
        obtain ⟨rfl, rfl⟩ := hcut
        go_upto_if 39 with fail
        go_cut [12, 13] from 40 to 71 (fun nv _ wx => ∃ nd T1 fp1, nv = .int .i64 (nd : Nat) ∧ VW B fp1 wx gf gt u hs T1 ∧ Stp (fpV fp gf) (fpV fp1 gf) W0 wx ∧ nd < T1.length ∧ (at' T1 nd).opens ≤ 1000000 ∧ R = finO u hs h fl T1 nd)
        case first =>
          by_cases hA : er = 6 ∧ b4 = false
          · obtain ⟨rfl, rfl⟩ := hA
            have htt : tb = true := by rw [htb2]; rfl
            subst htt
            clear htb2
            have HR2 := HR.out
            rw [if_pos ⟨rfl, rfl⟩] at HR2
            obtain ⟨T1, n1, er1⟩ := MK
            simp only at HR2
            have CC := HC.out _ k2
            simp only at CC
            have HM2 := HM.out
            simp only at HM2
            by_cases he1 : er1 = 0
            · subst he1
              rw [if_neg (by simp)] at HR2
              have HV := Hid.mk HR2
              have HM3 := Hid.mk (HM2.2.2.2 rfl)
              clear HR2 HM2 HM HC HA HS HR
              go_wp2_with fail
              refine CC.mono ?_
              rintro e w3 ⟨fp1, rfl, t1, s1⟩
              obtain ⟨V1, s2⟩ := (HH.out.keep k2).step t1 s1
              have HV1 := Hid.mk V1
              clear V1 t1
              go_wp2_with fail
              go_meet
              case rel =>
                obtain ⟨m1, m2, m3, -⟩ := HM3.out
                refine ⟨n1, T1, fp1, rfl, HV1.out, (Stp.keep k2).trans s2, ?_, ?_, HV.out⟩
                · omega
                · rw [m1, m3]; omega
            · rw [if_pos he1] at HR2
              have HV := Hid.mk HR2
              have q1 : (er1 != 0) = true := by simpa using he1
              clear HR2 HM2 HM HC HA HS HR he1
              go_wp2_with fail
              refine CC.mono ?_
              rintro e w3 ⟨fp1, rfl, t1, s1⟩
              obtain ⟨V1, s2⟩ := (HH.out.keep k2).step t1 s1
              have HV1 := Hid.mk V1
              clear V1 t1
              go_wp2_with fail
              go_ret2
              rw [HV.out]
              exact ⟨fp1, rfl, HV1.out, (Stp.keep k2).trans s2⟩
          · have HR2 := HR.out
            rw [if_neg hA] at HR2
            have htt : tb = false := by
              rw [htb2]
              cases b4 with
              | true => simp
              | false => simpa using fun a => hA ⟨a, rfl⟩
            subst htt
            clear htb2
            by_cases her : er = 0
            · subst her
              rw [if_neg (by simp)] at HR2
              have AC := HA.out _ k2
              by_cases had : admF (at' T n) fl = 0
              · rw [if_neg (by simpa using had)] at HR2
                rw [had] at AC
                cases b16 with
                | true =>
                  rw [if_neg (by decide)] at HR2
                  have HV := Hid.mk HR2
                  clear HR2 HM HC HA HS HR hA had
                  go_wp2_with fail
                  refine AC.mono ?_
                  rintro e w3 ⟨rfl, k3⟩
                  go_wp2_with fail
                  go_meet
                  case rel => exact ⟨n, T, fp, rfl, HH.out.keep (k2.trans k3), Stp.keep (k2.trans k3), hn, HO.out n hn, HV.out⟩
                | false =>
                  rw [if_pos rfl] at HR2
                  have HV := Hid.mk HR2
                  have HS2 := Hid.mk HS.out
                  clear HR2 HM HC HA HS HR hA had
                  go_wp2_with fail
                  refine AC.mono ?_
                  rintro e w3 ⟨rfl, k3⟩
                  replace c0 := HF.out _ (k2.trans k3)
                  have SC := HS2.out _ (k2.trans k3)
                  clear HS2
                  go_wp2_with fail
                  refine SC.mono ?_
                  rintro e w4 ⟨fp1, rfl, t1, s1⟩
                  obtain ⟨V1, s2⟩ := (HH.out.keep (k2.trans k3)).step t1 s1
                  have HV1 := Hid.mk V1
                  have HS1 := Hid.mk ((Stp.keep (k2.trans k3)).trans s2)
                  clear V1 t1 s1 s2
                  go_wp2_with fail
                  go_meet
                  case rel =>
                    have ra := res_at T hn 0 n
                    refine ⟨n, _, fp1, rfl, HV1.out, HS1.out, ?_, ?_, HV.out⟩
                    · rw [ra.2.1]; exact hn
                    · rw [ra.2.2]; exact HO.out n hn
              · rw [if_pos had] at HR2
                have HV := Hid.mk HR2
                have q1 : (admF (at' T n) fl != 0) = true := by simpa using had
                clear HR2 HM HC HA HS HR hA had
                go_wp2_with fail
                refine AC.mono ?_
                rintro e w3 ⟨rfl, k3⟩
                go_wp2_with fail
                go_ret2
                rw [HV.out]
                exact RetV.of HH.out (k2.trans k3) _
            · rw [if_pos her] at HR2
              have HV := Hid.mk HR2
              have q1 : (er != 0) = true := by simpa using her
              clear HR2 HM HC HA HS HR
              clear hA her
              go_wp2_with fail
              go_ret2
              rw [HV.out]
              exact RetV.of HH.out k2 _
        case rest =>
          obtain ⟨nd, T1, fp1, rfl, V1, s1, hnd, hop, hRf⟩ := hcut
          have HV := Hid.mk hRf
          have HC2 := hold_c B gt nd fp1 T1 wc V1.tree hnd hop
          have HV1 := Hid.mk V1
          replace c0 := V1.fs.head.1
          have hkd : (at' (T1.set nd { at' T1 nd with opens := (at' T1 nd).opens + 1 }) nd).kind = (at' T1 nd).kind := by rw [at_set hnd]
          have hnd2 : nd < (T1.set nd { at' T1 nd with opens := (at' T1 nd).opens + 1 }).length := by rw [List.length_set]; exact hnd
          unfold finO at HV
          generalize T1.set nd { at' T1 nd with opens := (at' T1 nd).opens + 1 } = T2 at *
          have bo := bit_or u h hu hh
          have HS1 := Hid.mk s1
          obtain ⟨kd, hkde⟩ : ∃ kd, kd = (at' T1 nd).kind := ⟨_, rfl⟩
          rw [← hkde] at hkd HV
          clear hRf V1 s1 HM HC HA HS HR HO htb2 hkde
          go_wp2_with fail
          refine HC2.mono ?_
          rintro e w3 ⟨fp2, rfl, t2, s2⟩
          obtain ⟨V2, s3⟩ := HV1.out.step t2 s2
          have q0 := V2.fs.head.1
          have q1 := V2.fs.head.2
          have z1 := V2.fs.arr.frozen 1
          obtain ⟨V3, s4⟩ := V2.hset (V2.fs.setu (or_lt hu hh)) ((Fr.refl (fun q => q = gf) w3).setCell (p := ⟨gf, 1, none⟩) (Or.inl rfl) (.int .u32 ((u ||| 2 ^ h : Nat) : Int)))
          have HV3 := Hid.mk V3
          have HS3 := Hid.mk (HS1.out.trans (s3.trans s4))
          clear V2 V3 s3 s4 t2 s2 HC2 HV1 HS1
          generalize u ||| 2 ^ h = u1 at *
          go_upto_region 21 with fail
          have V3 := HV3.out
          have HS4 := Hid.mk HS3.out
          generalize w3.setCell ⟨gf, 1, none⟩ (.int .u32 (u1 : Nat)) = W3 at *
          replace V3 := HV3.out
          have c3 := V3.fs.head.1
          have SC := fun W (hk : Keep W3 W) => statL_c gt nd T2 W (V3.tree.tr.keep hk) hnd2
          rw [hkd] at SC
          obtain ⟨bd, hbd⟩ : ∃ bd, bd = decide (kd = 2) := ⟨_, rfl⟩
          have zk : ((kd : Int) == 2) = bd := by
            rw [hbd]
            by_cases e : kd = 2
            · subst e; rfl
            · rw [decide_eq_false e]; simp; omega
          rw [← hbd] at HV
          have HP := Hid.mk (fun W (hk : Keep W3 W) => (V3.fs.keep hk).put0 hh nd (bits .and .i64 fl 35) bd)
          generalize (statF T2 nd).size = sz at *
          generalize (at' T2 nd).mode = md at *
          generalize (at' T2 nd).links = lk at *
          clear V3 q0 q1 z1 bo hkd hbd c0
          go_region_held3 (fun W => W.cell? ⟨gf, 0, none⟩ = some (.pointer (some ⟨gt, 0, none⟩)))
            (with_reducible first | assumption | exact c3 | exact (Keep.refl W3).drew.cell c3 | exact Q1.cell c3 | exact HV5.out.1.fs.head.1)
            ((go_at_call 59; refine (SC _ (Keep.refl W3).drew).mono ?_; rintro x y ⟨rfl, qq⟩
              have Q1 : Keep W3 y := (Keep.refl W3).drew.trans qq
              have V4 := HV3.out.keep Q1
              obtain ⟨a0, a1, a2, a3, a4⟩ := V4.fs.cell hh
              have f0 := V4.fs.arr.frozen (2 + h * 5)
              have f1 := V4.fs.arr.frozen (2 + h * 5 + 1)
              have f2 := V4.fs.arr.frozen (2 + h * 5 + 2)
              have f3 := V4.fs.arr.frozen (2 + h * 5 + 3)
              have f4 := V4.fs.arr.frozen (2 + h * 5 + 4)
              have FR := (((((Fr.refl (fun q => q = gf) y).setCell (p := ⟨gf, 2 + h * 5, none⟩) (Or.inl rfl) (.int .i64 (nd : Nat))).setCell (p := ⟨gf, 2 + h * 5 + 1, none⟩) (Or.inl rfl) (.int .i64 (bits .and .i64 fl 35))).setCell (p := ⟨gf, 2 + h * 5 + 2, none⟩) (Or.inl rfl) (.bool bd)).setCell (p := ⟨gf, 2 + h * 5 + 3, none⟩) (Or.inl rfl) (.int .i64 0)).setCell (p := ⟨gf, 2 + h * 5 + 4, none⟩) (Or.inl rfl) (str [])
              have HV5 := Hid.mk (V4.hset (HP.out _ Q1) FR)
              have HQ := Hid.mk Q1
              clear V4 FR))
          go_wp2_with fail
          go_ret2
          rw [HV.out]
          exact ⟨fp2, rfl, HV5.out.1, HS4.out.trans ((Stp.keep HQ.out).trans HV5.out.2)⟩
  · rw [if_pos hc] at hR
    have HV := Hid.mk hR
    have q1 : (chkF fl mode != 0) = true := by simpa using hc
    clear hR hc hV WC LF
    go_enter Try.func28, Try.ntmps28
    go_wp2_with fail
    refine CF.mono ?_
    rintro e w0 ⟨rfl, rfl⟩
    go_wp2_with fail
    go_ret2
    rw [HV.out]
    exact RetV.of HH.out (Keep.refl _) _
end Go.Proofs.Qxb6500767a
