/- The law Lengths: its walk. -/
import Derived.Test.Qxb6500771aGreatJf
import Derived.Test.Qxb6500771aGreatJc
import Derived.Deep.CutRange
namespace Go.Proofs.Qxb6500771aGreat
open Go Go.RowKit Go.Qm Go.Qv
set_option linter.unusedVariables false
set_option linter.unusedSimpArgs false
attribute [local go_sem ↓] Go.wp_at_zero Go.wp_at_succ
/-- What the calls of such a region answer. -/
def LV (N : Nat) (KV SV : Value) : Nat → Value → World → Prop := fun k u Z => match k with
  | 0 => ∃ da, u = .slice da 0 0
  | 1 => u = KV
  | 2 => u = SV
  | 3 => ∃ g, u = .tuple #[.slice (some ⟨g, 0, none⟩) N N, .int .i64 0]
  | 4 => ∃ g, u = .tuple #[.slice (some ⟨g, 0, none⟩) N N, .int .i64 0]
  | 5 => ∃ g, u = .slice (some ⟨g, 0, none⟩) N N
  | 6 => u = .int .i64 0
  | 7 => ∃ g, u = .slice (some ⟨g, 0, none⟩) N N
  | _ => u = .int .i64 0
theorem LV.keep (N : Nat) (KV SV : Value) : ∀ k u Z Z', Keep Z Z' → LV N KV SV k u Z → LV N KV SV k u Z' := by
  intro k u Z Z' kz h
  match k, h with
  | 0, h => exact h
  | 1, h => exact h
  | 2, h => exact h
  | 3, h => exact h
  | 4, h => exact h
  | 5, h => exact h
  | 6, h => exact h
  | 7, h => exact h
  | k + 8, h => exact h
set_option maxHeartbeats 2000000 in
theorem le19_d {Q : Exit → Act → World → Prop} {a0 : Act} {w : World} (gp : Nat) (KV SV : Value) (sa : Option Addr) (sn sc : Nat) (X : List Value) (N : Nat) (hz0 : a0.tmps.size = 197) (h4 : a0.tmps[4]? = some (.pointer (some ⟨gp, 0, none⟩))) (m0 : w.cell? ⟨gp, 10, none⟩ = some (.slice sa sn sc)) (Agp : Arr w gp 31 X) (hX : X.length = 16)
    (K1 : ∀ Z, Calls Tryz.prog 14 #[.agg X.toArray] Z fun x w' => x = .returned KV ∧ Keep Z w') (S1 : ∀ Z, Calls Tryz.prog 15 #[.agg X.toArray] Z fun x w' => x = .returned SV ∧ Keep Z w')
    (WR : ∀ Z da, Keep w Z → Calls Tryz.prog 13 #[.slice da 0 0, KV, SV, .slice sa sn sc] Z fun x w' => (∃ g, x = .returned (.tuple #[.slice (some ⟨g, 0, none⟩) N N, .int .i64 0])) ∧ Keep Z w')
    (hend : ∀ v0 v3 v4 v5 g w', Keep w w' → Q .normal (lay a0 [(93, v0), (94, .agg X.toArray), (95, KV), (96, .agg X.toArray), (97, SV), (98, .pointer (some ⟨gp, 10, none⟩)), (99, .slice sa sn sc), (100, v3), (92, v4), (101, v5), (102, .int .i64 0), (13, .slice (some ⟨g, 0, none⟩) N N), (11, .int .i64 0)]) w') :
    (Code.region 19 le19 true).wp Tryz.prog Q a0 w := by
  have kd := (Keep.refl w).drew
  refine le19_c gp KV SV sa sn sc X hz0 h4 (kd.cell m0) (kd.heap Agp) hX (LV N KV SV) (LV.keep N KV SV) (fun Z _ => ⟨_, rfl⟩) ?_ (fun u Z h => h) ?_ (fun u Z h => h) ?_ (fun u Z h => h) ?_ ?_ (fun u Z h => h) (fun u Z h => h) ?_
  · intro Z kz
    refine (K1 Z).mono ?_
    rintro x y ⟨rfl, q⟩
    exact ⟨_, rfl, rfl, q⟩
  · intro Z kz
    refine (S1 Z).mono ?_
    rintro x y ⟨rfl, q⟩
    exact ⟨_, rfl, rfl, q⟩
  · rintro Z u0 kz ⟨da, rfl⟩
    refine (WR Z da (kd.trans kz)).mono ?_
    rintro x y ⟨⟨g, rfl⟩, q⟩
    exact ⟨_, rfl, ⟨g, rfl⟩, q⟩
  · rintro u Z ⟨g, rfl⟩
    exact ⟨_, _, rfl, rfl, ⟨g, rfl⟩⟩
  · rintro u Z ⟨g, rfl⟩
    exact ⟨_, _, rfl, rfl, rfl⟩
  · intro vs w' hvv hall k
    obtain ⟨u0, e0⟩ := hall 0 (by decide)
    obtain ⟨u1, e1⟩ := hall 1 (by decide)
    obtain ⟨u2, e2⟩ := hall 2 (by decide)
    obtain ⟨u3, e3⟩ := hall 3 (by decide)
    obtain ⟨u4, e4⟩ := hall 4 (by decide)
    obtain ⟨u5, e5⟩ := hall 5 (by decide)
    obtain ⟨u6, e6⟩ := hall 6 (by decide)
    obtain ⟨u7, e7⟩ := hall 7 (by decide)
    obtain ⟨u8, e8⟩ := hall 8 (by decide)
    have q1 : u1 = KV := hvv 1 u1 e1
    have q2 : u2 = SV := hvv 2 u2 e2
    have q6 : u6 = .int .i64 0 := hvv 6 u6 e6
    have q8 : u8 = .int .i64 0 := hvv 8 u8 e8
    obtain ⟨g, q7⟩ : ∃ g, u7 = .slice (some ⟨g, 0, none⟩) N N := hvv 7 u7 e7
    rw [q1] at e1
    rw [q2] at e2
    rw [q6] at e6
    rw [q7] at e7
    rw [q8] at e8
    have := hend u0 u3 u4 u5 g w' (kd.trans k)
    simp only [Lmx, le19T, List.filterMap_cons, List.filterMap_nil, ment, Option.map_some, Option.map_none, mval, e0, e1, e2, e3, e4, e5, e6, e7, e8, Option.getD_some]
    exact this
set_option maxHeartbeats 2000000 in
theorem le30_d {Q : Exit → Act → World → Prop} {a0 : Act} {w : World} (gp : Nat) (KV SV : Value) (sa : Option Addr) (sn sc : Nat) (X : List Value) (N : Nat) (hz0 : a0.tmps.size = 197) (h4 : a0.tmps[15]? = some (.pointer (some ⟨gp, 0, none⟩))) (m0 : w.cell? ⟨gp, 10, none⟩ = some (.slice sa sn sc)) (Agp : Arr w gp 31 X) (hX : X.length = 16)
    (K1 : ∀ Z, Calls Tryz.prog 14 #[.agg X.toArray] Z fun x w' => x = .returned KV ∧ Keep Z w') (S1 : ∀ Z, Calls Tryz.prog 15 #[.agg X.toArray] Z fun x w' => x = .returned SV ∧ Keep Z w')
    (WR : ∀ Z da, Keep w Z → Calls Tryz.prog 18 #[.slice da 0 0, KV, SV, .slice sa sn sc] Z fun x w' => (∃ g, x = .returned (.tuple #[.slice (some ⟨g, 0, none⟩) N N, .int .i64 0])) ∧ Keep Z w')
    (hend : ∀ v0 v3 v4 v5 g w', Keep w w' → Q .normal (lay a0 [(164, v0), (165, .agg X.toArray), (166, KV), (167, .agg X.toArray), (168, SV), (169, .pointer (some ⟨gp, 10, none⟩)), (170, .slice sa sn sc), (171, v3), (163, v4), (172, v5), (173, .int .i64 0), (16, .slice (some ⟨g, 0, none⟩) N N), (11, .int .i64 0)]) w') :
    (Code.region 30 le30 true).wp Tryz.prog Q a0 w := by
  have kd := (Keep.refl w).drew
  refine le30_c gp KV SV sa sn sc X hz0 h4 (kd.cell m0) (kd.heap Agp) hX (LV N KV SV) (LV.keep N KV SV) (fun Z _ => ⟨_, rfl⟩) ?_ (fun u Z h => h) ?_ (fun u Z h => h) ?_ (fun u Z h => h) ?_ ?_ (fun u Z h => h) (fun u Z h => h) ?_
  · intro Z kz
    refine (K1 Z).mono ?_
    rintro x y ⟨rfl, q⟩
    exact ⟨_, rfl, rfl, q⟩
  · intro Z kz
    refine (S1 Z).mono ?_
    rintro x y ⟨rfl, q⟩
    exact ⟨_, rfl, rfl, q⟩
  · rintro Z u0 kz ⟨da, rfl⟩
    refine (WR Z da (kd.trans kz)).mono ?_
    rintro x y ⟨⟨g, rfl⟩, q⟩
    exact ⟨_, rfl, ⟨g, rfl⟩, q⟩
  · rintro u Z ⟨g, rfl⟩
    exact ⟨_, _, rfl, rfl, ⟨g, rfl⟩⟩
  · rintro u Z ⟨g, rfl⟩
    exact ⟨_, _, rfl, rfl, rfl⟩
  · intro vs w' hvv hall k
    obtain ⟨u0, e0⟩ := hall 0 (by decide)
    obtain ⟨u1, e1⟩ := hall 1 (by decide)
    obtain ⟨u2, e2⟩ := hall 2 (by decide)
    obtain ⟨u3, e3⟩ := hall 3 (by decide)
    obtain ⟨u4, e4⟩ := hall 4 (by decide)
    obtain ⟨u5, e5⟩ := hall 5 (by decide)
    obtain ⟨u6, e6⟩ := hall 6 (by decide)
    obtain ⟨u7, e7⟩ := hall 7 (by decide)
    obtain ⟨u8, e8⟩ := hall 8 (by decide)
    have q1 : u1 = KV := hvv 1 u1 e1
    have q2 : u2 = SV := hvv 2 u2 e2
    have q6 : u6 = .int .i64 0 := hvv 6 u6 e6
    have q8 : u8 = .int .i64 0 := hvv 8 u8 e8
    obtain ⟨g, q7⟩ : ∃ g, u7 = .slice (some ⟨g, 0, none⟩) N N := hvv 7 u7 e7
    rw [q1] at e1
    rw [q2] at e2
    rw [q6] at e6
    rw [q7] at e7
    rw [q8] at e8
    have := hend u0 u3 u4 u5 g w' (kd.trans k)
    simp only [Lmx, le30T, List.filterMap_cons, List.filterMap_nil, ment, Option.map_some, Option.map_none, mval, e0, e1, e2, e3, e4, e5, e6, e7, e8, Option.getD_some]
    exact this
set_option maxRecDepth 4000 in
set_option maxHeartbeats 8000000 in
theorem lengths_c (v : Value) (ss : List OpR) (w : World) (h : Script w v ss) :
    Calls Tryz.prog 3 #[v] w fun e w' => e = .returned (.bool true) ∧ Keep w w' := by
  have hS := h
  obtain ⟨a, c, rfl, hac, hcm, hca⟩ := h
  unfold maxLen at hcm
  go_enter Tryz.func3, Tryz.ntmps3
  go_wp2_with fail
  refine (small_c _ ss w hS).mono ?_
  rintro e w1 ⟨⟨b, rfl, hsm⟩, kw1⟩
  cases b with
  | false =>
    go_wp2
    go_ret
    exact ⟨rfl, kw1⟩
  | true =>
    obtain ⟨hn, hdat⟩ := hsm rfl
    clear hsm
    go_wp2_with fail
    go_loopw [3] (fun iv wr => ∃ k : Nat, k ≤ ss.length ∧ iv = .int .i64 k ∧ Keep w wr) (fun i _ => ss.length - (intOf i).toNat)
    case atStart => exact ⟨0, by omega, rfl, kw1⟩
    case round =>
      obtain ⟨k, hk, rfl, kw⟩ := hrel
      by_cases hlt : k < ss.length
      · obtain ⟨b, o, rfl, hop⟩ := hca k hlt
        replace hop := hop.keep kw
        have i1 : (k : Int) < ss.length := by omega
        obtain ⟨L0, a2, a9, a10, c2, c9, c10, us, f, ec, rrc, sq, id, fi, hL, hR, hus, hf, hec, hrrc, hsq, hbk, hbc, hbd⟩ := hop.lst
        have hoff := hop.r12
        have hnn := hop.r13
        have hsmall := hdat _ (List.getElem_mem hlt)
        unfold OpSmall at hsmall
        generalize ss[k] = s at *
        have hnk : s.key.length ≤ 65536 := by omega
        have hnc : s.conf.length ≤ 65536 := by omega
        have hnd : s.data.length ≤ 65536 := by omega
        have hLs : L0.length = 16 := by rw [hL]; rfl
        have HLs := Hid.mk hLs
        clear hop hca hdat hS kw1 hLs hsmall
        by_cases hgo : mks s.kind = true ∧ srv s.etype
        · obtain ⟨hmk, hsv⟩ := hgo
          have SY := sound_yes s.kind s.etype us id rrc sq s.off s.n s.room fi f ec a2 a9 a10 s.key.length c2 s.conf.length c9 s.data.length c10 s.fromAcc wr s.key s.conf hmk hsv (by omega) hf hbk hbc (by omega) (by omega)
          have SY2 : Hid (Calls Tryz.prog 7 #[.agg L0.toArray] wr (SoundY s.kind s.etype us id rrc sq s.off s.n s.room fi f ec a10 s.data.length c10 wr s.key s.conf)) := Hid.mk (by rw [hL]; exact SY)
          have LCO : Hid (∀ (w1 : World) (ka : Option Addr) (kc : Nat) (ca : Option Addr) (cc : Nat) (fb : Bool), Keep wr w1 → Bs w1 (.slice ka (kl s.etype) kc) (strF s.key (kl s.etype)) → Bs w1 (.slice ca 16 cc) (strF s.conf 16) → _) := Hid.mk (fun w1 ka kc ca cc fb kz hb1 hb2 => lc_of s.kind s.etype id s.off s.n s.room fi us (f % 8) (if f / 2 % 2 = 1 then ec else 0) rrc sq ka ca a10 kc cc s.data.length c10 fb w1 (strF s.key (kl s.etype)) (strF s.conf 16) s.data hsv hb1 (strF_length _ _) hb2 (strF_length _ _) (hbd.keep kz) rfl (by omega) hus (by omega) (by split <;> omega) (by
            by_cases hh : f / 2 % 2 = 1
            · exact Or.inl (by omega)
            · exact Or.inr (if_neg hh)) hrrc hsq hoff hnn)
          have HKW0 := Hid.mk kw
          have HLT := Hid.mk hlt
          clear SY hL hbk hbc hbd hus hf hec hrrc hsq hoff hnn hnk hnc hmk hsv
          go_wp2_with (refine wpList_load_mid (by rfl) 31 (.tmp 30) (by rfl) b (o + k * 16) (by rfl) L0 _ hR Tryz.underlying31 rfl (by rw [HLs.out]; exact siz31) ?_)
          refine SY2.out.mono ?_
          rintro x w1 ⟨ka, kc, ca, cc, fb, hx, bk, bc, k1⟩
          obtain ⟨L1, L2, KV, SV, SM, sb, oo, n, L, c, hL1, C⟩ := LCO.out w1 ka kc ca cc fb k1 bk bc
          have hx2 : x = .returned (.tuple #[.agg L1.toArray, .bool true]) := by rw [hx, hL1]
          subst hx2
          have HC := Hid.mk C
          generalize hf8 : f % 8 = f8 at *
          generalize hec8 : (if f / 2 % 2 = 1 then ec else 0) = ec8 at *
          generalize hnd8 : s.data.length = nd at *
          generalize hese : s.etype = e at *
          generalize hoffe : s.off = off at *
          generalize hnne : s.n = nn at *
          have hov := C.ob
          have hnb := C.nb
          have hlb := C.lb
          have hcb := C.cb
          have hdb := C.db
          obtain ⟨s1, hs1⟩ : ∃ s1, s1 = oo + n := ⟨_, rfl⟩
          obtain ⟨s10, hs10⟩ : ∃ s10, s10 = oo + nd := ⟨_, rfl⟩
          obtain ⟨oL, hoL⟩ : ∃ oL, oL = oo + L := ⟨_, rfl⟩
          obtain ⟨LL, hLL⟩ : ∃ LL, LL = L + 1 := ⟨_, rfl⟩
          obtain ⟨oM, hoM⟩ : ∃ oM, oM = oo + LL := ⟨_, rfl⟩
          obtain ⟨n7, hn7⟩ : ∃ n7, n7 = 1048577 + n := ⟨_, rfl⟩
          obtain ⟨c16, hc16⟩ : ∃ c16, c16 = 16 + c := ⟨_, rfl⟩
          have HWL := C.wl
          rw [← hs1] at HWL
          have HF1 := fun Z => C.fo n Z (by omega)
          rw [← hs1] at HF1
          have HFD := fun Z => C.fo nd Z (by omega)
          rw [← hs10] at HFD
          have HFL := fun Z => C.fo L Z (by omega)
          rw [← hoL] at HFL
          have HFM := fun Z => C.fo LL Z (by omega)
          rw [← hoM] at HFM
          have HML := C.ml
          rw [← hs1] at HML
          have HWX := C.wx
          rw [← hn7] at HWX
          have HWR := C.wr
          rw [← hs10] at HWR
          have HMC := C.mc
          rw [← hc16] at HMC
          have HMZ := C.mz
          rw [← hc16] at HMZ
          replace HWL := Hid.mk HWL
          replace HF1 := Hid.mk HF1
          replace HFD := Hid.mk HFD
          replace HML := Hid.mk HML
          replace HWX := Hid.mk HWX
          replace HWR := Hid.mk HWR
          replace HMC := Hid.mk HMC
          replace HMZ := Hid.mk HMZ
          have y7 : IntKind.i64.wrap (1048577 + (n : Int)) = (n7 : Int) := by rw [IntKind.wrap_i64]; omega
          have yL : IntKind.i64.wrap ((L : Int) + 1) = (LL : Int) := by rw [IntKind.wrap_i64]; omega
          have yc : IntKind.i64.wrap (16 + (c : Int)) = (c16 : Int) := by rw [IntKind.wrap_i64]; omega
          have z0 : decide ((L : Int) < 0) = false := decide_eq_false (by omega)
          have z1 : decide ((L : Int) > 1048576) = false := decide_eq_false (by omega)
          have HP0 : Hid (0 < L → decide ((oL : Int) > nn) = false) := Hid.mk (fun h => decide_eq_false (by have := C.lp h; omega))
          have HP1 : Hid (L < 1048576 → decide ((oM : Int) ≤ nn) = false) := Hid.mk (fun h => decide_eq_false (by have := C.lq h; omega))
          have HCS : Hid ((L = 0 ∧ L < 1048576) ∨ (0 < L ∧ L < 1048576) ∨ (0 < L ∧ L = 1048576)) := Hid.mk (by omega)
          have HKW := Hid.mk (HKW0.out.trans k1)
          have hf1 : ∀ {a b : Int}, a = b → (a != b) = false := fun h => by simpa using h
          have t1 : ((s1 : Int) != (s1 : Int)) = false := hf1 rfl
          have t2 : ((n : Int) != (n : Int)) = false := hf1 rfl
          have t3 : ((s10 : Int) != (s10 : Int)) = false := hf1 rfl
          have t4 : ((c16 : Int) != (c16 : Int)) = false := hf1 rfl
          clear hf1 hx bk bc k1 hL1 C hov hnb hlb hcb hdb hs1 hs10 hoL hLL hoM hn7 hc16 hf8 hec8 hnd8 hese hoffe hnne hnd hR SY2 LCO
          go_upto_region 7 with (refine wpList_var31 (by rfl) (by rfl) (by rfl) (.tmp 4) (.tmp 33) (by rfl) L1.toArray (by rfl) (by rfl) (by rw [List.size_toArray, HC.out.z1]) HC.out.o1 ?_)
          have B4 := Arr.new w1 31 L1
          have Kw4 := Hid.mk ((Keep.refl w1).alloc (.cells L1.toArray 31))
          generalize hW4 : w1.alloc (.cells L1.toArray 31) = W4 at *
          clear hW4
          generalize hp4 : w1.heap.size = p4 at *
          clear hp4
          have HB4 := Hid.mk B4
          clear B4
          replace HKW := Hid.mk (HKW.out.trans Kw4.out)
          have HWR2 : Hid (∀ Z da, Keep W4 Z → _) := Hid.mk (fun Z da kz => HWR.out Z da (Kw4.out.trans kz))
          have HMC2 : Hid (∀ Z da, Keep W4 Z → _) := Hid.mk (fun Z da kz => HMC.out Z da (Kw4.out.trans kz))
          clear HWR HMC Kw4
          rename Hid (∀ Z da, Keep W4 Z → Calls Tryz.prog 18 _ Z _) => HMC
          rename Hid (∀ Z da, Keep W4 Z → Calls Tryz.prog 13 _ Z _) => HWR
          have HCELL : Hid (∀ Z, Keep W4 Z → Z.cell? ⟨p4, 1, none⟩ = some (.int .i32 e) ∧ Z.cell? ⟨p4, 5, none⟩ = some (.int .u8 f8) ∧ Z.cell? ⟨p4, 6, none⟩ = some (.int .u16 ec8) ∧ Z.cell? ⟨p4, 10, none⟩ = some (.slice a10 nd c10) ∧ Z.cell? ⟨p4, 12, none⟩ = some (.int .i64 off) ∧ Z.cell? ⟨p4, 13, none⟩ = some (.int .i64 nn)) := Hid.mk (fun Z kz => by
            have B := HB4.out.keep kz
            exact ⟨(B.cell 1).trans HC.out.d1, (B.cell 5).trans HC.out.d5, (B.cell 6).trans HC.out.d6, (B.cell 10).trans HC.out.d10, (B.cell 12).trans HC.out.d12, (B.cell 13).trans HC.out.d13⟩)
          obtain ⟨d1, d5, d6, d10, d12, d13⟩ := HCELL.out W4 (Keep.refl _)
          clear d10 d12 d13
          have SQ : Hid (∀ Z, _) := Hid.mk HC.out.sq
          go_upto_region 8 with fail
          go_quiet ((go_at_call 8; exact Calls.quiet_of_same (SQ.out _)))
          have Kw8 := Hid.mk ((Keep.refl W4).drewN nq)
          clear d1 d5 d6
          generalize W4.drewN nq = w8 at *
          obtain ⟨d1, d5, d6, d10, d12, d13⟩ := HCELL.out w8 Kw8.out
          clear d1 d5 d6 d10 d13
          go_wp2_with fail
          refine (HC.out.pl _).mono ?_
          rintro x w9 ⟨rfl, q⟩
          have Kw9 := Hid.mk (Kw8.out.trans q)
          clear q
          clear d12
          go_wp2_with fail
          refine (HWL.out _).mono ?_
          rintro x w10 ⟨rfl, q⟩
          have Kw10 := Hid.mk (Kw9.out.trans q)
          clear q
          go_wp2_with fail
          refine (HF1.out _).mono ?_
          rintro x w11 ⟨rfl, rfl⟩
          go_wp2_with fail
          refine (HML.out _).mono ?_
          rintro x w13 ⟨rfl, q⟩
          have Kw13 := Hid.mk (Kw10.out.trans q)
          clear q
          go_wp2_with fail
          refine (HWX.out _).mono ?_
          rintro x w16 ⟨rfl, q⟩
          have Kw16 := Hid.mk (Kw13.out.trans q)
          clear q
          go_upto_region 19 with fail
          obtain ⟨d1, d5, d6, d10, d12, d13⟩ := HCELL.out w16 Kw16.out
          clear d1 d5 d6 d12 d13
          refine le19_d p4 KV SV a10 nd c10 L1 s10 (by rfl) (by rfl) d10 (HB4.out.keep Kw16.out) HC.out.z1 HC.out.k1 HC.out.s1 (fun Z da kz => HWR.out Z da (Kw16.out.trans kz)) ?_
          intro u0 u3 u4 u5 gt w19 q19
          have Kw19 := Hid.mk (Kw16.out.trans q19)
          clear q19 d10
          simp only [lay, List.foldl_cons, List.foldl_nil]
          simp only [put_litx, List.set_cons_succ, List.set_cons_zero]
          obtain ⟨d1, d5, d6, d10, d12, d13⟩ := HCELL.out w19 Kw19.out
          clear d1 d5 d6 d12
          go_wp2_with fail
          refine (HFD.out _).mono ?_
          rintro x w20 ⟨rfl, rfl⟩
          go_wp2_with fail
          refine (HC.out.lm _).mono ?_
          rintro x w22 ⟨rfl, q⟩
          have Kw22 := Hid.mk (Kw19.out.trans q)
          clear q
          clear d10 d13
          obtain ⟨d1, d5, d6, d10, d12, d13⟩ := HCELL.out w22 Kw22.out
          clear d1 d5 d6 d10 d12
          rcases HCS.out with ⟨hc1, hc2⟩ | ⟨hc1, hc2⟩ | ⟨hc1, hc2⟩
          · have e1 : decide ((L : Int) > 0) = false := decide_eq_false (by omega)
            have e1b : decide ((0 : Int) < L) = false := decide_eq_false (by omega)
            have e1c : decide (0 < L) = false := decide_eq_false (by omega)
            have e1d : ¬ 0 < L := by omega
            have e4 := HP1.out hc2
            have e3 : decide ((L : Int) < 1048576) = true := decide_eq_true (by omega)
            have e3b : decide (L < 1048576) = true := decide_eq_true (by omega)
            clear hc1 hc2
            go_upto_region 25 with fail
            go_quiet (fail)
            have Kw25 := Hid.mk (Kw22.out.drewN nq)
            clear d13
            generalize w22.drewN nq = w25 at *
            obtain ⟨d1, d5, d6, d10, d12, d13⟩ := HCELL.out w25 Kw25.out
            clear d1 d5 d6 d10 d12
            go_upto_region 27 with fail
            go_quiet ((go_at_call 11; exact Calls.quiet_of_same (HFM _)))
            have KX := Hid.mk (Kw25.out.drewN nq)
            clear d13
            generalize w25.drewN nq = w27 at *
            go_upto_region 30 with (first
              | (refine wpList_load_mid (by rfl) 31 (.tmp 4) (by rfl) p4 0 (by rfl) L1 _ (Arr.range (HB4.out.keep KX.out)) Tryz.underlying31 rfl (by rw [HC.out.z1]; exact siz31) ?_)
              | (go_at_call 17; refine (HC.out.fm _).mono ?_; rintro x y9 ⟨rfl, q9⟩)
              | (refine wpList_var31 (by rfl) (by rfl) (by rfl) (.tmp 15) (.tmp 162) (by rfl) L2.toArray (by rfl) (by rfl) (by rw [List.size_toArray, HC.out.z2]) HC.out.o2 ?_))
            have B9 := Arr.new y9 31 L2
            have K9 := Hid.mk ((KX.out.trans q9).alloc (.cells L2.toArray 31))
            clear q9
            generalize hWB : y9.alloc (.cells L2.toArray 31) = WB at *
            clear hWB
            generalize hpB : y9.heap.size = p9 at *
            clear hpB
            have m10 : WB.cell? ⟨p9, 10, none⟩ = some (.slice a10 nd c10) := by rw [B9.cell 10, HC.out.q10]
            refine le30_d p9 KV SM a10 nd c10 L2 c16 (by rfl) (by rfl) m10 B9 HC.out.z2 HC.out.k2 HC.out.s2 (fun Z da kz => HMC.out Z da (K9.out.trans kz)) ?_
            intro v0 v3 v4 v5 gm w30 q30
            have K30 := Hid.mk (K9.out.trans q30)
            clear q30 m10 B9
            simp only [lay, List.foldl_cons, List.foldl_nil]
            simp only [put_litx, List.set_cons_succ, List.set_cons_zero]
            go_wp2_with fail
            refine (HC.out.cs _).mono ?_
            rintro x w31 ⟨rfl, q⟩
            have Kw31 := Hid.mk (K30.out.trans q)
            clear q
            go_wp2_with fail
            refine (HMZ.out _).mono ?_
            rintro x w33 ⟨rfl, q⟩
            have Kw33 := Hid.mk (Kw31.out.trans q)
            clear q
            go_wp2_with fail
            go_roundw
            case rel => exact ⟨k + 1, by omega, by go_num, HKW.out.trans Kw33.out⟩
            case measure => simp [intOf]; omega
          · have e2 := HP0.out hc1
            have e1 : decide ((L : Int) > 0) = true := decide_eq_true (by omega)
            have e1b : decide ((0 : Int) < L) = true := decide_eq_true (by omega)
            have e1c : decide (0 < L) = true := decide_eq_true (by omega)
            have e1d : 0 < L := by omega
            have e4 := HP1.out hc2
            have e3 : decide ((L : Int) < 1048576) = true := decide_eq_true (by omega)
            have e3b : decide (L < 1048576) = true := decide_eq_true (by omega)
            clear hc1 hc2
            go_upto_region 25 with fail
            go_quiet ((go_at_call 11; exact Calls.quiet_of_same (HFL _)))
            have Kw25 := Hid.mk (Kw22.out.drewN nq)
            clear d13
            generalize w22.drewN nq = w25 at *
            obtain ⟨d1, d5, d6, d10, d12, d13⟩ := HCELL.out w25 Kw25.out
            clear d1 d5 d6 d10 d12
            go_upto_region 27 with fail
            go_quiet ((go_at_call 11; exact Calls.quiet_of_same (HFM _)))
            have KX := Hid.mk (Kw25.out.drewN nq)
            clear d13
            generalize w25.drewN nq = w27 at *
            go_upto_region 30 with (first
              | (refine wpList_load_mid (by rfl) 31 (.tmp 4) (by rfl) p4 0 (by rfl) L1 _ (Arr.range (HB4.out.keep KX.out)) Tryz.underlying31 rfl (by rw [HC.out.z1]; exact siz31) ?_)
              | (go_at_call 17; refine (HC.out.fm _).mono ?_; rintro x y9 ⟨rfl, q9⟩)
              | (refine wpList_var31 (by rfl) (by rfl) (by rfl) (.tmp 15) (.tmp 162) (by rfl) L2.toArray (by rfl) (by rfl) (by rw [List.size_toArray, HC.out.z2]) HC.out.o2 ?_))
            have B9 := Arr.new y9 31 L2
            have K9 := Hid.mk ((KX.out.trans q9).alloc (.cells L2.toArray 31))
            clear q9
            generalize hWB : y9.alloc (.cells L2.toArray 31) = WB at *
            clear hWB
            generalize hpB : y9.heap.size = p9 at *
            clear hpB
            have m10 : WB.cell? ⟨p9, 10, none⟩ = some (.slice a10 nd c10) := by rw [B9.cell 10, HC.out.q10]
            refine le30_d p9 KV SM a10 nd c10 L2 c16 (by rfl) (by rfl) m10 B9 HC.out.z2 HC.out.k2 HC.out.s2 (fun Z da kz => HMC.out Z da (K9.out.trans kz)) ?_
            intro v0 v3 v4 v5 gm w30 q30
            have K30 := Hid.mk (K9.out.trans q30)
            clear q30 m10 B9
            simp only [lay, List.foldl_cons, List.foldl_nil]
            simp only [put_litx, List.set_cons_succ, List.set_cons_zero]
            go_wp2_with fail
            refine (HC.out.cs _).mono ?_
            rintro x w31 ⟨rfl, q⟩
            have Kw31 := Hid.mk (K30.out.trans q)
            clear q
            go_wp2_with fail
            refine (HMZ.out _).mono ?_
            rintro x w33 ⟨rfl, q⟩
            have Kw33 := Hid.mk (Kw31.out.trans q)
            clear q
            go_wp2_with fail
            go_roundw
            case rel => exact ⟨k + 1, by omega, by go_num, HKW.out.trans Kw33.out⟩
            case measure => simp [intOf]; omega
          · have e2 := HP0.out hc1
            have e1 : decide ((L : Int) > 0) = true := decide_eq_true (by omega)
            have e1b : decide ((0 : Int) < L) = true := decide_eq_true (by omega)
            have e1c : decide (0 < L) = true := decide_eq_true (by omega)
            have e1d : 0 < L := by omega
            have e3 : decide ((L : Int) < 1048576) = false := decide_eq_false (by omega)
            have e3b : decide (L < 1048576) = false := decide_eq_false (by omega)
            clear hc1 hc2
            go_upto_region 25 with fail
            go_quiet ((go_at_call 11; exact Calls.quiet_of_same (HFL _)))
            have Kw25 := Hid.mk (Kw22.out.drewN nq)
            clear d13
            generalize w22.drewN nq = w25 at *
            obtain ⟨d1, d5, d6, d10, d12, d13⟩ := HCELL.out w25 Kw25.out
            clear d1 d5 d6 d10 d12
            go_upto_region 27 with fail
            go_quiet (fail)
            have KX := Hid.mk (Kw25.out.drewN nq)
            clear d13
            generalize w25.drewN nq = w27 at *
            go_upto_region 30 with (first
              | (refine wpList_load_mid (by rfl) 31 (.tmp 4) (by rfl) p4 0 (by rfl) L1 _ (Arr.range (HB4.out.keep KX.out)) Tryz.underlying31 rfl (by rw [HC.out.z1]; exact siz31) ?_)
              | (go_at_call 17; refine (HC.out.fm _).mono ?_; rintro x y9 ⟨rfl, q9⟩)
              | (refine wpList_var31 (by rfl) (by rfl) (by rfl) (.tmp 15) (.tmp 162) (by rfl) L2.toArray (by rfl) (by rfl) (by rw [List.size_toArray, HC.out.z2]) HC.out.o2 ?_))
            have B9 := Arr.new y9 31 L2
            have K9 := Hid.mk ((KX.out.trans q9).alloc (.cells L2.toArray 31))
            clear q9
            generalize hWB : y9.alloc (.cells L2.toArray 31) = WB at *
            clear hWB
            generalize hpB : y9.heap.size = p9 at *
            clear hpB
            have m10 : WB.cell? ⟨p9, 10, none⟩ = some (.slice a10 nd c10) := by rw [B9.cell 10, HC.out.q10]
            refine le30_d p9 KV SM a10 nd c10 L2 c16 (by rfl) (by rfl) m10 B9 HC.out.z2 HC.out.k2 HC.out.s2 (fun Z da kz => HMC.out Z da (K9.out.trans kz)) ?_
            intro v0 v3 v4 v5 gm w30 q30
            have K30 := Hid.mk (K9.out.trans q30)
            clear q30 m10 B9
            simp only [lay, List.foldl_cons, List.foldl_nil]
            simp only [put_litx, List.set_cons_succ, List.set_cons_zero]
            go_wp2_with fail
            refine (HC.out.cs _).mono ?_
            rintro x w31 ⟨rfl, q⟩
            have Kw31 := Hid.mk (K30.out.trans q)
            clear q
            go_wp2_with fail
            refine (HMZ.out _).mono ?_
            rintro x w33 ⟨rfl, q⟩
            have Kw33 := Hid.mk (Kw31.out.trans q)
            clear q
            go_wp2_with fail
            go_roundw
            case rel => exact ⟨k + 1, by omega, by go_num, HKW.out.trans Kw33.out⟩
            case measure => simp [intOf]; omega
        · have SN : Hid (Calls Tryz.prog 7 #[.agg L0.toArray] wr fun x w' => x = .returned (.tuple #[.agg L0.toArray, .bool false]) ∧ Keep wr w') := Hid.mk (by
            rw [hL]
            exact sound_no s.kind s.etype us id rrc sq s.off s.n s.room fi f ec a2 a9 a10 s.key.length c2 s.conf.length c9 s.data.length c10 s.fromAcc wr (by
              by_cases h1 : mks s.kind = true
              · exact Or.inr (Or.inl (fun h2 => hgo ⟨h1, h2⟩))
              · exact Or.inl (by simpa using h1)))
          have HL1 : Hid (L0.toArray.all (·.oneCell') = true) := Hid.mk (by rw [hL]; simp [Value.oneCell'])
          have HKW := Hid.mk kw
          clear hL hbk hbc hbd hus hf hec hrrc hsq hoff hnn hnk hnc hnd hgo
          go_wp2_with (refine wpList_load_mid (by rfl) 31 (.tmp 30) (by rfl) b (o + k * 16) (by rfl) L0 _ hR Tryz.underlying31 rfl (by rw [HLs.out]; exact siz31) ?_)
          refine SN.out.mono ?_
          rintro x w1 ⟨rfl, k1⟩
          have K1 := Hid.mk ((HKW.out.trans k1).alloc (.cells L0.toArray 31))
          clear k1 hR
          go_wp2_with (refine wpList_var31 (by rfl) (by rfl) (by rfl) (.tmp 4) (.tmp 33) (by rfl) L0.toArray (by rfl) (by rfl) (by rw [List.size_toArray, HLs.out]) HL1.out ?_)
          go_roundw
          case rel => exact ⟨k + 1, by omega, by go_num, K1.out⟩
          case measure => simp [intOf]; omega
      · have hlt' : ¬ (k : Int) < ss.length := by omega
        go_wp2
        go_ret
        exact ⟨rfl, kw⟩
end Go.Proofs.Qxb6500771aGreat
