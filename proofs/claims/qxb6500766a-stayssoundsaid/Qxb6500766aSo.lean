/- foldindex: sound. -/
import Derived.Test.Qxb6500766aNw
import Derived.Deep.RegionHeld3
namespace Go.Proofs.Qxb6500766a
open Go.RowKit Go.Qm
set_option linter.unusedVariables false
set_option linter.unusedSimpArgs false
attribute [local go_sem ↓] Go.wp_at_zero Go.wp_at_succ
theorem pow_and : ∀ m, m ≤ 20 → 3 ≤ m → bits .and .i64 ((2 ^ m : Nat) : Int) (((2 ^ m : Nat) : Int) - 1) = 0 := by decide +kernel
theorem live_take2 {ss : List Slot} {i : Nat} (hi : i < ss.length) : (LiveL (ss.take (i + 1))).length = (LiveL (ss.take i)).length + (if ss[i].st = 1 then 1 else 0) := by
  unfold LiveL
  rw [List.take_succ_eq_append_getElem hi, List.filter_append, List.length_append]
  congr 1
  by_cases h : ss[i].st = 1
  · rw [if_pos h]; simp [liveB, h]
  · rw [if_neg h]; simp [liveB, h]
theorem dead_take2 {ss : List Slot} {i : Nat} (hi : i < ss.length) : deadN (ss.take (i + 1)) = deadN (ss.take i) + (if ss[i].st = 2 then 1 else 0) := by
  unfold deadN
  rw [List.take_succ_eq_append_getElem hi, List.filter_append, List.length_append]
  congr 1
  by_cases h : ss[i].st = 2
  · rw [if_pos h]; simp [deadB, h]
  · rw [if_neg h]; simp [deadB, h]
theorem find_at {ss : List Slot} (tv : TV ss) {i : Nat} (hi : i < ss.length) (h1 : ss[i].st = 1) : findF ss ss[i].key ss[i].hash = ((i : Int), true) ∧ ss[i].hash = hashB ss[i].key := by
  have hs : (sl ss i).st = 1 := by rw [sl_eq hi]; exact h1
  have hh : ss[i].hash = hashB ss[i].key := tv.hh ss[i] (List.getElem_mem hi) h1
  refine ⟨?_, hh⟩
  rw [hh]
  rcases find_spec tv ss[i].key with ⟨j, hj, e, hj1, hk⟩ | ⟨j, hj, e, hj1, _, hn⟩
  · rw [e]
    have := tv.uniq i j hi hj hs hj1 (by rw [sl_eq hi, hk])
    rw [this]
  · exact absurd (by rw [sl_eq hi]) (hn i hi hs)
set_option maxRecDepth 4000 in
set_option maxHeartbeats 4000000 in
theorem sound_c (B g o b : Nat) (ss : List Slot) (D : Dir) (w : World) (c0 : w.cell? ⟨g, o, none⟩ = some (.slice (some ⟨b, 0, none⟩) ss.length ss.length)) (c1 : w.cell? ⟨g, o + 1, none⟩ = some (.int .i64 ((LiveL ss).length : Nat))) (c2 : w.cell? ⟨g, o + 2, none⟩ = some (.int .i64 (deadN ss : Nat))) (TW : TabW B w b ss D) (DK : DirOK D) :
    Calls Try.prog 41 #[.pointer (some ⟨g, o, none⟩)] w fun e w' => e = .returned (.bool true) ∧ Keep w w' := by
  obtain ⟨m, hm3, hm20, hlen⟩ := TW.tv.pow
  have hn20 : ss.length ≤ 2 ^ 20 := by rw [hlen]; exact Nat.pow_le_pow_right (by omega) hm20
  have hn8 : 2 ^ 3 ≤ ss.length := by rw [hlen]; exact Nat.pow_le_pow_right (by omega) hm3
  have ha := pow_and m hm20 hm3
  rw [← hlen] at ha
  have hroom := TW.tv.room
  have HTW := Hid.mk TW
  have HDK := Hid.mk DK
  have HFC : Hid (∀ i (hi : i < ss.length), ss[i].st = 1 → ∀ W, Keep w W → Calls Try.prog 57 #[.pointer (some ⟨g, o, none⟩), str ss[i].key, .int .u32 ss[i].hash] W fun e w' => e = .returned (.tuple #[.int .i64 (i : Int), .bool true]) ∧ w' = W) := Hid.mk (fun i hi h1 W k => by
    obtain ⟨e1, e2⟩ := find_at TW.tv hi h1
    have := find_c g o b ss.length m ss ss[i].key ss[i].hash W (k.cell c0) (TW.S.keep k) rfl hlen hm20 (by rw [e2]; exact hashB_lt _)
    rw [e1] at this
    exact this)
  have HLT : Hid (∀ i (hi : i < ss.length), (LiveL (ss.take (i + 1))).length = (LiveL (ss.take i)).length + (if ss[i].st = 1 then 1 else 0)) := Hid.mk (fun i hi => live_take2 hi)
  have HDT : Hid (∀ i (hi : i < ss.length), deadN (ss.take (i + 1)) = deadN (ss.take i) + (if ss[i].st = 2 then 1 else 0)) := Hid.mk (fun i hi => dead_take2 hi)
  have HTL : Hid (ss.take ss.length = ss) := Hid.mk List.take_length
  have HLE : Hid (∀ i, (LiveL (ss.take i)).length ≤ ss.length ∧ deadN (ss.take i) ≤ ss.length) := Hid.mk (fun i => by
    constructor
    · unfold LiveL
      refine Nat.le_trans (List.length_filter_le _ _) ?_
      rw [List.length_take]; omega
    · unfold deadN
      refine Nat.le_trans (List.length_filter_le _ _) ?_
      rw [List.length_take]; omega)
  obtain ⟨n, hn⟩ : ∃ n, n = ss.length := ⟨_, rfl⟩
  rw [← hn] at c0 hn20 hn8 ha hroom
  have HN := Hid.mk hn
  have HC0 := Hid.mk c0
  have HC1 := Hid.mk c1
  have HC2 := Hid.mk c2
  have n8 : ¬ (n : Int) < 8 := by omega
  have t0 : ((0 : Int) != 0) = false := by decide
  clear hn hlen c1 c2
  go_enter Try.func41, Try.ntmps41
  go_wp2_with fail
  go_loopg [4, 5, 6] n (fun gk lv dv iv wr => ∃ i : Nat, i + gk = n ∧ iv = .int .i64 i ∧ lv = .int .i64 ((LiveL (ss.take i)).length : Nat) ∧ dv = .int .i64 (deadN (ss.take i) : Nat) ∧ Keep w wr)
  case atStart => exact ⟨0, by omega, rfl, rfl, rfl, Keep.refl _⟩
  case round =>
    obtain ⟨i, hi8, rfl, rfl, rfl, kw⟩ := hrel
    have HI8 := Hid.mk hi8
    clear hi8 ha n8
    obtain ⟨hle1, hle2⟩ := HLE.out i
    rw [← HN.out] at hle1 hle2
    have c0' := kw.cell c0
    by_cases hin : i < n
    · have j1 : (i : Int) < n := by omega
      have hiS : i < ss.length := by have := HN.out; omega
      obtain ⟨s0, s1, s2, s3⟩ := (HTW.out.S.keep kw).at i hiS
      have hst := HTW.out.tv.st _ (List.getElem_mem hiS)
      have hnl := HTW.out.tv.nl _ (List.getElem_mem hiS)
      have HL1 := Hid.mk (HLT.out i hiS)
      have HD1 := Hid.mk (HDT.out i hiS)
      generalize hA : (LiveL (ss.take i)).length = A at *
      generalize hE : deadN (ss.take i) = E at *
      clear hA hE
      by_cases h1 : ss[i].st = 1
      · rw [h1] at s0
        have hm := mem_LiveL.2 ⟨List.getElem_mem hiS, h1⟩
        have hE := HTW.out.own _ hm
        have hne := HTW.out.ne hm
        have hes := HTW.out.rt.es _ hm
        have hky := HTW.out.rt.ne _ hm
        have hkl := keys_len hky
        have HRW : Hid (∀ e ∈ ss[i].es, e.raw.length ≤ 1000000) := Hid.mk (fun e he => by
          rw [hes] at he
          obtain ⟨l, hl, r, hr, _, rfl⟩ := mem_bear.1 he
          exact HDK.out.nm l hl r hr)
        have HSR : Hid (SrtE ss[i].es) := Hid.mk (by rw [hes]; exact bear_sorted _ HDK.out.srt)
        have hbl : ss[i].es.length ≤ 96 := by rw [hes]; exact bear_le HDK.out.len _
        have HA1 : Hid ((LiveL (ss.take (i + 1))).length = A + 1 ∧ deadN (ss.take (i + 1)) = E) := Hid.mk ⟨by rw [HL1.out, if_pos h1], by rw [HD1.out, if_neg (by omega)]; rfl⟩
        have FC := HFC.out i hiS h1
        have hha := (find_at HTW.out.tv hiS h1).2
        have hbS := HTW.out.S
        clear h1 hnl hst hm hes hky HL1 HD1
        generalize ss[i] = X at *
        obtain ⟨xst, xh, xk, xlv, xes⟩ := X
        simp only at s0 s1 s2 s3 hE hne HRW HSR hbl FC hha hkl
        obtain ⟨aE, cE, rfl, hcE, hmE, hrE⟩ := ent_read hE
        have HRE := Hid.mk hrE
        have HFCC := Hid.mk FC
        have hhk := fun W => hashKey_c xk W (by omega)
        rw [← hha] at hhk
        have HHK := Hid.mk hhk
        have hes0 : ¬ ((xes.length : Int) = 0) := by
          have := List.length_pos_iff.2 hne
          omega
        have t1 : ((xes.length : Int) == 0) = false := by simpa using hes0
        have t2 : ((i : Int) != (i : Int)) = false := by simp
        have t3 : (xh != xh) = false := by simp
        clear hrE FC hhk hha hes0 hE
        go_upto_region 19 with fail
        go_region_held3 (fun w' => w'.cell? ⟨b, i * 4 + 2, none⟩ = some (str xk) ∧ w'.cell? ⟨b, i * 4 + 1, none⟩ = some (.int .u32 xh))
          (first | exact ⟨z2, z1⟩ | exact ⟨s2, s1⟩)
          ((go_at_call 57; refine (HFCC.out _ kw.drew).mono ?_; rintro e w2 ⟨rfl, hw2⟩; have k2 : Keep wr w2 := (by rw [hw2]; exact (Keep.refl wr).drew); have z1 := k2.cell s1; have z2 := k2.cell s2; clear hw2))
        have z3 := k2.cell s3
        have kw2 := kw.trans k2
        have z0 := k2.cell s0
        clear s0 s1 s2 s3 c0'
        go_upto_region 20 with fail
        go_quiet ((go_at_call 58; with_reducible refine Calls.quiet_of_same (HHK.out _)))
        have y3 : (w2.drewN nq).cell? ⟨b, i * 4 + 3, none⟩ = some (.slice aE xes.length cE) := z3
        have kw3 : Keep w (w2.drewN nq) := kw2.drewN nq
        generalize w2.drewN nq = w3 at *
        clear z0 z1 z2 z3 k2
        obtain ⟨nE, hnE⟩ : ∃ n, n = xes.length := ⟨_, rfl⟩
        rw [← hnE] at y3 hcE hbl
        have HNE := Hid.mk hnE
        clear hnE t1 t2 t3
        have HY3 : Hid (∀ W, Keep w3 W → W.cell? ⟨b, i * 4 + 3, none⟩ = some (.slice aE nE cE)) := Hid.mk (fun W k => k.cell y3)
        go_wp2_with fail
        obtain ⟨gO, hgO⟩ : ∃ g, g = gk := ⟨_, rfl⟩
        subst hgO
        go_loopg [10] nE (fun gk kv wx => ∃ j : Nat, j + 1 + gk = nE + 1 ∧ kv = .int .i64 ((j + 1 : Nat) : Int) ∧ Keep w3 wx)
        case atStart => exact ⟨0, by omega, rfl, Keep.refl _⟩
        case round =>
          obtain ⟨j, hj8, rfl, kx⟩ := hrel
          have HJ8 := Hid.mk hj8
          clear hj8
          have y3' := kx.cell y3
          by_cases hjn : j + 1 < nE
          · have j2 : ((j + 1 : Nat) : Int) < nE := by omega
            have j3 : (j : Int) < nE := by omega
            have e1 : IntKind.i64.wrap (((j + 1 : Nat) : Int) - 1) = (j : Int) := by rw [IntKind.wrap_i64] <;> omega
            have hj : j < xes.length := by have := HNE.out; omega
            have hj1 : j + 1 < xes.length := by have := HNE.out; omega
            obtain ⟨gE, rfl, hgE, hr1⟩ := HRE.out j hj
            obtain ⟨gE2, he2, hgE2, hr2⟩ := HRE.out (j + 1) hj1
            simp only [Option.some.injEq, Addr.mk.injEq, and_true] at he2
            subst he2
            have hb3 := (kw3.trans kx).block gE hgE
            obtain ⟨p0, p1, p2⟩ := hr1 wr hb3
            obtain ⟨r0, r1, r2⟩ := hr2 wr hb3
            have HBF : Hid (befB xes[j].layer xes[j].raw xes[j + 1] = true) := Hid.mk (by
              have := HSR.out
              unfold SrtE at this
              rw [List.pairwise_iff_getElem] at this
              exact this j (j + 1) hj hj1 (by omega))
            have BC := fun W => before_c xes[j].layer xes[j].raw xes[j + 1] W (HRW.out _ (List.getElem_mem hj)) (HRW.out _ (List.getElem_mem hj1))
            rw [HBF.out] at BC
            have HBC := Hid.mk BC
            clear hr1 hr2 HBF BC
            generalize xes[j] = P at *
            generalize xes[j + 1] = Q at *
            unfold entC at HBC
            obtain ⟨jk, hjk⟩ : ∃ jk, jk = j + 1 := ⟨_, rfl⟩
            rw [← hjk] at r0 r1 r2 j2 ⊢
            have e2 : IntKind.i64.wrap ((jk : Int) - 1) = (j : Int) := by rw [IntKind.wrap_i64] <;> omega
            have HJK := Hid.mk hjk
            clear hjk e1 hjn
            go_wp2_with fail
            go_region_held3 (fun w' => w'.cell? ⟨b, i * 4 + 3, none⟩ = some (.slice (some ⟨gE, 0, none⟩) nE cE) ∧ w'.cell? ⟨gE, j * 3, none⟩ = some (.int .i64 P.layer) ∧ w'.cell? ⟨gE, j * 3 + 1, none⟩ = some (str P.raw) ∧ w'.cell? ⟨gE, jk * 3, none⟩ = some (.int .i64 Q.layer) ∧ w'.cell? ⟨gE, jk * 3 + 1, none⟩ = some (str Q.raw) ∧ w'.cell? ⟨gE, jk * 3 + 2, none⟩ = some (.int .i64 Q.kind))
              (first | exact ⟨q4.cell y3', q4.cell p0, q4.cell p1, q4.cell r0, q4.cell r1, q4.cell r2⟩ | exact ⟨y3', p0, p1, r0, r1, r2⟩)
              ((go_at_call 59; refine (HBC.out _).mono ?_; rintro e w4 ⟨rfl, q4⟩))
            have kx4 := kx.trans ((Keep.refl wr).drew.trans q4)
            go_wp2_with fail
            go_roundg (gk - 1)
            case measure => have := HJ8.out; omega
            case rel => exact ⟨j + 1, by have := HJ8.out; omega, by rw [HJK.out]; go_num, kx4⟩
          · have j2 : ¬ ((j + 1 : Nat) : Int) < nE := by omega
            go_wp2_with fail
            go_roundg (gO - 1)
            case measure => have := HI8.out; omega
            case rel => exact ⟨i + 1, by have := HI8.out; omega, by go_num, by rw [HA1.out.1]; go_num, by rw [HA1.out.2], kw3.trans kx⟩
      · obtain ⟨e1, e2, e3⟩ := hnl h1
        rw [e1] at s2
        rw [e2] at s3
        by_cases h2 : ss[i].st = 2
        · rw [h2] at s0
          have HA1 : Hid ((LiveL (ss.take (i + 1))).length = A ∧ deadN (ss.take (i + 1)) = E + 1) := Hid.mk ⟨by rw [HL1.out, if_neg h1]; rfl, by rw [HD1.out, if_pos h2]⟩
          clear h1 h2 e1 e2 e3 hnl hst
          go_wp2_with fail
          go_roundg (gk - 1)
          case measure => have := HI8.out; omega
          case rel => exact ⟨i + 1, by have := HI8.out; omega, by go_num, by rw [HA1.out.1], by rw [HA1.out.2]; go_num, kw⟩
        · have h0 : ss[i].st = 0 := by omega
          rw [h0] at s0
          have HA1 : Hid ((LiveL (ss.take (i + 1))).length = A ∧ deadN (ss.take (i + 1)) = E) := Hid.mk ⟨by rw [HL1.out, if_neg h1]; rfl, by rw [HD1.out, if_neg h2]; rfl⟩
          clear h1 h2 h0 e1 e2 e3 hnl hst
          go_wp2_with fail
          go_roundg (gk - 1)
          case measure => have := HI8.out; omega
          case rel => exact ⟨i + 1, by have := HI8.out; omega, by go_num, by rw [HA1.out.1], by rw [HA1.out.2], kw⟩
    · have j1 : ¬ (i : Int) < n := by omega
      have hin2 : i = ss.length := by have := HI8.out; have := HN.out; omega
      have HLL : Hid ((LiveL (ss.take i)).length = (LiveL ss).length ∧ deadN (ss.take i) = deadN ss) := Hid.mk ⟨by rw [hin2, HTL.out], by rw [hin2, HTL.out]⟩
      have d1 := kw.cell HC1.out
      have d2 := kw.cell HC2.out
      rw [HLL.out.1, HLL.out.2]
      rw [HLL.out.1] at hle1
      rw [HLL.out.2] at hle2
      generalize (LiveL ss).length = A at *
      generalize deadN ss = E at *
      have t1 : ((A : Int) == (A : Int)) = true := by simp
      have t2 : ((E : Int) == (E : Int)) = true := by simp
      have t3 : ((A : Int) + (E : Int)) * 4 ≤ (n : Int) * 3 := by omega
      clear hin2
      go_wp2_with fail
      go_ret
      exact ⟨rfl, kw⟩
end Go.Proofs.Qxb6500766a
