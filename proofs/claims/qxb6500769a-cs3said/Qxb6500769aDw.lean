/- The law CS3: its walk. -/
import Derived.Test.Qxb6500769aEm
import Derived.Test.Qxb6500769aDv
namespace Go.Proofs.Qxb6500769a
open Go.RowKit Go.Qm
set_option linter.unusedVariables false
set_option linter.unusedSimpArgs false
attribute [local go_sem ↓] Go.wp_at_zero Go.wp_at_succ

set_option maxRecDepth 3000 in
set_option maxHeartbeats 8000000 in
theorem cs3_c (v : Value) (ss : List OpR) (w : World) (h : Script w v ss) :
    Calls Try.prog 5 #[v] w fun e w' => e = .returned (.bool true) ∧ Keep w w' := by
  have hS := h
  obtain ⟨a, c, rfl, hac, hcm, hca⟩ := h
  unfold maxLen at hcm
  go_enter Try.func5, Try.ntmps5
  go_wp2_with fail
  refine (small_c _ ss w hS).mono ?_
  rintro e w1 ⟨⟨b, rfl, hsm⟩, kw1⟩
  cases b with
  | false =>
    go_wp2
    go_ret
    exact ⟨rfl, kw1⟩
  | true =>
    obtain ⟨hn, hdat⟩ := hsm rfl
    clear hsm
    go_wp2_with fail
    go_loopg [3] ss.length (fun gk iv wr => ∃ k : Nat, k + gk = ss.length ∧ iv = .int .i64 k ∧ Keep w wr)
    case atStart => exact ⟨0, by omega, rfl, kw1⟩
    case round => as_aux_lemma =>
      obtain ⟨k, hk, rfl, kw⟩ := hrel
      by_cases hlt : k < ss.length
      · obtain ⟨b, o, rfl, hop⟩ := hca k hlt
        replace hop := hop.keep kw
        have hsmall := hdat _ (List.getElem_mem hlt)
        unfold OpSmall at hsmall
        have i1 : (k : Int) < ss.length := by omega
        obtain ⟨c0, c1, c2, c3, c4, c5, c6, c7, c8, c9, c10, r0, r1, r2, b3, -, b4, -, b5, -, b6, -, b7, -, r8, r9, r10⟩ := hop
        obtain ⟨a3, d3, e3, h3a, h3c, -⟩ := b3.form
        obtain ⟨a4, d4, e4, h4a, h4c, -⟩ := b4.form
        obtain ⟨a5, d5, e5, h5a, h5c, -⟩ := b5.form
        obtain ⟨a6, d6, e6, -⟩ := b6.form
        obtain ⟨a7, d7, e7, -⟩ := b7.form
        rw [e3] at c3 b3
        rw [e4] at c4 b4
        rw [e5] at c5 b5
        rw [e6] at c6
        rw [e7] at c7
        have hkl : ss[k].key.length ≤ 65536 := by omega
        have hdl : ss[k].data.length ≤ 65536 := by omega
        have hivl : ss[k].iv.length ≤ 65536 := by omega
        unfold maxLen at h5c
        clear e3 e4 e5 e6 e7 hsmall hca hdat hS kw1 r1 r2 r8 r9 r10 b6 b7
        generalize ss[k] = s at *
        generalize s.key = key at *
        generalize s.data = data at *
        generalize s.iv = ivl at *
        generalize s.kind = kind at *
        generalize s.cipher = al at *
        generalize s.len = ct at *
        by_cases hk0 : kind ≠ 10 ∧ kind ≠ 11
        · have z1 : (kind != 10) = true := by simp [hk0.1]
          have z2 : (kind != 11) = true := by simp [hk0.2]
          have KB := kw.alloc (.cells #[.int .i64 kind, .int .i64 s.hash, .int .i64 al, .slice a3 key.length d3, .slice a4 ivl.length d4, .slice a5 data.length d5, .slice a6 s.label.length d6, .slice a7 s.context.length d7, .int .u32 s.count, .int .i64 ct, .int .i64 s.dst] 30)
          go_wp2_with fail
          go_roundg (ss.length - (k + 1))
          case measure => omega
          case rel => exact ⟨k + 1, by omega, by go_num, kw.alloc _⟩
        · have z1 : (kind != 10) = false ∨ ((kind != 10) = true ∧ (kind != 11) = false) := by
            by_cases h10 : kind = 10
            · left; simp [h10]
            · right
              refine ⟨by simp [h10], ?_⟩
              by_cases h11 : kind = 11
              · simp [h11]
              · exact absurd ⟨h10, h11⟩ hk0
          clear hk0
          have CA := Arr.new wr 30 [.int .i64 kind, .int .i64 s.hash, .int .i64 al, .slice a3 key.length d3, .slice a4 ivl.length d4, .slice a5 data.length d5, .slice a6 s.label.length d6, .slice a7 s.context.length d7, .int .u32 s.count, .int .i64 ct, .int .i64 s.dst]
          have KA := (Keep.refl wr).alloc (.cells #[.int .i64 kind, .int .i64 s.hash, .int .i64 al, .slice a3 key.length d3, .slice a4 ivl.length d4, .slice a5 data.length d5, .slice a6 s.label.length d6, .slice a7 s.context.length d7, .int .u32 s.count, .int .i64 ct, .int .i64 s.dst] 30)
          go_upto_region 7 with fail
          obtain ⟨wA, hwA⟩ : ∃ x, x = wr.alloc (.cells #[.int .i64 kind, .int .i64 s.hash, .int .i64 al, .slice a3 key.length d3, .slice a4 ivl.length d4, .slice a5 data.length d5, .slice a6 s.label.length d6, .slice a7 s.context.length d7, .int .u32 s.count, .int .i64 ct, .int .i64 s.dst] 30) := ⟨_, rfl⟩
          rw [← hwA] at KA
          replace CA : Arr wA wr.heap.size 30 [.int .i64 kind, .int .i64 s.hash, .int .i64 al, .slice a3 key.length d3, .slice a4 ivl.length d4, .slice a5 data.length d5, .slice a6 s.label.length d6, .slice a7 s.context.length d7, .int .u32 s.count, .int .i64 ct, .int .i64 s.dst] := by rw [hwA]; exact CA
          try rw [← hwA]
          clear hwA
          have hlA := CA.lt
          have ALL : ∀ W, Keep wA W → W.cell? ⟨wr.heap.size, 2, none⟩ = some (.int .i64 al) ∧ W.cell? ⟨wr.heap.size, 3, none⟩ = some (.slice a3 key.length d3) ∧ W.cell? ⟨wr.heap.size, 4, none⟩ = some (.slice a4 ivl.length d4) ∧ W.cell? ⟨wr.heap.size, 5, none⟩ = some (.slice a5 data.length d5) :=
            fun W hk => ⟨(CA.keep hk).cell 2, (CA.keep hk).cell 3, (CA.keep hk).cell 4, (CA.keep hk).cell 5⟩
          have x0 := CA.cell 0
          simp only [List.getElem?_cons_zero] at x0
          have X3 := b3.keep KA
          have X4 := b4.keep KA
          have X5 := b5.keep KA
          have KW := kw.trans KA
          clear CA c0 c1 c2 c3 c4 c5 c6 c7 c8 c9 c10 b3 b4 b5 KA kw
          generalize wr.heap.size = g4 at *
          go_cut [34] from 17 to 155 (fun cv wx => cv = .bool false ∧ wx = wA)
          case first => as_aux_lemma =>
            rcases z1 with z1 | ⟨z1, z2⟩
            · go_wp2_with fail
              go_meet
              case rel => exact ⟨rfl, rfl⟩
            · go_wp2_with fail
              go_meet
              case rel => exact ⟨rfl, rfl⟩
          case rest =>
            obtain ⟨rfl, rfl⟩ := hcut
            clear z1 x0
            go_upto_region 8 with fail
            have KS := fun W => keySizeC_c al W
            have hk32 := ksz_le al
            obtain ⟨n, hnk⟩ : ∃ n, n = ksz al := ⟨_, rfl⟩
            rw [← hnk] at KS hk32
            have HNK := Hid.mk hnk
            have ST := fun W (hk : Keep wc W) => stretch_c _ key n W (X3.keep hk) (by omega) (by omega)
            have hsl := stre_length key n
            generalize stre key n = K' at *
            have HSL := Hid.mk hsl
            clear hnk hsl
            by_cases hn0 : n = 0
            · have NB0 := fun W v => newBad_c al v W (by rw [← HNK.out]; exact hn0)
              clear hn0
              go_cut [5, 6] from 17 to 155 (fun pv ev wx => ∃ g, pv = .pointer (some ⟨g, 0, none⟩) ∧ ev = .int .i64 2 ∧ Keep wc wx)
              case first => as_aux_lemma =>
                go_region_held3 (fun W => W.cell? ⟨g4, 2, none⟩ = some (.int .i64 al) ∧ W.cell? ⟨g4, 3, none⟩ = some (.slice a3 key.length d3) ∧ W.cell? ⟨g4, 4, none⟩ = some (.slice a4 ivl.length d4) ∧ W.cell? ⟨g4, 5, none⟩ = some (.slice a5 data.length d5))
                  ((refine ALL _ ?_; first | (with_reducible exact (Q2.setCell hQ _).setCell hQ _) | (with_reducible exact Q2.alloc _) | (with_reducible exact Q2) | (with_reducible exact Q1.alloc _) | (with_reducible exact Q1) | (with_reducible exact (Keep.refl wc)) | (with_reducible exact (Keep.refl wc).drew) | (with_reducible exact ((Keep.refl wc).alloc _).drew) | (with_reducible exact ((Keep.refl wc).alloc _))))
                  (first
                  | (go_at_call 13; refine (KS _).mono ?_; rintro e y0 ⟨rfl, rfl⟩)
                  | (go_at_call 11; refine (ST _ ?_).mono ?_; (first | (with_reducible exact (Keep.refl wc).drew) | (with_reducible exact ((Keep.refl wc).alloc _).drew)); rintro e y1 ⟨w1v, rfl, o1, q1⟩; have Q1 : Keep wc y1 := (by first | (with_reducible exact (Keep.refl wc).drew.trans q1) | (with_reducible exact ((Keep.refl wc).alloc _).drew.trans q1)); (first | (have NA : Arr y1 wc.heap.size 36 [.int .i64 0, .slice none 0 0] := Arr.keep (Arr.new wc 36 [.int .i64 0, .slice none 0 0]) (by with_reducible exact (Keep.refl _).drew.trans q1)) | skip))
                  | (go_at_call 12; refine (NB0 _ _).mono ?_; rintro e y2 ⟨rfl, q2⟩; have Q2 : Keep wc y2 := (by first | (with_reducible exact Q1.trans q2) | (with_reducible exact (Q1.alloc _).trans q2)); (first | (have NB : Arr y2 wc.heap.size 36 [.int .i64 0, .slice none 0 0] := NA.keep q2; have hQ : wc.heap.size ≤ wc.heap.size := Nat.le_refl _; have t0 := NB.cell 0; have t1 := NB.cell 1; simp only [List.getElem?_cons_zero, List.getElem?_cons_succ] at t0 t1; have u0 := NB.frozen 0; have u1 := NB.frozen 1; skip) | (have NB : Arr y2 y1.heap.size 36 [.int .i64 0, .slice none 0 0] := Arr.keep (Arr.new y1 36 [.int .i64 0, .slice none 0 0]) (by with_reducible exact q2); have hQ : wc.heap.size ≤ y1.heap.size := Q1.size; have t0 := NB.cell 0; have t1 := NB.cell 1; simp only [List.getElem?_cons_zero, List.getElem?_cons_succ] at t0 t1; have u0 := NB.frozen 0; have u1 := NB.frozen 1; skip) | skip)))
                all_goals
                  go_wp2_with fail
                  go_meet
                  case rel =>
                    first
                    | exact ⟨_, rfl, rfl, (Q2.setCell hQ _).setCell hQ _⟩
                    | exact ⟨_, rfl, rfl, Q2.alloc _⟩

              case rest => as_aux_lemma =>
                obtain ⟨g, rfl, rfl, k2⟩ := hcut
                go_wp2_with fail
                go_roundg (ss.length - (k + 1))
                case measure => omega
                case rel => exact ⟨k + 1, by omega, by go_num, KW.trans k2⟩
            · have NW := fun W v (hb : Bs W v K') => newK_c al v K' n W hb HSL.out HNK.out hn0 (by omega)
              have HN0 := Hid.mk hn0
              clear hn0
              go_cut [5, 6] from 17 to 155 (fun pv ev wx => ∃ g va vc, pv = .pointer (some ⟨g, 0, none⟩) ∧ ev = .int .i64 0 ∧ Arr wx g 36 [.int .i64 al, .slice va n vc] ∧ Bs wx (.slice va n vc) K' ∧ Keep wc wx)
              case first => as_aux_lemma =>
                go_region_held3 (fun W => W.cell? ⟨g4, 2, none⟩ = some (.int .i64 al) ∧ W.cell? ⟨g4, 3, none⟩ = some (.slice a3 key.length d3) ∧ W.cell? ⟨g4, 4, none⟩ = some (.slice a4 ivl.length d4) ∧ W.cell? ⟨g4, 5, none⟩ = some (.slice a5 data.length d5))
                  ((refine ALL _ ?_; first | (with_reducible exact (Q2.setCell hQ _).setCell hQ _) | (with_reducible exact Q2.alloc _) | (with_reducible exact Q2) | (with_reducible exact Q1.alloc _) | (with_reducible exact Q1) | (with_reducible exact (Keep.refl wc)) | (with_reducible exact (Keep.refl wc).drew) | (with_reducible exact ((Keep.refl wc).alloc _).drew) | (with_reducible exact ((Keep.refl wc).alloc _))))
                  (first
                  | (go_at_call 13; refine (KS _).mono ?_; rintro e y0 ⟨rfl, rfl⟩)
                  | (go_at_call 11; refine (ST _ ?_).mono ?_; (first | (with_reducible exact (Keep.refl wc).drew) | (with_reducible exact ((Keep.refl wc).alloc _).drew)); rintro e y1 ⟨w1v, rfl, o1, q1⟩; have Q1 : Keep wc y1 := (by first | (with_reducible exact (Keep.refl wc).drew.trans q1) | (with_reducible exact ((Keep.refl wc).alloc _).drew.trans q1)); (first | (have NA : Arr y1 wc.heap.size 36 [.int .i64 0, .slice none 0 0] := Arr.keep (Arr.new wc 36 [.int .i64 0, .slice none 0 0]) (by with_reducible exact (Keep.refl _).drew.trans q1)) | skip))
                  | (go_at_call 12; refine (NW _ _ ?_).mono ?_; (first | (with_reducible exact o1.bs) | (with_reducible exact (o1.keep ((Keep.refl y1).alloc _)).bs)); rintro e y2 ⟨va, vc, rfl, o2, q2⟩; have Q2 : Keep wc y2 := (by first | (with_reducible exact Q1.trans q2) | (with_reducible exact (Q1.alloc _).trans q2)); (first | (have NB : Arr y2 wc.heap.size 36 [.int .i64 0, .slice none 0 0] := NA.keep q2; have hQ : wc.heap.size ≤ wc.heap.size := Nat.le_refl _; have t0 := NB.cell 0; have t1 := NB.cell 1; simp only [List.getElem?_cons_zero, List.getElem?_cons_succ] at t0 t1; have u0 := NB.frozen 0; have u1 := NB.frozen 1; have OB := fun u0 u1 => (own_set2 o2 (show wc.heap.size < _ from NA.lt) u0 u1).bs) | (have NB : Arr y2 y1.heap.size 36 [.int .i64 0, .slice none 0 0] := Arr.keep (Arr.new y1 36 [.int .i64 0, .slice none 0 0]) (by with_reducible exact q2); have hQ : wc.heap.size ≤ y1.heap.size := Q1.size; have t0 := NB.cell 0; have t1 := NB.cell 1; simp only [List.getElem?_cons_zero, List.getElem?_cons_succ] at t0 t1; have u0 := NB.frozen 0; have u1 := NB.frozen 1; have OB := fun u0 u1 => (own_set2 o2 (show y1.heap.size < _ by simp) u0 u1).bs) | skip)))
                all_goals
                  go_wp2_with fail
                  go_meet
                  case rel =>
                    first
                    | exact ⟨_, _, _, rfl, rfl, (NB.set 0 _).set 1 _, OB _ _, (Q2.setCell hQ _).setCell hQ _⟩
                    | exact ⟨_, _, _, rfl, rfl, Arr.new y2 36 [.int .i64 al, .slice va n vc], (o2.keep ((Keep.refl y2).alloc _)).bs, Q2.alloc _⟩

              case rest => as_aux_lemma =>
                obtain ⟨g, va, vc, rfl, rfl, A5, BK, k2⟩ := hcut
                have m0 := A5.cell 0
                have m1 := A5.cell 1
                simp only [List.getElem?_cons_zero, List.getElem?_cons_succ] at m0 m1
                clear ST NW KS
                go_wp2_with fail
                refine (cBlockSize_c al va n vc _).mono ?_
                rintro e w3 ⟨rfl, k3⟩
                obtain ⟨z2, z3, z4, z5⟩ := ALL _ (k2.trans k3)
                have h0 : ksz al ≠ 0 := by rw [← HNK.out]; exact HN0.out
                have hkl : K'.length ≠ 0 := by rw [HSL.out]; exact HN0.out
                have HE := encA_c al va n vc K' (HSL.out.trans HNK.out) h0
                have HD := decA_c al va n vc K' (HSL.out.trans HNK.out) h0
                have HED := fun l hl => decA_encA h0 K' l hl
                have HDE := fun l hl => encA_decA h0 K' l hl
                have hbs16 : bsz16 al ≠ 0 ∧ bsz16 al ≤ 16 := by
                  rcases bsz_of h0 with ⟨-, hb, -⟩ | ⟨-, hb⟩ <;> rw [hb] <;> omega
                obtain ⟨bb, hbs⟩ : ∃ bb, bb = bsz16 al := ⟨_, rfl⟩
                rw [← hbs] at HE HD HED HDE hbs16 ⊢
                obtain ⟨hb0, hb1⟩ := hbs16
                have HBS := Hid.mk hbs.symm
                have HHE := Hid.mk HE
                have HHD := Hid.mk HD
                have HHED := Hid.mk HED
                have HHDE := Hid.mk HDE
                clear hbs HE HD HED HDE h0
                have STI := fun W (hk : Keep w3 W) => stretch_c _ ivl bb W (((X4.keep k2).keep k3).keep hk) (by omega) (by omega)
                have hil := stre_length ivl bb
                generalize stre ivl bb = iv at *
                go_wp2_with fail
                refine (STI _ (Keep.refl _)).mono ?_
                rintro e w4 ⟨ivv, rfl, o4, k4⟩
                obtain ⟨ia, ic, hivv, hic, him, -⟩ := o4.bs.form
                have I4 := o4.bs
                rw [hil] at hivv hic
                subst hivv
                have K24 := (k2.trans k3).trans k4
                have A4 := (A5.keep k3).keep k4
                have E4 := (BK.keep k3).keep k4
                have D4 := X5.keep K24
                obtain ⟨y2, y3, y4, y5⟩ := ALL _ K24
                have KW4 := KW.trans K24
                obtain ⟨dl, hdl'⟩ : ∃ dl, dl = data.length := ⟨_, rfl⟩
                rw [← hdl'] at h5a hdl D4 y5
                have HDL := Hid.mk hdl'
                clear hdl' ALL A5 BK X3 X4 X5 STI z2 z3 z4 z5 y2 y3 y4 m0 m1 k2 k3 K24 KW
                unfold maxLen at him
                have RP := fun W => repeat_c 165 dl W (by omega)
                have SAM : ∀ W v v' l, Bs W v l → Bs W v' l → Calls Try.prog 21 #[v, v'] W fun e w' => e = .returned (.bool true) ∧ Keep W w' := by
                  intro W v v' l h1 h2
                  refine (same_c v v' l l W h1 h2).mono ?_
                  rintro e w' ⟨rfl, k⟩
                  exact ⟨by simp, k⟩
                by_cases hsh : dl < bb
                · have hsh' : (dl : Int) < bb := by omega
                  go_wp2_with fail
                  refine (RP _).mono ?_
                  rintro e w5 ⟨tv, rfl, ot, kt⟩
                  obtain ⟨ta, tc, hte, -, htm, -⟩ := ot.bs.form
                  rw [List.length_replicate] at hte
                  subst hte
                  go_wp2_with fail
                  refine (RP _).mono ?_
                  rintro e w6 ⟨bv, rfl, ob, kb⟩
                  obtain ⟨ba, bc, hbe, -, hbm, -⟩ := ob.bs.form
                  rw [List.length_replicate] at hbe
                  subst hbe
                  have K46 := kt.trans kb
                  have T1 := fun W => CTSshort_c al va n vc bb dl ia ta a5 ic tc d5 W HBS.out hb0 hb1 hsh
                  have T2 := fun W => CTSDshort_c al va n vc bb dl ia ba a5 ic bc d5 W HBS.out hb0 hb1 hsh
                  have r0 := (A4.keep K46).cell 0
                  have r1 := (A4.keep K46).cell 1
                  simp only [List.getElem?_cons_zero, List.getElem?_cons_succ] at r0 r1
                  unfold maxLen at htm hbm
                  go_wp2_with fail
                  refine (T1 _).mono ?_
                  rintro e w7 ⟨rfl, k7⟩
                  have K47 := K46.trans k7
                  have r2 := (A4.keep K47).cell 0
                  have r3 := (A4.keep K47).cell 1
                  simp only [List.getElem?_cons_zero, List.getElem?_cons_succ] at r2 r3
                  clear r0 r1 T1
                  go_wp2_with fail
                  refine (T2 _).mono ?_
                  rintro e w8 ⟨rfl, k8⟩
                  have K48 := K47.trans k8
                  have t8 := (((ot.keep kb).keep k7).keep k8).bs
                  have b8 := ((ob.keep k7).keep k8).bs
                  clear r2 r3 T2
                  go_wp2_with fail
                  refine (RP _).mono ?_
                  rintro e w9 ⟨rv, rfl, orr, k9⟩
                  go_wp2_with fail
                  refine (SAM _ _ _ _ (t8.keep k9) orr.bs).mono ?_
                  rintro e w10 ⟨rfl, k10⟩
                  go_wp2_with fail
                  refine (SAM _ _ _ _ ((b8.keep k9).keep k10) ((t8.keep k9).keep k10)).mono ?_
                  rintro e w11 ⟨rfl, k11⟩
                  go_wp2_with fail
                  go_roundg (ss.length - (k + 1))
                  case measure => omega
                  case rel => exact ⟨k + 1, by omega, by go_num, KW4.trans (((K48.trans k9).trans k10).trans k11)⟩
                · have hsh' : ¬ (dl : Int) < bb := by omega
                  go_wp2_with fail
                  refine (RP _).mono ?_
                  rintro e w5 ⟨tv, rfl, ot, kt⟩
                  obtain ⟨gt, tc, spt, hte, ht1, ht2, ht3, ht4⟩ := own_win ot (by rw [List.length_replicate]; omega)
                  rw [List.length_replicate] at hte ht3
                  subst hte
                  go_wp2_with fail
                  refine (RP _).mono ?_
                  rintro e w6 ⟨bv, rfl, ob, kb⟩
                  obtain ⟨gk, bc, spk, hbe, hk1, hk2, hk3, hk4⟩ := own_win ob (by rw [List.length_replicate]; omega)
                  rw [List.length_replicate] at hbe hk3
                  subst hbe
                  have K46 := kt.trans kb
                  have hgt5 := ht2.lt
                  have n1 : gt ≠ gk := by omega
                  have hgk4 : w4.heap.size ≤ gk := Nat.le_trans kt.size hk1
                  have hbn : bb ≤ dl := by omega
                  have dK1 : (Value.slice va n vc).ownBlock ≠ some gt := E4.block hkl ht1
                  have dK2 : (Value.slice va n vc).ownBlock ≠ some gk := E4.block hkl hgk4
                  have dI1 : (Value.slice ia bb ic).ownBlock ≠ some gt := I4.block (by omega) ht1
                  have dI2 : (Value.slice ia bb ic).ownBlock ≠ some gk := I4.block (by omega) hgk4
                  have dD1 : (Value.slice a5 dl d5).ownBlock ≠ some gt := D4.block (by rw [← HDL.out]; omega) ht1
                  have dD2 : (Value.slice a5 dl d5).ownBlock ≠ some gk := D4.block (by rw [← HDL.out]; omega) hgk4
                  have lE : ∀ l : List UInt8, l.length = dl → (csE (encA al K') bb iv l).length = dl := fun l hl => by rw [csE_length HHE.out.1 HHD.out.1 hil hb0 (by omega), hl]
                  have lD : ∀ l : List UInt8, l.length = dl → (csD (decA al K') bb iv l).length = dl := fun l hl => by rw [csD_length HHE.out.1 HHD.out.1 hil hb0 (by omega), hl]
                  have inv1 : csD (decA al K') bb iv (csE (encA al K') bb iv data) = data := csD_E HHE.out.1 HHD.out.1 hil hb0 (by rw [← HDL.out]; omega) (fun l hl => HHED.out l hl)
                  have inv2 : csE (encA al K') bb iv (csD (decA al K') bb iv data) = data := csE_D HHE.out.1 HHD.out.1 hil hb0 (by rw [← HDL.out]; omega) (fun l hl => HHDE.out l hl)
                  have HI1 := Hid.mk inv1
                  have HI2 := Hid.mk inv2
                  have HLE := Hid.mk lE
                  have HLD := Hid.mk lD
                  clear inv1 inv2 lE lD
                  have EN1 := fun W (hk : Keep w4 W) cur hw hcl => encCS_c al va n vc K' (encA al K') bb dl _ _ iv data cur gt tc spt W HHE.out HBS.out hb0 hb1 hbn (by omega) hkl (E4.keep hk) dK1 (I4.keep hk) hil dI1 (D4.keep hk) HDL.out.symm dD1 hw hcl ht3 ht4
                  have DE1 := fun W (hk : Keep w4 W) src sv cur hsv hsl hsg hw hcl => decCS_c al va n vc K' (decA al K') bb dl _ sv iv src cur gk bc spk W HHD.out HBS.out hb0 hb1 hbn (by omega) hkl (E4.keep hk) dK2 (I4.keep hk) hil dI2 hsv hsl hsg hw hcl hk3 hk4
                  have EN2 := fun W (hk : Keep w4 W) src sv cur hsv hsl hsg hw hcl => encCS_c al va n vc K' (encA al K') bb dl _ sv iv src cur gt tc spt W HHE.out HBS.out hb0 hb1 hbn (by omega) hkl (E4.keep hk) dK1 (I4.keep hk) hil dI1 hsv hsl hsg hw hcl ht3 ht4
                  unfold maxLen at ht4 hk4
                  have KG : ∀ {W W'} (hk : Keep w4 W) (gr : W.grownBy W' (some gt)), Keep w4 W' := fun hk gr => hk.grown gr (fun q hq => by simp at hq; omega)
                  have KH : ∀ {W W'} (hk : Keep w4 W) (gr : W.grownBy W' (some gk)), Keep w4 W' := fun hk gr => hk.grown gr (fun q hq => by simp at hq; omega)
                  have r0 := (A4.keep K46).cell 0
                  have r1 := (A4.keep K46).cell 1
                  simp only [List.getElem?_cons_zero, List.getElem?_cons_succ] at r0 r1
                  go_wp2_with fail
                  refine (EN1 _ K46 _ (ht2.keep kb) (by simp)).mono ?_
                  rintro e w7 ⟨rfl, tw7, g7⟩
                  have K47 := KG K46 g7
                  have bw7 := hk2.kept g7 (Ne.symm n1)
                  have lC := HLE.out data HDL.out.symm
                  have A7 := A4.keep K47
                  have s0 := A7.cell 0
                  have s1 := A7.cell 1
                  simp only [List.getElem?_cons_zero, List.getElem?_cons_succ] at s0 s1
                  have T7 := tw7.bs (n := dl) (c := tc) lC.symm ht3 (by unfold maxLen; omega)
                  clear r0 r1 EN1 ht2 hk2
                  go_upto_if 102 with fail
                  go_cut [12, 13] from 17 to 155 (fun _ _ wx => Keep w7 wx)
                  case first =>
                    by_cases hdb : dl = bb
                    · have y9 : ((dl : Int) == bb) = true := by simp; omega
                      have hx : csE (encA al K') bb iv data = encA al K' (xorl data iv) := by
                        unfold csE
                        rw [if_pos (by rw [← HDL.out]; exact hdb)]
                        rw [cbcE, cbcE, List.nil_append, cbp, cbp, Nat.mul_zero, List.drop_zero, List.take_of_length_le (by rw [← HDL.out]; omega)]
                      rw [hx] at T7
                      have XO := fun W (hk : Keep w7 W) => xor_c _ _ data iv W ((D4.keep K47).keep hk) ((I4.keep K47).keep hk) (by rw [← HDL.out]; omega) (by omega)
                      have lX : (xorl data iv).length = bb := by rw [xorl_length, ← HDL.out]; exact hdb
                      have EE := fun W v (hk : Keep w7 W) hv => HHE.out.2 W v (xorl data iv) ((E4.keep K47).keep hk) hv lX
                      have SS := fun W v (hk : Keep w7 W) hv => SAM W _ v _ (T7.keep hk) hv
                      clear hx EN2 DE1 RP SAM KG KH tw7 bw7 T7 hdb
                      go_wp2_with fail
                      go_region_held3 (fun W => W.cell? ⟨g, 0, none⟩ = some (.int .i64 al) ∧ W.cell? ⟨g, 1, none⟩ = some (.slice va n vc))
                        (first | assumption | exact ⟨s0, s1⟩ | exact ⟨Q3.cell s0, Q3.cell s1⟩ | exact ⟨Q2.cell s0, Q2.cell s1⟩ | exact ⟨Q1.cell s0, Q1.cell s1⟩)
                        (first
                        | (go_at_call 23; refine (XO _ (Keep.refl w7).drew).mono ?_; rintro x v1 ⟨u1, rfl, o1, qq1⟩; have Q1 : Keep w7 v1 := (Keep.refl w7).drew.trans qq1)
                        | (go_at_call 22; refine (EE _ _ Q1 o1.bs).mono ?_; rintro x v2 ⟨u2, rfl, o2, qq2⟩; have Q2 : Keep w7 v2 := Q1.trans qq2)
                        | (go_at_call 21; refine (SS _ _ Q2 o2.bs).mono ?_; rintro x v3 ⟨rfl, qq3⟩; have Q3 : Keep w7 v3 := Q2.trans qq3))
                      go_wp2_with fail
                      go_meet
                      case rel => exact Q3
                    · have y9 : ((dl : Int) == bb) = false := by simp; omega
                      obtain ⟨c1, c2, c3⟩ := cut_of hb0 (show bb < dl by omega)
                      have hx : csE (encA al K') bb iv data = ctsE (encA al K') bb iv data (qN dl bb) (tailN dl bb) := by
                        unfold csE
                        rw [if_neg (by rw [← HDL.out]; exact hdb), ← HDL.out]
                      rw [hx] at T7
                      have STL := stolen_c al va n vc K' (encA al K') bb dl _ _ _ _ iv data w7 HHE.out HBS.out hb0 hb1 c1 c2 c3 (by omega) hkl (E4.keep K47) (I4.keep K47) hil (D4.keep K47) HDL.out.symm
                      clear hx c1 c2 c3 EN2 DE1 RP KG KH tw7 bw7 hdb
                      go_wp2_with fail
                      refine STL.mono ?_
                      rintro e v1 ⟨sv, rfl, hsv, q1⟩
                      obtain ⟨sa', sc', hse, -, -, -⟩ := hsv.form
                      subst hse
                      go_wp2_with fail
                      refine (SAM _ _ _ _ (T7.keep q1) hsv).mono ?_
                      rintro e v2 ⟨rfl, q2⟩
                      go_wp2_with fail
                      go_meet
                      case rel => exact q1.trans q2
                  case rest =>
                    have K48 := K47.trans hcut
                    have tw8 := tw7.keep hcut
                    have bw8 := bw7.keep hcut
                    have T8 := T7.keep hcut
                    have s2 := (A4.keep K48).cell 0
                    have s3 := (A4.keep K48).cell 1
                    simp only [List.getElem?_cons_zero, List.getElem?_cons_succ] at s2 s3
                    have KWc := KW4.trans K48
                    clear s0 s1 hcut tw7 bw7 T7 K47 A7
                    obtain ⟨w8, hw8⟩ : ∃ w8, w8 = wc := ⟨_, rfl⟩
                    subst hw8
                    have STEP1 := DE1 w8 K48 _ _ _ T8 lC (by simpa [Value.ownBlock] using n1) bw8 (by simp)
                    rw [HI1.out] at STEP1
                    go_wp2_with fail
                    refine STEP1.mono ?_
                    rintro e w9 ⟨rfl, bw9, g9⟩
                    have K49 := KH K48 g9
                    have tw9 := tw8.kept g9 n1
                    have b9 := bw9.bs (n := dl) (c := bc) HDL.out hk3 (by unfold maxLen; omega)
                    clear STEP1 s2 s3 T8 bw8 tw8
                    go_wp2_with fail
                    refine (SAM _ _ _ _ b9 (D4.keep K49)).mono ?_
                    rintro e w10 ⟨rfl, k10⟩
                    have K410 := K49.trans k10
                    have bw10 := bw9.keep k10
                    have tw10 := tw9.keep k10
                    have s4 := (A4.keep K410).cell 0
                    have s5 := (A4.keep K410).cell 1
                    simp only [List.getElem?_cons_zero, List.getElem?_cons_succ] at s4 s5
                    have STEP2 := DE1 w10 K410 data _ _ (D4.keep K410) HDL.out.symm dD2 bw10 HDL.out.symm
                    clear b9 bw9 tw9
                    go_wp2_with fail
                    refine STEP2.mono ?_
                    rintro e w11 ⟨rfl, bw11, g11⟩
                    have K411 := KH K410 g11
                    have tw11 := tw10.kept g11 n1
                    have lD2 := HLD.out data HDL.out.symm
                    have b11 := bw11.bs (n := dl) (c := bc) lD2.symm hk3 (by unfold maxLen; omega)
                    have s6 := (A4.keep K411).cell 0
                    have s7 := (A4.keep K411).cell 1
                    simp only [List.getElem?_cons_zero, List.getElem?_cons_succ] at s6 s7
                    have STEP3 := EN2 w11 K411 _ _ _ b11 lD2 (by simpa [Value.ownBlock] using Ne.symm n1) tw11 lC
                    rw [HI2.out] at STEP3
                    clear s4 s5 STEP2 bw10 tw10
                    go_wp2_with fail
                    refine STEP3.mono ?_
                    rintro e w12 ⟨rfl, tw12, g12⟩
                    have K412 := KG K411 g12
                    have t12 := tw12.bs (n := dl) (c := tc) HDL.out ht3 (by unfold maxLen; omega)
                    clear s6 s7 STEP3
                    go_wp2_with fail
                    refine (SAM _ _ _ _ t12 (D4.keep K412)).mono ?_
                    rintro e w13 ⟨rfl, k13⟩
                    go_wp2_with fail
                    go_roundg (ss.length - (k + 1))
                    case measure => omega
                    case rel => exact ⟨k + 1, by omega, by go_num, KW4.trans (K412.trans k13)⟩
      · have hlt' : ¬ (k : Int) < ss.length := by omega
        go_wp2
        go_ret
        exact ⟨rfl, kw⟩
end Go.Proofs.Qxb6500769a
