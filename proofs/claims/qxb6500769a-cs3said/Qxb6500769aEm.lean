/- The law CMACDefinition: its walk. -/
import Derived.Test.Qxb6500769aEl
import Derived.Test.Qxb6500769aSmall
import Derived.Deep.CutRange
import Derived.Deep.LoopGhost
namespace Go.Proofs.Qxb6500769a
open Go.RowKit Go.Qm
set_option linter.unusedVariables false
set_option linter.unusedSimpArgs false
attribute [local go_sem ↓] Go.wp_at_zero Go.wp_at_succ

/-- New, the key's value spelled out. -/
theorem newK_c (a : Int) (v : Value) (key : List UInt8) (n : Nat) (w : World) (hb : Bs w v key) (hn : key.length = n) (hka : n = ksz a) (h0 : n ≠ 0) (hm : n ≤ 1000) : Calls Try.prog 12 #[.int .i64 a, v] w fun e w' => ∃ va vc, e = .returned (.tuple #[.agg #[.int .i64 a, .slice va n vc], .int .i64 0]) ∧ Own w.heap.size 5 w' (.slice va n vc) (key.map cb) ∧ Keep w w' := by
  refine (newC_c a v key w hb (by omega) (by omega) (by omega)).mono ?_
  rintro e w' ⟨v', rfl, o, k⟩
  obtain ⟨va, vc, hv, -, -, -⟩ := o.bs.form
  subst hv
  rw [hn] at o ⊢
  exact ⟨va, vc, rfl, o, k⟩
theorem own_set2 {w : World} {g B : Nat} {e : TypeId} {v : Value} {xs : List Value} (h : Own B e w v xs) (hg : g < B) (u0 u1 : Value) : Own B e ((w.setCell ⟨g, 0, none⟩ u0).setCell ⟨g, 1, none⟩ u1) v xs := by
  refine h.kept (grown_set (grown_set (grown_refl w _) 0 u0) 1 u1) ?_
  rcases hob : v.ownBlock with _ | q
  · exact Or.inl rfl
  · right
    have := (h.lt q hob).1
    simp; omega
theorem ksz_le (a : Int) : ksz a ≤ 32 := by
  unfold ksz; split <;> (try split) <;> (try split) <;> omega
set_option maxRecDepth 2000 in
set_option maxHeartbeats 8000000 in
theorem cmacDefinition_c (v : Value) (ss : List OpR) (w : World) (h : Script w v ss) :
    Calls Try.prog 4 #[v] w fun e w' => e = .returned (.bool true) ∧ Keep w w' := by
  have hS := h
  obtain ⟨a, c, rfl, hac, hcm, hca⟩ := h
  unfold maxLen at hcm
  go_enter Try.func4, Try.ntmps4
  go_wp2_with fail
  refine (small_c _ ss w hS).mono ?_
  rintro e w1 ⟨⟨b, rfl, hsm⟩, kw1⟩
  cases b with
  | false =>
    go_wp2
    go_ret
    exact ⟨rfl, kw1⟩
  | true =>
    obtain ⟨hn, hdat⟩ := hsm rfl
    clear hsm
    go_wp2_with fail
    go_loopg [3] ss.length (fun gk iv wr => ∃ k : Nat, k + gk = ss.length ∧ iv = .int .i64 k ∧ Keep w wr)
    case atStart => exact ⟨0, by omega, rfl, kw1⟩
    case round => as_aux_lemma =>
      obtain ⟨k, hk, rfl, kw⟩ := hrel
      by_cases hlt : k < ss.length
      · obtain ⟨b, o, rfl, hop⟩ := hca k hlt
        replace hop := hop.keep kw
        have hsmall := hdat _ (List.getElem_mem hlt)
        unfold OpSmall at hsmall
        have i1 : (k : Int) < ss.length := by omega
        obtain ⟨c0, c1, c2, c3, c4, c5, c6, c7, c8, c9, c10, r0, r1, r2, b3, -, b4, -, b5, -, b6, -, b7, -, r8, r9, r10⟩ := hop
        obtain ⟨a3, d3, e3, h3a, h3c, -⟩ := b3.form
        obtain ⟨a4, d4, e4, -⟩ := b4.form
        obtain ⟨a5, d5, e5, h5a, h5c, -⟩ := b5.form
        obtain ⟨a6, d6, e6, -⟩ := b6.form
        obtain ⟨a7, d7, e7, -⟩ := b7.form
        rw [e3] at c3 b3
        rw [e4] at c4
        rw [e5] at c5 b5
        rw [e6] at c6
        rw [e7] at c7
        have hkl : ss[k].key.length ≤ 65536 := by omega
        have hdl : ss[k].data.length ≤ 65536 := by omega
        unfold maxLen at h5c
        clear e3 e4 e5 e6 e7 hsmall hca hdat hS kw1 r1 r2 r8 r10 b4 b6 b7
        generalize ss[k] = s at *
        generalize s.key = key at *
        generalize s.data = data at *
        generalize s.kind = kind at *
        generalize s.cipher = al at *
        generalize s.len = ct at *
        by_cases hk0 : kind < 4
        · go_wp2_with fail
          go_roundg (ss.length - (k + 1))
          case measure => omega
          case rel => exact ⟨k + 1, by omega, by go_num, kw.alloc _⟩
        · by_cases hk3 : kind > 7
          · go_wp2_with fail
            go_roundg (ss.length - (k + 1))
            case measure => omega
            case rel => exact ⟨k + 1, by omega, by go_num, kw.alloc _⟩
          · have CA := Arr.new wr 30 [.int .i64 kind, .int .i64 s.hash, .int .i64 al, .slice a3 key.length d3, .slice a4 s.iv.length d4, .slice a5 data.length d5, .slice a6 s.label.length d6, .slice a7 s.context.length d7, .int .u32 s.count, .int .i64 ct, .int .i64 s.dst]
            have KA := (Keep.refl wr).alloc (.cells #[.int .i64 kind, .int .i64 s.hash, .int .i64 al, .slice a3 key.length d3, .slice a4 s.iv.length d4, .slice a5 data.length d5, .slice a6 s.label.length d6, .slice a7 s.context.length d7, .int .u32 s.count, .int .i64 ct, .int .i64 s.dst] 30)
            go_upto_region 8 with fail
            obtain ⟨wA, hwA⟩ : ∃ x, x = wr.alloc (.cells #[.int .i64 kind, .int .i64 s.hash, .int .i64 al, .slice a3 key.length d3, .slice a4 s.iv.length d4, .slice a5 data.length d5, .slice a6 s.label.length d6, .slice a7 s.context.length d7, .int .u32 s.count, .int .i64 ct, .int .i64 s.dst] 30) := ⟨_, rfl⟩
            rw [← hwA] at KA
            replace CA : Arr wA wr.heap.size 30 [.int .i64 kind, .int .i64 s.hash, .int .i64 al, .slice a3 key.length d3, .slice a4 s.iv.length d4, .slice a5 data.length d5, .slice a6 s.label.length d6, .slice a7 s.context.length d7, .int .u32 s.count, .int .i64 ct, .int .i64 s.dst] := by rw [hwA]; exact CA
            try rw [← hwA]
            clear hwA
            have hlA := CA.lt
            have ALL : ∀ W, Keep wA W → W.cell? ⟨wr.heap.size, 2, none⟩ = some (.int .i64 al) ∧ W.cell? ⟨wr.heap.size, 3, none⟩ = some (.slice a3 key.length d3) ∧ W.cell? ⟨wr.heap.size, 5, none⟩ = some (.slice a5 data.length d5) ∧ W.cell? ⟨wr.heap.size, 9, none⟩ = some (.int .i64 ct) :=
              fun W hk => ⟨(CA.keep hk).cell 2, (CA.keep hk).cell 3, (CA.keep hk).cell 5, (CA.keep hk).cell 9⟩
            have X3 := b3.keep KA
            have X5 := b5.keep KA
            have KW := kw.trans KA
            clear CA c0 c1 c2 c3 c4 c5 c6 c7 c8 c9 c10 b3 b5 KA kw
            generalize wr.heap.size = g4 at *
            have KS := fun W => keySizeC_c al W
            have hk32 := ksz_le al
            obtain ⟨n, hnk⟩ : ∃ n, n = ksz al := ⟨_, rfl⟩
            rw [← hnk] at KS hk32
            have HNK := Hid.mk hnk
            have ST := fun W (hk : Keep wA W) => stretch_c _ key n W (X3.keep hk) (by omega) (by omega)
            have hsl := stre_length key n
            generalize stre key n = K' at *
            have HSL := Hid.mk hsl
            clear hnk hsl
            by_cases hn0 : n = 0
            · have NB0 := fun W v => newBad_c al v W (by rw [← HNK.out]; exact hn0)
              clear hn0
              go_cut [5, 6] from 10 to 95 (fun pv ev wx => ∃ g, pv = .pointer (some ⟨g, 0, none⟩) ∧ ev = .int .i64 2 ∧ Keep wA wx)
              case first => as_aux_lemma =>
                go_region_held3 (fun W => W.cell? ⟨g4, 2, none⟩ = some (.int .i64 al) ∧ W.cell? ⟨g4, 3, none⟩ = some (.slice a3 key.length d3) ∧ W.cell? ⟨g4, 5, none⟩ = some (.slice a5 data.length d5) ∧ W.cell? ⟨g4, 9, none⟩ = some (.int .i64 ct))
                  ((refine ALL _ ?_; first | (with_reducible exact (Q2.setCell hQ _).setCell hQ _) | (with_reducible exact Q2.alloc _) | (with_reducible exact Q2) | (with_reducible exact Q1.alloc _) | (with_reducible exact Q1) | (with_reducible exact (Keep.refl wA)) | (with_reducible exact (Keep.refl wA).drew) | (with_reducible exact ((Keep.refl wA).alloc _).drew) | (with_reducible exact ((Keep.refl wA).alloc _))))
                  (first
                  | (go_at_call 13; refine (KS _).mono ?_; rintro e y0 ⟨rfl, rfl⟩)
                  | (go_at_call 11; refine (ST _ ?_).mono ?_; (first | (with_reducible exact (Keep.refl wA).drew) | (with_reducible exact ((Keep.refl wA).alloc _).drew)); rintro e y1 ⟨w1v, rfl, o1, q1⟩; have Q1 : Keep wA y1 := (by first | (with_reducible exact (Keep.refl wA).drew.trans q1) | (with_reducible exact ((Keep.refl wA).alloc _).drew.trans q1)); (first | (have NA : Arr y1 wA.heap.size 36 [.int .i64 0, .slice none 0 0] := Arr.keep (Arr.new wA 36 [.int .i64 0, .slice none 0 0]) (by with_reducible exact (Keep.refl _).drew.trans q1)) | skip))
                  | (go_at_call 12; refine (NB0 _ _).mono ?_; rintro e y2 ⟨rfl, q2⟩; have Q2 : Keep wA y2 := (by first | (with_reducible exact Q1.trans q2) | (with_reducible exact (Q1.alloc _).trans q2)); (first | (have NB : Arr y2 wA.heap.size 36 [.int .i64 0, .slice none 0 0] := NA.keep q2; have hQ : wA.heap.size ≤ wA.heap.size := Nat.le_refl _; have t0 := NB.cell 0; have t1 := NB.cell 1; simp only [List.getElem?_cons_zero, List.getElem?_cons_succ] at t0 t1; have u0 := NB.frozen 0; have u1 := NB.frozen 1; skip) | (have NB : Arr y2 y1.heap.size 36 [.int .i64 0, .slice none 0 0] := Arr.keep (Arr.new y1 36 [.int .i64 0, .slice none 0 0]) (by with_reducible exact q2); have hQ : wA.heap.size ≤ y1.heap.size := Q1.size; have t0 := NB.cell 0; have t1 := NB.cell 1; simp only [List.getElem?_cons_zero, List.getElem?_cons_succ] at t0 t1; have u0 := NB.frozen 0; have u1 := NB.frozen 1; skip) | skip)))
                all_goals
                  go_wp2_with fail
                  go_meet
                  case rel =>
                    first
                    | exact ⟨_, rfl, rfl, (Q2.setCell hQ _).setCell hQ _⟩
                    | exact ⟨_, rfl, rfl, Q2.alloc _⟩
              case rest => as_aux_lemma =>
                obtain ⟨g, rfl, rfl, k2⟩ := hcut
                go_wp2_with fail
                go_roundg (ss.length - (k + 1))
                case measure => omega
                case rel => exact ⟨k + 1, by omega, by go_num, KW.trans k2⟩
            · have NW := fun W v (hb : Bs W v K') => newK_c al v K' n W hb HSL.out HNK.out hn0 (by omega)
              have HN0 := Hid.mk hn0
              clear hn0
              go_cut [5, 6] from 10 to 95 (fun pv ev wx => ∃ g va vc, pv = .pointer (some ⟨g, 0, none⟩) ∧ ev = .int .i64 0 ∧ Arr wx g 36 [.int .i64 al, .slice va n vc] ∧ Bs wx (.slice va n vc) K' ∧ Keep wA wx)
              case first => as_aux_lemma =>
                go_region_held3 (fun W => W.cell? ⟨g4, 2, none⟩ = some (.int .i64 al) ∧ W.cell? ⟨g4, 3, none⟩ = some (.slice a3 key.length d3) ∧ W.cell? ⟨g4, 5, none⟩ = some (.slice a5 data.length d5) ∧ W.cell? ⟨g4, 9, none⟩ = some (.int .i64 ct))
                  ((refine ALL _ ?_; first | (with_reducible exact (Q2.setCell hQ _).setCell hQ _) | (with_reducible exact Q2.alloc _) | (with_reducible exact Q2) | (with_reducible exact Q1.alloc _) | (with_reducible exact Q1) | (with_reducible exact (Keep.refl wA)) | (with_reducible exact (Keep.refl wA).drew) | (with_reducible exact ((Keep.refl wA).alloc _).drew) | (with_reducible exact ((Keep.refl wA).alloc _))))
                  (first
                  | (go_at_call 13; refine (KS _).mono ?_; rintro e y0 ⟨rfl, rfl⟩)
                  | (go_at_call 11; refine (ST _ ?_).mono ?_; (first | (with_reducible exact (Keep.refl wA).drew) | (with_reducible exact ((Keep.refl wA).alloc _).drew)); rintro e y1 ⟨w1v, rfl, o1, q1⟩; have Q1 : Keep wA y1 := (by first | (with_reducible exact (Keep.refl wA).drew.trans q1) | (with_reducible exact ((Keep.refl wA).alloc _).drew.trans q1)); (first | (have NA : Arr y1 wA.heap.size 36 [.int .i64 0, .slice none 0 0] := Arr.keep (Arr.new wA 36 [.int .i64 0, .slice none 0 0]) (by with_reducible exact (Keep.refl _).drew.trans q1)) | skip))
                  | (go_at_call 12; refine (NW _ _ ?_).mono ?_; (first | (with_reducible exact o1.bs) | (with_reducible exact (o1.keep ((Keep.refl y1).alloc _)).bs)); rintro e y2 ⟨va, vc, rfl, o2, q2⟩; have Q2 : Keep wA y2 := (by first | (with_reducible exact Q1.trans q2) | (with_reducible exact (Q1.alloc _).trans q2)); (first | (have NB : Arr y2 wA.heap.size 36 [.int .i64 0, .slice none 0 0] := NA.keep q2; have hQ : wA.heap.size ≤ wA.heap.size := Nat.le_refl _; have t0 := NB.cell 0; have t1 := NB.cell 1; simp only [List.getElem?_cons_zero, List.getElem?_cons_succ] at t0 t1; have u0 := NB.frozen 0; have u1 := NB.frozen 1; have OB := fun u0 u1 => (own_set2 o2 (show wA.heap.size < _ from NA.lt) u0 u1).bs) | (have NB : Arr y2 y1.heap.size 36 [.int .i64 0, .slice none 0 0] := Arr.keep (Arr.new y1 36 [.int .i64 0, .slice none 0 0]) (by with_reducible exact q2); have hQ : wA.heap.size ≤ y1.heap.size := Q1.size; have t0 := NB.cell 0; have t1 := NB.cell 1; simp only [List.getElem?_cons_zero, List.getElem?_cons_succ] at t0 t1; have u0 := NB.frozen 0; have u1 := NB.frozen 1; have OB := fun u0 u1 => (own_set2 o2 (show y1.heap.size < _ by simp) u0 u1).bs) | skip)))
                all_goals
                  go_wp2_with fail
                  go_meet
                  case rel =>
                    first
                    | exact ⟨_, _, _, rfl, rfl, (NB.set 0 _).set 1 _, OB _ _, (Q2.setCell hQ _).setCell hQ _⟩
                    | exact ⟨_, _, _, rfl, rfl, Arr.new y2 36 [.int .i64 al, .slice va n vc], (o2.keep ((Keep.refl y2).alloc _)).bs, Q2.alloc _⟩
              case rest => as_aux_lemma =>
                obtain ⟨g, va, vc, rfl, rfl, A5, BK, k2⟩ := hcut
                have m0 := A5.cell 0
                have m1 := A5.cell 1
                simp only [List.getElem?_cons_zero, List.getElem?_cons_succ] at m0 m1
                clear ST NW KS
                go_wp2_with fail
                refine (cBlockSize_c al va n vc _).mono ?_
                rintro e w3 ⟨rfl, k3⟩
                have ALL3 := ALL _ (k2.trans k3)
                obtain ⟨z2, z3, z5, z9⟩ := ALL3
                have A53 := A5.keep k3
                have m0' := A53.cell 0
                have m1' := A53.cell 1
                simp only [List.getElem?_cons_zero, List.getElem?_cons_succ] at m0' m1'
                clear m0 m1
                by_cases hb8 : bsz16 al = 16
                · rw [hb8]
                  have HE := enc_c al va n vc K' (HSL.out.trans HNK.out) hb8
                  have CMA := fun W (hk : Keep w3 W) (m : List UInt8) (mv : Value) (cut : Int) (hm : Bs W mv m) (hml : m.length ≤ 1000000) hc hc1 => cmacAgrees_c al va n vc K' (encF al K') m mv cut W hb8 HE ((BK.keep k3).keep hk) (by rw [HSL.out]; exact HN0.out) hm hml hc hc1
                  have X5' := (X5.keep k2).keep k3
                  obtain ⟨dl, hdl'⟩ : ∃ dl, dl = data.length := ⟨_, rfl⟩
                  rw [← hdl'] at h5a hdl X5' z5 ALL
                  obtain ⟨r, hr⟩ : ∃ r : Nat, r = dl % 16 := ⟨_, rfl⟩
                  have qr : (dl : Int).tmod 16 = (r : Int) := by rw [hr]; exact (Int.ofNat_tmod dl 16).symm
                  have hr16 : r < 16 := by omega
                  have hrd : r ≤ dl := by rw [hr]; exact Nat.mod_le _ _
                  obtain ⟨p16, hp16⟩ : ∃ p16 : Nat, p16 = dl - r := ⟨_, rfl⟩
                  have XP := X5'.part (i := 0) (j := p16) (by omega) (by omega) a5 (fun _ => by cases a5 <;> simp [Addr.add])
                  rw [List.drop_zero, Nat.sub_zero, Nat.sub_zero] at XP
                  have lP : (data.take p16).length ≤ 1000000 := by rw [List.length_take]; omega
                  have lD : data.length ≤ 1000000 := by omega
                  have lJ : data.length + ([128] : List UInt8).length ≤ 70368744177664 := by simp; omega
                  have lJ' : (data ++ ([128] : List UInt8)).length ≤ 1000000 := by simp; omega
                  have y16 : IntKind.i64.wrap ((dl : Int) - (r : Int)) = (p16 : Int) := by rw [IntKind.wrap_i64] <;> omega
                  have yp1 : (p16 : Int) ≤ d5 := by omega
                  have yp0 : (0 : Int) ≤ p16 := by omega
                  have L1 : ∀ y : World, Bs (y.alloc (.cells #[.int .u8 128] 5)) (.slice (some ⟨y.heap.size, 0, none⟩) 1 1) [128] := fun y => (Own.lit (B := 0) (e := 5) (w := y) (([128] : List UInt8).map cb) (by omega) (by simp [maxLen])).bs
                  have ALLM : ∀ W, Keep w3 W → W.cell? ⟨g4, 5, none⟩ = some (.slice a5 dl d5) ∧ W.cell? ⟨g4, 9, none⟩ = some (.int .i64 ct) ∧ W.cell? ⟨g, 0, none⟩ = some (.int .i64 al) ∧ W.cell? ⟨g, 1, none⟩ = some (.slice va n vc) :=
                    fun W hk => ⟨(ALL W ((k2.trans k3).trans hk)).2.2.1, (ALL W ((k2.trans k3).trans hk)).2.2.2, (A53.keep hk).cell 0, (A53.keep hk).cell 1⟩
                  have hc0 := r9.1
                  have hc1 := r9.2
                  clear hr hp16 hdl' hr16 hrd z2 z3 HE hb8
                  go_upto_region 14 with fail
                  go_cut [95] from 10 to 95 (fun c wx => c = .bool false ∧ Keep w3 wx)
                  case first => as_aux_lemma =>
                    clear z5 z9 m0' m1' ALL hk hk0 hk3 i1 hlt hn hac hcm
                    go_region_held3 (fun W => W.cell? ⟨g4, 5, none⟩ = some (.slice a5 dl d5) ∧ W.cell? ⟨g4, 9, none⟩ = some (.int .i64 ct) ∧ W.cell? ⟨g, 0, none⟩ = some (.int .i64 al) ∧ W.cell? ⟨g, 1, none⟩ = some (.slice va n vc))
                      ((refine ALLM _ ?_; first | (with_reducible exact Q5) | (with_reducible exact Q4) | (with_reducible exact Q3.alloc _) | (with_reducible exact Q3) | (with_reducible exact Q2) | (with_reducible exact Q1) | (with_reducible exact (Keep.refl w3)) | (with_reducible exact (Keep.refl w3).drew) | (with_reducible exact ((Keep.refl w3).alloc _).drew) | (with_reducible exact ((Keep.refl w3).alloc _))))
                      (first
                      | ((fail_if_success have := Q1); go_at_call 16; refine (CMA _ ((Keep.refl w3).alloc _).drew [] _ 0 (Bs.nil _ _ (by simp [maxLen])) (by simp) (by omega) (by omega)).mono ?_; rintro e y1 ⟨rfl, q1⟩; have Q1 : Keep w3 y1 := ((Keep.refl w3).alloc _).drew.trans q1)
                      | ((fail_if_success have := Q2); go_at_call 16; refine (CMA _ Q1 data _ ct (X5'.keep Q1) lD hc0 hc1).mono ?_; rintro e y2 ⟨rfl, q2⟩; have Q2 := Q1.trans q2)
                      | ((fail_if_success have := Q3); go_at_call 16; refine (CMA _ Q2 (data.take p16) _ ct (XP.keep Q2) lP hc0 hc1).mono ?_; rintro e y3 ⟨rfl, q3⟩; have Q3 := Q2.trans q3)
                      | (go_at_call 17; refine (join_c _ _ data [128] _ (X5'.keep (Q3.alloc _)) (L1 y3) lJ).mono ?_; rintro e y4 ⟨u4, rfl, o4, q4⟩; have Q4 := (Q3.alloc _).trans q4)
                      | (go_at_call 16; refine (CMA _ Q4 (data ++ [128]) _ ct o4.bs lJ' hc0 hc1).mono ?_; rintro e y5 ⟨rfl, q5⟩; have Q5 := Q4.trans q5))
                    all_goals
                      go_wp2_with fail
                      go_meet
                      case rel => exact ⟨rfl, Q5⟩
                  case rest => as_aux_lemma =>
                    obtain ⟨rfl, k4⟩ := hcut
                    go_wp2_with fail
                    go_roundg (ss.length - (k + 1))
                    case measure => omega
                    case rel => exact ⟨k + 1, by omega, by go_num, ((KW.trans k2).trans k3).trans k4⟩
                · have hb8' : bsz16 al = 8 := by
                    rcases alg_cases al with rfl | rfl | rfl | rfl | rfl | ⟨h0, -⟩
                    · exact absurd rfl hb8
                    · exact absurd rfl hb8
                    · exact absurd rfl hb8
                    · exact absurd rfl hb8
                    · rfl
                    · exact absurd (HNK.out.trans h0) HN0.out
                  rw [hb8']
                  clear hb8
                  have SB := fun W mv => sumCMACbad_c al va n vc mv W hb8'
                  clear hb8'
                  go_wp2_with fail
                  refine (SB _ _).mono ?_
                  rintro e w4 ⟨rfl, k4⟩
                  go_wp2_with fail
                  go_roundg (ss.length - (k + 1))
                  case measure => omega
                  case rel => exact ⟨k + 1, by omega, by go_num, ((KW.trans k2).trans k3).trans k4⟩
      · have hlt' : ¬ (k : Int) < ss.length := by omega
        go_wp2
        go_ret
        exact ⟨rfl, kw⟩
end Go.Proofs.Qxb6500769a
