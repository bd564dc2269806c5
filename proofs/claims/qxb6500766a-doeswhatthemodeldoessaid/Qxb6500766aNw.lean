/- NextWalksTheKeys. -/
import Derived.Test.Qxb6500766aSmall
import Derived.Test.Qxb6500766aCb
namespace Go.Proofs.Qxb6500766a
open Go.RowKit Go.Qm
set_option linter.unusedVariables false
set_option linter.unusedSimpArgs false
attribute [local go_sem ↓] Go.wp_at_zero Go.wp_at_succ
/-- The number of keys up to one. -/
def upTo (D : Dir) (a : List UInt8) : Nat := ((keysD D).eraseDups.filter (fun k => !lessB a k)).length
theorem keys_ne {D : Dir} {k : List UInt8} (h : k ∈ keysD D) : k ≠ [] := by
  obtain ⟨l, hl, r, hr, e⟩ := mem_keys.1 h
  exact (keyF_some e).1
theorem keys_len {D : Dir} {k : List UInt8} (h : k ∈ keysD D) : k.length ≤ 4000 := by
  obtain ⟨l, hl, r, hr, e⟩ := mem_keys.1 h
  exact (keyF_some e).2.1
theorem upTo_nil (D : Dir) : upTo D [] = 0 := by
  unfold upTo
  rw [List.length_eq_zero_iff, List.filter_eq_nil_iff]
  intro k hk
  have := keys_ne (List.mem_eraseDups.1 hk)
  cases k with
  | nil => exact absurd rfl this
  | cons a l => simp [lessB]
theorem filt_one {α : Type} [BEq α] [LawfulBEq α] (p : α → Bool) (m : α) (hm : p m = false) : ∀ {L : List α}, L.Nodup → m ∈ L → (L.filter (fun k => p k || k == m)).length = (L.filter p).length + 1
  | [], _, h => by simp at h
  | a :: L, nd, h => by
    rw [List.nodup_cons] at nd
    rw [List.filter_cons, List.filter_cons]
    by_cases e : a = m
    · subst e
      rw [if_pos (by simp), if_neg (by simp [hm]), List.length_cons]
      congr 2
      refine List.filter_congr (fun k hk => ?_)
      have : (k == a) = false := by
        rw [beq_eq_false_iff_ne]
        intro e
        subst e
        exact nd.1 hk
      rw [this, Bool.or_false]
    · have ih := filt_one p m hm nd.2 (by rcases List.mem_cons.1 h with x | x; exact absurd x.symm e; exact x)
      have e' : (a == m) = false := by rw [beq_eq_false_iff_ne]; exact e
      cases hp : p a with
      | true => rw [if_pos (by simp), if_pos rfl, List.length_cons, List.length_cons, ih]
      | false => rw [if_neg (by simp [e']), if_neg (by simp), ih]
theorem upTo_next {D : Dir} {a m : List UInt8} (h : nextK D a = some m) : upTo D m = upTo D a + 1 := by
  have sp := nextK_spec D a
  rw [h] at sp
  obtain ⟨h1, h2, h3⟩ := sp
  unfold upTo
  rw [← filt_one (fun k => !lessB a k) m (by simp [h2]) (nodup_eraseDups _ _ (Nat.le_refl _)) (List.mem_eraseDups.2 h1)]
  congr 1
  refine List.filter_congr (fun k hk => ?_)
  have hk := List.mem_eraseDups.1 hk
  cases hl : lessB a k with
  | true =>
    rcases h3 k hk hl with e | e
    · subst e; simp [lessB_irrefl]
    · rw [e]
      have : k ≠ m := by intro x; subst x; rw [lessB_irrefl] at e; cases e
      simp [this]
  | false =>
    cases hm : lessB m k with
    | true => rw [lessB_trans h2 hm] at hl; cases hl
    | false => simp
theorem upTo_end {D : Dir} {a : List UInt8} (h : nextK D a = none) : upTo D a = cntK D := by
  have sp := nextK_spec D a
  rw [h] at sp
  unfold upTo cntK
  rw [List.filter_eq_self.2]
  intro k hk
  have : ∀ k ∈ keysD D, lessB a k = false := sp
  simp [this k (List.mem_eraseDups.1 hk)]
theorem cnt_le {D : Dir} (h : ∀ l, l < 8 → (D l).length ≤ 12) : cntK D ≤ 96 := by
  have a := keys_le h
  have b := nodup_le (L := (keysD D).eraseDups) (M := keysD D) (nodup_eraseDups _ _ (Nat.le_refl _)) (fun x hx => List.mem_eraseDups.1 hx)
  unfold cntK
  omega
theorem next_mem {D : Dir} {a m : List UInt8} (h : nextK D a = some m) : m ∈ keysD D ∧ lessB a m = true := by
  have sp := nextK_spec D a
  rw [h] at sp
  exact ⟨sp.1, sp.2.1⟩
/-- What stands along a law of one world. -/
structure OneW (w0 : World) (gs gc gw N : Nat) (R : Sys) (fp : Nat → Prop) (W : World) : Prop where
  W1 : WW w0.heap.size fp W gs gc N R
  A1 : Arr W gw 38 [.pointer (some ⟨gs, 0, none⟩), .pointer (some ⟨gc, 0, none⟩)]
  n1 : ¬ fp gw
  kp : Keep w0 W
theorem OneW.step {w0 W W' : World} {gs gc gw N M : Nat} {R R' : Sys} {fp fp' : Nat → Prop} (T : OneW w0 gs gc gw N R fp W) (st : Stp fp fp' W W') (W1' : WW w0.heap.size fp' W' gs gc M R') : OneW w0 gs gc gw M R' fp' W' :=
  ⟨W1', T.A1.fpS T.n1 st, fun a => (st.2 gw a).elim T.n1 (fun b => by have := T.A1.lt; omega), st.keepB T.kp T.W1 (Nat.le_refl _)⟩
theorem OneW.keep {w0 W W' : World} {gs gc gw N : Nat} {R : Sys} {fp : Nat → Prop} (T : OneW w0 gs gc gw N R fp W) (k : Keep W W') : OneW w0 gs gc gw N R fp W' := ⟨T.W1.keep k, T.A1.keep k, T.n1, T.kp.trans k⟩
theorem OneW.le {w0 W : World} {gs gc gw N M : Nat} {R : Sys} {fp : Nat → Prop} (T : OneW w0 gs gc gw N R fp W) (h : N ≤ M) : OneW w0 gs gc gw M R fp W := ⟨T.W1.le h, T.A1, T.n1, T.kp⟩
set_option maxRecDepth 4000 in
set_option maxHeartbeats 4000000 in
theorem nextWalks_c (v : Value) (ss : List OpV) (w : World) (h : Script w v ss) : Calls Try.prog 7 #[v] w fun e w' => e = .returned (.bool true) ∧ Keep w w' := by
  have SM := small_c v ss w h
  obtain ⟨av, cv, rfl, hac, hcm, hca⟩ := h
  unfold maxLen at hcm
  go_enter Try.func7, Try.ntmps7
  go_wp2_with fail
  refine SM.mono ?_
  rintro e w1 ⟨⟨b, rfl, hsm⟩, k1⟩
  cases b with
  | false =>
    go_wp2_with fail
    go_ret
    exact ⟨rfl, k1⟩
  | true =>
    obtain ⟨hlen, hnm⟩ := hsm rfl
    have HNM := Hid.mk hnm
    have HCA := Hid.mk hca
    clear hsm hnm hca SM
    go_wp2_with fail
    refine (newW w1).mono ?_
    rintro e w2 ⟨gs, gc, gw, fp1, rfl, W1, A1, n1, hg1, k2⟩
    have TT : ∃ fp1, OneW w1 gs gc gw 0 (runS ss 0) fp1 w2 := ⟨fp1, W1, A1, n1, k2⟩
    have HTT := Hid.mk TT
    clear TT W1 A1 n1
    go_wp2_with fail
    go_loopg [4] ss.length (fun gk iv wr => ∃ (k : Nat) (fp1 : Nat → Prop), k + gk = ss.length ∧ iv = .int .i64 k ∧ OneW w1 gs gc gw k (runS ss k) fp1 wr)
    case atStart =>
      obtain ⟨f1, T⟩ := HTT.out
      exact ⟨0, f1, by omega, rfl, T⟩
    case round =>
      obtain ⟨k, f1, hk, rfl, T⟩ := hrel
      have HK := Hid.mk hk
      clear hk HTT
      by_cases hlt : k < ss.length
      · have i1 : (k : Int) < ss.length := by omega
        obtain ⟨b, o, rfl, hop⟩ := HCA.out k hlt
        have O4 := hop.keep (k1.trans T.kp)
        have hnk := HNM.out ss[k] (List.getElem_mem hlt)
        have RS : Hid (runS ss (k + 1) = (playF (runS ss k) ss[k]).2) := Hid.mk (runS_succ hlt)
        have PL1 := play_c ss[k] T.W1 T.A1 T.n1 (by omega) (by omega)
        clear hop
        generalize runS ss k = R at *
        generalize ss[k] = op at *
        unfold opC at PL1
        generalize playF R op = P at *
        have x0 := O4.c0
        have x1 := O4.c1
        have x2 := O4.c2
        have x3 := O4.c3
        have x4 := O4.c4
        clear O4
        go_wp2_with fail
        refine PL1.mono ?_
        rintro e w5 ⟨v1, f4, rfl, ev1, W5, st5⟩
        have T5 := T.step st5 W5
        clear x0 x1 x2 x3 x4
        go_wp2_with fail
        go_roundg (gk - 1)
        case measure => have := HK.out; omega
        case rel => exact ⟨k + 1, f4, by have := HK.out; omega, by go_num, by rw [RS.out]; exact T5⟩
      · have i1 : ¬ (k : Int) < ss.length := by omega
        have hkl : k ≤ 65536 := by have := HK.out; omega
        generalize runS ss k = R at *
        have TL := T.le hkl
        clear T
        go_wp2_with fail
        obtain ⟨W0, hW0⟩ : ∃ W, W = wr := ⟨_, rfl⟩
        subst hW0
        go_loopg [5] 24 (fun gk dv wr => ∃ (d : Nat) (f : Nat → Prop), d + gk = 24 ∧ dv = .int .i64 d ∧ OneW w1 gs gc gw (65536 + d * 1000) R f wr)
        case atStart => exact ⟨0, f1, by omega, rfl, TL⟩
        case round =>
          obtain ⟨d, f, hd8, rfl, T⟩ := hrel
          have HD8 := Hid.mk hd8
          clear hd8 TL
          by_cases hd : d < 24
          · have d1 : (d : Int) < 24 := by omega
            have DK := T.W1.ok hd
            have HCN := Hid.mk (cnt_le DK.len)
            have a1 := Go.Qm.Arr.cell T.A1 1
            simp only [List.getElem?_cons_zero, List.getElem?_cons_succ] at a1
            have CC := countW d T.W1 hd (by omega)
            have HNX := Hid.mk (fun (f : Nat → Prop) (N : Nat) (W : World) (k : List UInt8) (T : OneW w1 gs gc gw N R f W) (hN : N ≤ 1000000) (hk : k.length ≤ 4000) => nextW d k T.W1 hd (by omega) (by omega))
            have HLK := Hid.mk (fun (f : Nat → Prop) (N : Nat) (W : World) (k : List UInt8) (T : OneW w1 gs gc gw N R f W) (hN : N ≤ 1000000) (hk : k.length ≤ 4000) => lookupW d k T.W1 hd (by omega) (by omega))
            have HU0 := Hid.mk (upTo_nil (R d))
            have HUN := Hid.mk (fun a m => @upTo_next (R d) a m)
            have HUE := Hid.mk (fun a => @upTo_end (R d) a)
            have HME := Hid.mk (fun a m => @next_mem (R d) a m)
            have HKL := Hid.mk (fun k => @keys_len (R d) k)
            have HKB := Hid.mk (fun k => @keys_bear (R d) k)
            generalize R d = D at *
            generalize hcn : cntK D = c at *
            have HCC := Hid.mk hcn
            clear hcn DK
            go_wp2_with fail
            refine CC.mono ?_
            rintro e w6 ⟨f6, rfl, W6, st6⟩
            have T6 := T.step st6 W6
            clear a1 CC T
            have hc96 := HCN.out
            go_wp2_with fail
            obtain ⟨gO, hgO⟩ : ∃ g, g = gk := ⟨_, rfl⟩
            subst hgO
            go_loopg [8, 9] c (fun gk sv kv wx => ∃ (s : Nat) (a : List UInt8) (f : Nat → Prop), s + gk = c ∧ sv = .int .i64 s ∧ kv = str a ∧ a.length ≤ 4000 ∧ upTo D a = s ∧ OneW w1 gs gc gw (65536 + d * 1000 + 1 + 2 * s) R f wx)
            case atStart => exact ⟨0, [], f6, by omega, rfl, rfl, by simp, HU0.out, T6⟩
            case round =>
              obtain ⟨s, a, f, hs, rfl, rfl, hal, hup, T⟩ := hrel
              have HS := Hid.mk hs
              have HUP := Hid.mk hup
              have hsc : s ≤ c := by omega
              have i2 : (s : Int) ≤ c := by omega
              clear hs hup T6
              have a1 := Go.Qm.Arr.cell T.A1 1
              simp only [List.getElem?_cons_zero, List.getElem?_cons_succ] at a1
              have NX := HNX.out f _ wr a T (by omega) hal
              obtain ⟨o, ho⟩ : ∃ o, o = nextK D a := ⟨_, rfl⟩
              rw [← ho] at NX
              have HO := Hid.mk ho
              clear ho
              cases o with
              | none =>
                have hsc2 : s = c := by rw [← HUP.out, HUE.out a HO.out.symm]
                have t1 : ((s : Int) != (c : Int)) = false := by rw [hsc2]; simp
                have HSC := Hid.mk hsc2
                clear hsc2
                unfold nextE at NX
                simp only [Option.isSome_none, Bool.false_eq_true, if_false] at NX
                go_wp2_with fail
                refine NX.mono ?_
                rintro e w7 ⟨f7, rfl, W7, st7⟩
                have T7 := T.step st7 W7
                have T8 := T7.le (M := 65536 + (d + 1) * 1000) (by omega)
                clear a1 T T7
                go_wp2_with fail
                go_roundg (gO - 1)
                case measure => have := HD8.out; omega
                case rel => exact ⟨d + 1, f7, by have := HD8.out; omega, by go_num, T8⟩
              | some m =>
                obtain ⟨hmk, hlm⟩ := HME.out a m HO.out.symm
                have hml := HKL.out m hmk
                have hbe := (HKB.out m).1 hmk
                have hun := HUN.out a m HO.out.symm
                have HUN2 := Hid.mk hun
                clear hun hmk
                unfold nextE accK at NX
                simp only [Option.isSome_some, if_true, Option.getD_some] at NX
                have hs1 : s + 1 ≤ c := by
                  have e1 : upTo D m ≤ c := by
                    rw [← HCC.out]
                    unfold upTo cntK
                    exact List.length_filter_le _ _
                  rw [HUN2.out, HUP.out] at e1
                  exact e1
                go_wp2_with fail
                refine NX.mono ?_
                rintro e w7 ⟨f7, rfl, W7, st7⟩
                have T7 := T.step st7 W7
                have LK := HLK.out f7 _ w7 m T7 (by omega) hml
                have LS := less_c a m
                rw [hlm] at LS
                have a2 := Go.Qm.Arr.cell T7.A1 1
                simp only [List.getElem?_cons_zero, List.getElem?_cons_succ] at a2
                clear a1 NX T
                generalize bear D m = es at *
                go_wp2_with fail
                refine LK.mono ?_
                rintro e w8 ⟨v8, f8, rfl, ev, W8, st8⟩
                have T8 := T7.step st8 W8
                obtain ⟨a8, c8, rfl, hc8, hm8, -⟩ := ent_read ev
                have hes : ¬ ((es.length : Int) = 0) := by
                  have := List.length_pos_iff.2 hbe
                  omega
                have t2 : ((es.length : Int) == 0) = false := by simpa using hes
                have LS8 := LS w8 (by omega) (by omega)
                clear a2 LK T7 hes LS
                go_wp2_with fail
                refine LS8.mono ?_
                rintro e w9 ⟨rfl, k9⟩
                have T9 := T8.keep k9
                go_wp2_with fail
                go_roundg (gk - 1)
                case measure => have := HS.out; omega
                case rel => exact ⟨s + 1, m, f8, by have := HS.out; omega, by go_num, rfl, hml, by rw [HUN2.out, HUP.out], T9.le (by omega)⟩
          · have d1 : ¬ (d : Int) < 24 := by omega
            go_wp2_with fail
            go_ret
            exact ⟨rfl, k1.trans T.kp⟩
end Go.Proofs.Qxb6500766a
