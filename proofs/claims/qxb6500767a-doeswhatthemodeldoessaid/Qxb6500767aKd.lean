/- foldkeym: decode. -/
import Derived.Test.Qxb6500767aKc
import Derived.Deep.CutBlock
namespace Go.Proofs.Qxb6500767a
open Go.RowKit Go.Qm
set_option linter.unusedVariables false
set_option linter.unusedSimpArgs false
attribute [local go_sem ↓] Go.wp_at_zero Go.wp_at_succ
/-- The leading octet: how many octets, what it bears, the least rune. -/
def leadF (x : UInt8) : Option (Nat × Int × Int) :=
  if (x.toNat : Int) < 128 then some (1, x.toNat, 0) else if (bits .and .u8 x.toNat 224 == 192) = true then some (2, (x.toNat : Int) % 32, 128)
  else if (bits .and .u8 x.toNat 240 == 224) = true then some (3, (x.toNat : Int) % 16, 2048) else if (bits .and .u8 x.toNat 248 == 240) = true then some (4, (x.toNat : Int) % 8, 65536) else none
def joinR (r : Int) (y : UInt8) : Int := bits .or .i32 (wrap32 (r * 64)) ((y.toNat : Int) % 64)
def contF : List UInt8 → Int → Option Int
  | [], r => some r
  | y :: l, r => if (bits .and .u8 y.toNat 192 != 128) = true then none else contF l (joinR r y)
def goodR (r least : Int) : Bool := !(decide (r < least) || decide (r > 1114111) || (decide (55296 ≤ r) && decide (r ≤ 57343)))
/-- One rune off the head. -/
def stepD (t : List UInt8) : Option (Int × Nat) :=
  match t with
  | [] => none
  | x :: l => match leadF x with
    | none => none
    | some (n, r, least) => if l.length + 1 < n then none else match contF (l.take (n - 1)) r with
      | none => none
      | some r' => if goodR r' least = true then some (r', n) else none
def decF : Nat → List UInt8 → Option (List Int)
  | 0, _ => some []
  | f + 1, t => if t = [] then some [] else match stepD t with
    | none => none
    | some (r, n) => (decF f (t.drop n)).map (r :: ·)
theorem leadF_n {x : UInt8} {n : Nat} {r least : Int} (h : leadF x = some (n, r, least)) : 1 ≤ n ∧ n ≤ 4 := by
  unfold leadF at h
  repeat' split at h
  all_goals (first | (simp only [Option.some.injEq, Prod.mk.injEq] at h; omega) | cases h)
theorem lead1 {x : UInt8} (h : (x.toNat : Int) < 128) : leadF x = some (1, (x.toNat : Int), 0) := by unfold leadF; rw [if_pos h]
theorem lead2 {x : UInt8} (h : ¬ (x.toNat : Int) < 128) (h2 : (bits .and .u8 x.toNat 224 == 192) = true) : leadF x = some (2, (x.toNat : Int) % 32, 128) := by unfold leadF; rw [if_neg h, if_pos h2]
theorem lead3 {x : UInt8} (h : ¬ (x.toNat : Int) < 128) (h2 : ¬ (bits .and .u8 x.toNat 224 == 192) = true) (h3 : (bits .and .u8 x.toNat 240 == 224) = true) : leadF x = some (3, (x.toNat : Int) % 16, 2048) := by unfold leadF; rw [if_neg h, if_neg h2, if_pos h3]
theorem lead4 {x : UInt8} (h : ¬ (x.toNat : Int) < 128) (h2 : ¬ (bits .and .u8 x.toNat 224 == 192) = true) (h3 : ¬ (bits .and .u8 x.toNat 240 == 224) = true) (h4 : (bits .and .u8 x.toNat 248 == 240) = true) : leadF x = some (4, (x.toNat : Int) % 8, 65536) := by unfold leadF; rw [if_neg h, if_neg h2, if_neg h3, if_pos h4]
theorem lead0 {x : UInt8} (h : ¬ (x.toNat : Int) < 128) (h2 : ¬ (bits .and .u8 x.toNat 224 == 192) = true) (h3 : ¬ (bits .and .u8 x.toNat 240 == 224) = true) (h4 : ¬ (bits .and .u8 x.toNat 248 == 240) = true) : leadF x = none := by unfold leadF; rw [if_neg h, if_neg h2, if_neg h3, if_neg h4]
theorem stepD_none {x : UInt8} {l : List UInt8} (h : leadF x = none) : stepD (x :: l) = none := by unfold stepD; dsimp only; rw [h]
theorem stepD_some {x : UInt8} {l : List UInt8} {n : Nat} {r least : Int} (h : leadF x = some (n, r, least)) : stepD (x :: l) = if l.length + 1 < n then none else match contF (l.take (n - 1)) r with
      | none => none
      | some r' => if goodR r' least = true then some (r', n) else none := by unfold stepD; dsimp only; rw [h]
theorem dec_none {D : Option (List Int)} {x : UInt8} {l out : List UInt8} {o2 : List Int} {f : Nat} (hE : D = (decF (f + 1) (x :: l)).map (o2 ++ ·)) (h : stepD (x :: l) = none) : D = none := by
  rw [hE]; unfold decF; rw [if_neg (List.cons_ne_nil _ _), h]; rfl
theorem dec_some {D : Option (List Int)} {x : UInt8} {l : List UInt8} {o2 : List Int} {f n : Nat} {r : Int} (hE : D = (decF (f + 1) (x :: l)).map (o2 ++ ·)) (h : stepD (x :: l) = some (r, n)) : D = (decF f ((x :: l).drop n)).map ((o2 ++ [r]) ++ ·) := by
  have e : decF (f + 1) (x :: l) = (decF f ((x :: l).drop n)).map (r :: ·) := by
    conv => lhs; unfold decF
    rw [if_neg (List.cons_ne_nil _ _), h]
  rw [hE, e]
  cases decF f ((x :: l).drop n) with
  | none => rfl
  | some y => simp only [Option.map_some, List.append_assoc, List.singleton_append]
theorem decF_nil (f : Nat) : decF f [] = some [] := by cases f <;> simp [decF]
theorem contF_cons (y : UInt8) (l : List UInt8) (r : Int) : contF (y :: l) r = if (bits .and .u8 y.toNat 192 != 128) = true then none else contF l (joinR r y) := rfl
theorem stepD_n {t : List UInt8} {r : Int} {n : Nat} (h : stepD t = some (r, n)) : 1 ≤ n ∧ n ≤ t.length := by
  cases t with
  | nil => unfold stepD at h; cases h
  | cons x l =>
    cases hx : leadF x with
    | none => rw [stepD_none hx] at h; cases h
    | some q =>
      obtain ⟨m, r0, least⟩ := q
      have hm := leadF_n hx
      rw [stepD_some hx] at h
      split at h
      · cases h
      · split at h
        · cases h
        · split at h
          · simp only [Option.some.injEq, Prod.mk.injEq] at h
            simp only [List.length_cons]
            omega
          · cases h
theorem decF_fuel : ∀ (f : Nat) (t : List UInt8) (g : Nat), t.length ≤ f → t.length ≤ g → decF f t = decF g t
  | 0, t, g, h, _ => by
    have : t = [] := List.eq_nil_of_length_eq_zero (by omega)
    subst this
    rw [decF_nil, decF_nil]
  | f + 1, [], g, _, _ => by rw [decF_nil, decF_nil]
  | f + 1, x :: l, 0, _, h => by simp at h
  | f + 1, x :: l, g + 1, h1, h2 => by
    unfold decF
    rw [if_neg (List.cons_ne_nil _ _), if_neg (List.cons_ne_nil _ _)]
    cases hs : stepD (x :: l) with
    | none => rfl
    | some q =>
      obtain ⟨r, n⟩ := q
      have := stepD_n hs
      dsimp only
      rw [decF_fuel f ((x :: l).drop n) g (by rw [List.length_drop]; omega) (by rw [List.length_drop]; omega)]
def DecP (D : Option (List Int)) (B : Nat) (e : Ending) (w' : World) : Prop :=
  (D = none ∧ e = .returned (.tuple #[.slice none 0 0, .bool false])) ∨ ∃ l v', D = some l ∧ e = .returned (.tuple #[v', .bool true]) ∧ Own B 21 w' v' (l.map rv)
set_option maxRecDepth 6000 in
set_option maxHeartbeats 2000000 in
theorem decode_c (s : List UInt8) (w : World) (hl : s.length ≤ 1000) : Calls Try.prog 99 #[str s] w fun e w' =>
    DecP (decF s.length s) w.heap.size e w' ∧ Keep w w' := by
  obtain ⟨D, hD⟩ : ∃ D, D = decF s.length s := ⟨_, rfl⟩
  rw [← hD]
  have HD := Hid.mk hD
  clear hD
  go_enter Try.func99, Try.ntmps99
  go_wp2_with fail
  go_loopg [4, 5] s.length (fun gk ov iv wr => ∃ (k : Nat) (out : List Int), k + gk = s.length ∧ iv = .int .i64 k ∧ out.length ≤ k ∧ D = (decF gk (s.drop k)).map (out ++ ·) ∧ Own w.heap.size 21 wr ov (out.map rv) ∧ Keep w wr)
  case atStart => exact ⟨0, [], by omega, rfl, by simp, by rw [HD.out, List.drop_zero]; cases decF s.length s <;> rfl, World.ownsRow_nil _ _ _ _, Keep.refl _⟩
  case round => as_aux_lemma =>
    obtain ⟨k, out, hk, rfl, ho, hdd, oo, kw⟩ := hrel
    have HDD := Hid.mk hdd
    have HK := Hid.mk hk
    clear hdd HD
    by_cases hlt : k < s.length
    · have i1 : (k : Int) < s.length := by omega
      have hb := UInt8.toNat_lt s[k]
      obtain ⟨f, hf⟩ : ∃ f, gk = f + 1 := ⟨gk - 1, by omega⟩
      have hdr := List.drop_eq_getElem_cons hlt
      generalize hx : s[k] = x at *
      obtain ⟨T, hT⟩ : ∃ T, T = s.drop (k + 1) := ⟨_, rfl⟩
      rw [← hT] at hdr
      have hTl : T.length + 1 + k = s.length := by rw [hT, List.length_drop]; omega
      have HX := Hid.mk hx
      have HT := Hid.mk hT
      have hE := HDD.out
      rw [hf, hdr] at hE
      have HE := Hid.mk hE
      have HF : Hid (k + f + 1 = s.length) := Hid.mk (by omega)
      clear hdr hT HDD hf hE
      go_upto_block 2 with fail
      clear hx
      go_cut [7, 8, 9] from 11 to 93 (fun a b c wx => ∃ (n : Nat) (r lst : Int), leadF x = some (n, r, lst) ∧ a = .int .i64 n ∧ b = .int .i32 r ∧ c = .int .i32 lst ∧ wx = wr)
      case first => as_aux_lemma =>
        have HEN : Hid (leadF x = none → D = none) := Hid.mk (fun h => dec_none (out := []) HE.out (stepD_none h))
        clear HE
        go_wp2_with fail
        · rename_i h1
          go_meet
          case rel => exact ⟨1, _, _, lead1 h1, rfl, rfl, rfl, rfl⟩
        · rename_i h1 h2
          go_meet
          case rel => exact ⟨2, _, _, lead2 (by omega) h2, rfl, rfl, rfl, rfl⟩
        · rename_i h1 h2 h3
          go_meet
          case rel => exact ⟨3, _, _, lead3 (by omega) (by simpa using h2) h3, rfl, rfl, rfl, rfl⟩
        · rename_i h1 h2 h3 h4
          go_meet
          case rel => exact ⟨4, _, _, lead4 (by omega) (by simpa using h2) (by simpa using h3) h4, rfl, rfl, rfl, rfl⟩
        · rename_i h1 h2 h3 h4
          have hln := Hid.mk (lead0 (x := x) (by omega) (by simpa using h2) (by simpa using h3) (by simpa using h4))
          go_ret2
          exact ⟨Or.inl ⟨HEN.out hln.out, rfl⟩, kw⟩
      case rest => as_aux_lemma =>
        obtain ⟨n, r, lst, hlead, rfl, rfl, rfl, rfl⟩ := hcut
        obtain ⟨hn1, hn4⟩ := leadF_n hlead
        have HST := Hid.mk (stepD_some (l := T) hlead)
        clear hlead
        by_cases hsh : k + n > s.length
        · have i2 : (k : Int) + n > s.length := by omega
          have hst := HST.out
          rw [if_pos (by omega)] at hst
          have HE2 := Hid.mk (dec_none (out := []) HE.out hst)
          clear HE HST hst
          go_wp2_with fail
          go_ret2
          exact ⟨Or.inl ⟨HE2.out, rfl⟩, kw⟩
        · have i2 : ¬ (k : Int) + n > s.length := by omega
          have hst := HST.out
          rw [if_neg (by omega)] at hst
          have HS2 := Hid.mk hst
          clear HST hst
          go_wp2_with fail
          go_wp2_with fail
          go_loopg [8, 10] (n - 1) (fun gj b jv wx => ∃ (j : Nat) (r' : Int), 1 ≤ j ∧ j + gj = n ∧ jv = .int .i64 j ∧ b = .int .i32 r' ∧ contF (T.take (n - 1)) r = contF ((T.drop (j - 1)).take (n - j)) r' ∧ wx = wc)
          case atStart => exact ⟨1, r, by omega, by omega, rfl, rfl, by rw [List.drop_zero], rfl⟩
          case round => as_aux_lemma =>
            obtain ⟨j, r', hj1, hjn, rfl, rfl, hcf, rfl⟩ := hrel
            have HCF := Hid.mk hcf
            clear hcf
            by_cases hjl : j < n
            · have q1 : (j : Int) < n := by omega
              have q2 : k + j < s.length := by omega
              have q3 : (k : Int) + j < s.length := by omega
              have hTj : j - 1 < T.length := by omega
              have hg : T[j - 1] = s[k + j] := by
                have := HT.out
                subst this
                rw [List.getElem_drop]
                congr 1
                omega
              have hdr : (T.drop (j - 1)).take (n - j) = s[k + j] :: (T.drop (j + 1 - 1)).take (n - (j + 1)) := by
                rw [List.drop_eq_getElem_cons hTj, show n - j = (n - (j + 1)) + 1 by omega, List.take_succ_cons, hg, show j - 1 + 1 = j + 1 - 1 by omega]
              have hby := UInt8.toNat_lt s[k + j]
              have hcf := HCF.out
              rw [hdr] at hcf
              rw [contF_cons] at hcf
              obtain ⟨y, hy⟩ : ∃ y, y = s[k + j] := ⟨_, rfl⟩
              rw [← hy] at hby hcf
              have hy' := hy.symm
              have HCF2 := Hid.mk hcf
              clear hcf hdr hg HCF
              by_cases hc : (bits .and .u8 (y.toNat : Int) 192 != 128) = true
              · have hcn := HCF2.out
                rw [if_pos hc] at hcn
                have hst := HS2.out
                rw [hcn] at hst
                have HE2 := Hid.mk (dec_none (out := []) HE.out hst)
                clear HE hcn hst HS2 HCF2 hy
                go_wp2_with fail
                go_ret2
                exact ⟨Or.inl ⟨HE2.out, rfl⟩, kw⟩
              · have hcn := HCF2.out
                rw [if_neg hc] at hcn
                have HCF3 := Hid.mk hcn
                have hc' : (bits .and .u8 (y.toNat : Int) 192 != 128) = false := by simpa using hc
                clear hcn HCF2 hc hy
                go_wp2_with fail
                go_roundg (n - (j + 1))
                case measure => omega
                case rel => exact ⟨j + 1, joinR r' y, by omega, by omega, by go_num, rfl, HCF3.out, rfl⟩
            · have hjn' : j = n := by omega
              subst hjn'
              have q1 : ¬ (j : Int) < j := by omega
              have hcn := HCF.out
              rw [Nat.sub_self, List.take_zero, contF] at hcn
              have hst := HS2.out
              rw [hcn] at hst
              dsimp only at hst
              have HST := Hid.mk hst
              clear hcn hst HS2 HCF
              cases d1 : decide (r' < lst) with
              | true =>
                have hst := HST.out
                rw [if_neg (by unfold goodR; rw [d1]; simp)] at hst
                have HB := Hid.mk (dec_none (out := []) HE.out hst)
                clear HE HST hst
                go_wp2_with fail
                go_ret2
                exact ⟨Or.inl ⟨HB.out, rfl⟩, kw⟩
              | false =>
                cases d2 : decide (r' > 1114111) with
                | true =>
                  have hst := HST.out
                  rw [if_neg (by unfold goodR; rw [d1, d2]; simp)] at hst
                  have HB := Hid.mk (dec_none (out := []) HE.out hst)
                  clear HE HST hst
                  go_wp2_with fail
                  go_ret2
                  exact ⟨Or.inl ⟨HB.out, rfl⟩, kw⟩
                | false =>
                  cases d3 : decide (55296 ≤ r') with
                  | true =>
                    cases d4 : decide (r' ≤ 57343) with
                    | true =>
                      have hst := HST.out
                      rw [if_neg (by unfold goodR; rw [d1, d2, d3, d4]; simp)] at hst
                      have HB := Hid.mk (dec_none (out := []) HE.out hst)
                      clear HE HST hst
                      go_wp2_with fail
                      go_ret2
                      exact ⟨Or.inl ⟨HB.out, rfl⟩, kw⟩
                    | false =>
                      have hg : goodR r' lst = true := by unfold goodR; rw [d1, d2, d3, d4]; rfl
                      have hst := HST.out
                      rw [if_pos hg] at hst
                      have hds := dec_some HE.out hst
                      have hdr2 : (x :: T).drop j = s.drop (k + j) := by
                        rw [show k + j = k + (j - 1 + 1) by omega, ← Nat.add_assoc, Nat.add_right_comm, ← List.drop_drop, ← HT.out, show j = (j - 1) + 1 by omega, List.drop_succ_cons]
                        rfl
                      have hfu : decF f (s.drop (k + j)) = decF (f + 1 - j) (s.drop (k + j)) := decF_fuel _ _ _ (by rw [List.length_drop]; have := HF.out; omega) (by rw [List.length_drop]; have := HF.out; omega)
                      rw [hdr2, hfu] at hds
                      have HDS := Hid.mk hds
                      have HOL : Hid ((out.map rv).length ≤ 1000) := Hid.mk (by simp; omega)
                      have hw := kw.size
                      clear hst hds hdr2 hfu HE HST hg HT
                      go_wp2_with (at_builtin; refine wpList_app (by rfl) _ _ _ (by rfl) Try.underlying130 inf21 rfl w.heap.size (oo.alloc _) (Sl.one _) (by simp [Value.oneCell']) (by rfl) (by rfl) (by have := HOL.out; simp [maxLen]; omega) (by have := HOL.out; simp; omega) (by simp; omega) ?_; intro v' w' hown' hgr hob)
                      go_roundg (f + 1 - j)
                      case measure => have := HF.out; have := HK.out; omega
                      case rel => exact ⟨k + j, out ++ [r'], by have := HF.out; omega, by go_num, by simp; omega, HDS.out, by rw [List.map_append]; exact hown', (kw.alloc _).grown hgr (fun q hq => (oo.lt q hq).1)⟩
                  | false =>
                    have hg : goodR r' lst = true := by unfold goodR; rw [d1, d2, d3]; rfl
                    have hst := HST.out
                    rw [if_pos hg] at hst
                    have hds := dec_some HE.out hst
                    have hdr2 : (x :: T).drop j = s.drop (k + j) := by
                      rw [show k + j = k + (j - 1 + 1) by omega, ← Nat.add_assoc, Nat.add_right_comm, ← List.drop_drop, ← HT.out, show j = (j - 1) + 1 by omega, List.drop_succ_cons]
                      rfl
                    have hfu : decF f (s.drop (k + j)) = decF (f + 1 - j) (s.drop (k + j)) := decF_fuel _ _ _ (by rw [List.length_drop]; have := HF.out; omega) (by rw [List.length_drop]; have := HF.out; omega)
                    rw [hdr2, hfu] at hds
                    have HDS := Hid.mk hds
                    have HOL : Hid ((out.map rv).length ≤ 1000) := Hid.mk (by simp; omega)
                    have hw := kw.size
                    clear hst hds hdr2 hfu HE HST hg HT
                    go_wp2_with (at_builtin; refine wpList_app (by rfl) _ _ _ (by rfl) Try.underlying130 inf21 rfl w.heap.size (oo.alloc _) (Sl.one _) (by simp [Value.oneCell']) (by rfl) (by rfl) (by have := HOL.out; simp [maxLen]; omega) (by have := HOL.out; simp; omega) (by simp; omega) ?_; intro v' w' hown' hgr hob)
                    go_roundg (f + 1 - j)
                    case measure => have := HF.out; have := HK.out; omega
                    case rel => exact ⟨k + j, out ++ [r'], by have := HF.out; omega, by go_num, by simp; omega, HDS.out, by rw [List.map_append]; exact hown', (kw.alloc _).grown hgr (fun q hq => (oo.lt q hq).1)⟩
    · have i1 : ¬ (k : Int) < s.length := by omega
      have hE := HDD.out
      rw [List.drop_of_length_le (by omega), decF_nil] at hE
      have HE := Hid.mk hE
      clear HDD hE
      go_wp2_with fail
      go_ret2
      exact ⟨Or.inr ⟨out, _, by rw [HE.out]; simp, rfl, oo⟩, kw⟩
end Go.Proofs.Qxb6500767a
