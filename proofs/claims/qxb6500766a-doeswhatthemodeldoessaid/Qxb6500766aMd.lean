/- foldindexm: next. -/
import Derived.Test.Qxb6500766aMb
namespace Go.Proofs.Qxb6500766a
open Go Go.RowKit Go.Qm
set_option linter.unusedVariables false
set_option linter.unusedSimpArgs false
attribute [local go_sem ↓] Go.wp_at_zero Go.wp_at_succ
def mkeyR (d : Int) (r : Row) : Option (List UInt8) := if r.dir = d then keyF r.raw else none
def mstep (d : Int) (after : List UInt8) (acc : Option (List UInt8)) (r : Row) : Option (List UInt8) := match mkeyR d r with
  | none => acc
  | some k => stepK after acc k
def mnextF (d : Int) (after : List UInt8) (rows : List Row) : Option (List UInt8) := rows.foldl (mstep d after) none
theorem mnext_take {d : Int} {after : List UInt8} {rows : List Row} {i : Nat} (hi : i < rows.length) : mnextF d after (rows.take (i + 1)) = mstep d after (mnextF d after (rows.take i)) rows[i] := by
  unfold mnextF
  rw [List.take_succ_eq_append_getElem hi, List.foldl_append]
  rfl
theorem mnext_len {d : Int} {after : List UInt8} : ∀ {rows : List Row} {acc : Option (List UInt8)}, (accK acc).length ≤ 4000 → (accK (rows.foldl (mstep d after) acc)).length ≤ 4000
  | [], acc, h => h
  | r :: l, acc, h => by
    rw [List.foldl_cons]
    refine mnext_len ?_
    unfold mstep
    cases hk : mkeyR d r with
    | none => exact h
    | some k =>
      have hkl : k.length ≤ 4000 := by
        unfold mkeyR at hk
        split at hk
        · exact (keyF_some hk).2.1
        · cases hk
      simp only
      unfold stepK
      split
      · cases acc with
        | none => exact hkl
        | some b =>
          dsimp only
          split
          · exact hkl
          · exact h
      · exact h
section
variable {B : Nat} {fp : Nat → Prop} {w : World} {gm : Nat} {rows : List Row}
set_option maxRecDepth 4000 in
set_option maxHeartbeats 4000000 in
theorem mnext_c (d : Int) (after : List UInt8) (h : MW B fp w gm rows) (hlen : rows.length ≤ 65536) (hnm : ∀ r ∈ rows, r.raw.length ≤ 65536) (ha : after.length ≤ 1000000) :
    Calls Try.prog 38 #[.pointer (some ⟨gm, 0, none⟩), .int .i64 d, str after] w fun e w' => e = .returned (.tuple #[str (accK (mnextF d after rows)), .bool (mnextF d after rows).isSome]) ∧ Keep w w' := by
  obtain ⟨v, Am, RW, hf⟩ := h.ex
  obtain ⟨av, cv, rfl, hcv, hcm, hca⟩ := RW.read
  have HCA := Hid.mk hca
  have HTL : Hid (rows.take rows.length = rows) := Hid.mk List.take_length
  have HMT : Hid (∀ i (hi : i < rows.length), mnextF d after (rows.take (i + 1)) = mstep d after (mnextF d after (rows.take i)) rows[i]) := Hid.mk (fun i hi => mnext_take hi)
  have HML : Hid (∀ i, (accK (mnextF d after (rows.take i))).length ≤ 4000) := Hid.mk (fun i => mnext_len (by simp [accK]))
  have HNM := Hid.mk hnm
  obtain ⟨n, hn⟩ : ∃ n, n = rows.length := ⟨_, rfl⟩
  rw [← hn] at hcv hlen Am
  have HN := Hid.mk hn
  have c0 := Go.Qm.Arr.cell Am 0
  simp only [List.getElem?_cons_zero] at c0
  clear h hn hca RW hf hnm
  go_enter Try.func38, Try.ntmps38
  go_wp2_with fail
  go_loopg [8, 9, 10] n (fun gk bv fv iv wr => ∃ (i : Nat) (acc : Option (List UInt8)), i + gk = n ∧ iv = .int .i64 i ∧ bv = str (accK acc) ∧ fv = .bool acc.isSome ∧ acc = mnextF d after (rows.take i) ∧ Keep w wr)
  case atStart => exact ⟨0, none, by omega, rfl, rfl, rfl, rfl, Keep.refl _⟩
  case round =>
    obtain ⟨i, acc, hi8, rfl, rfl, rfl, hacc, kw⟩ := hrel
    have HI8 := Hid.mk hi8
    have HAC := Hid.mk hacc
    clear hi8 hacc
    have m0 := kw.cell c0
    by_cases hin : i < n
    · have j1 : (i : Int) < n := by omega
      have hir : i < rows.length := by have := HN.out; omega
      obtain ⟨gR, rfl, hgR, hr⟩ := HCA.out i hir
      obtain ⟨r0, r1, r2, r3⟩ := hr wr (kw.block gR hgR)
      have HR := Hid.mk hr
      have HMi := Hid.mk (HMT.out i hir)
      have hrl := HNM.out _ (List.getElem_mem hir)
      have hal : (accK acc).length ≤ 4000 := by rw [HAC.out]; exact HML.out i
      clear hr r3 r1
      generalize rows[i] = r at *
      obtain ⟨rd, rl, rn, rk⟩ := r
      simp only at r0 r2 HMi hrl HR
      have KC := fun W => key_c rn W (by omega)
      go_wp2_with fail
      refine (KC _).mono ?_
      rintro e w2 ⟨hK, k2⟩
      have kw2 := kw.trans k2
      have m2 := kw2.cell c0
      obtain ⟨q0, q1, q2, q3⟩ := HR.out w2 (kw2.block gR hgR)
      clear m0 r0 r2 q1 q2 q3
      by_cases hd : rd = d
      · have t1 : (rd != d) = false := by simpa using hd
        rcases hK with ⟨hK, rfl⟩ | ⟨k, hK, rfl⟩
        · have HE : Hid (acc = mnextF d after (rows.take (i + 1))) := Hid.mk (by rw [HMi.out]; unfold mstep mkeyR; rw [if_pos hd, hK]; exact HAC.out)
          clear hd hK
          go_wp2_with fail
          go_roundg (gk - 1)
          case measure => have := HI8.out; omega
          case rel => exact ⟨i + 1, acc, by have := HI8.out; omega, by go_num, rfl, rfl, HE.out, kw2⟩
        · have hkl := (keyF_some hK).2.1
          have HE : Hid (mnextF d after (rows.take (i + 1)) = stepK after acc k) := Hid.mk (by rw [HMi.out]; unfold mstep mkeyR; rw [if_pos hd, hK, HAC.out])
          have ML := fun W => mless_c after k W ha (by omega)
          have MK := fun b (hb : b.length ≤ 4000) W => mless_c k b W (by omega) (by omega)
          have HMK := Hid.mk MK
          clear hd hK MK
          go_wp2_with fail
          refine (ML _).mono ?_
          rintro e w3 ⟨rfl, k3⟩
          have kw3 := kw2.trans k3
          cases hlt : lessB after k with
          | false =>
            have HE2 : Hid (acc = mnextF d after (rows.take (i + 1))) := Hid.mk (by rw [HE.out]; unfold stepK; rw [if_neg (by simp [hlt])])
            clear hlt
            go_wp2_with fail
            go_roundg (gk - 1)
            case measure => have := HI8.out; omega
            case rel => exact ⟨i + 1, acc, by have := HI8.out; omega, by go_num, rfl, rfl, HE2.out, kw3⟩
          | true =>
            cases acc with
            | none =>
              have HE2 : Hid (some k = mnextF d after (rows.take (i + 1))) := Hid.mk (by rw [HE.out]; unfold stepK; rw [if_pos hlt])
              clear hlt
              go_wp2_with fail
              go_roundg (gk - 1)
              case measure => have := HI8.out; omega
              case rel => exact ⟨i + 1, some k, by have := HI8.out; omega, by go_num, rfl, rfl, HE2.out, kw3⟩
            | some b =>
              have hbl : b.length ≤ 4000 := hal
              have MB := HMK.out b hbl
              have HE2 : Hid (mnextF d after (rows.take (i + 1)) = if lessB k b = true then some k else some b) := Hid.mk (by rw [HE.out]; unfold stepK; rw [if_pos hlt])
              clear hlt
              unfold accK
              simp only [Option.getD_some, Option.isSome_some]
              go_wp2_with fail
              refine (MB _).mono ?_
              rintro e w4 ⟨rfl, k4⟩
              have kw4 := kw3.trans k4
              cases hkb : lessB k b with
              | false =>
                have HE3 : Hid (some b = mnextF d after (rows.take (i + 1))) := Hid.mk (by rw [HE2.out, if_neg (by simp [hkb])])
                clear hkb
                go_wp2_with fail
                go_roundg (gk - 1)
                case measure => have := HI8.out; omega
                case rel => exact ⟨i + 1, some b, by have := HI8.out; omega, by go_num, rfl, rfl, HE3.out, kw4⟩
              | true =>
                have HE3 : Hid (some k = mnextF d after (rows.take (i + 1))) := Hid.mk (by rw [HE2.out, if_pos hkb])
                clear hkb
                go_wp2_with fail
                go_roundg (gk - 1)
                case measure => have := HI8.out; omega
                case rel => exact ⟨i + 1, some k, by have := HI8.out; omega, by go_num, rfl, rfl, HE3.out, kw4⟩
      · have t1 : (rd != d) = true := by simpa using hd
        have HE : Hid (acc = mnextF d after (rows.take (i + 1))) := Hid.mk (by rw [HMi.out]; unfold mstep mkeyR; rw [if_neg hd]; exact HAC.out)
        clear hd
        rcases hK with ⟨hK, rfl⟩ | ⟨k, hK, rfl⟩
        · clear hK
          go_wp2_with fail
          go_roundg (gk - 1)
          case measure => have := HI8.out; omega
          case rel => exact ⟨i + 1, acc, by have := HI8.out; omega, by go_num, rfl, rfl, HE.out, kw2⟩
        · clear hK
          go_wp2_with fail
          go_roundg (gk - 1)
          case measure => have := HI8.out; omega
          case rel => exact ⟨i + 1, acc, by have := HI8.out; omega, by go_num, rfl, rfl, HE.out, kw2⟩
    · have j1 : ¬ (i : Int) < n := by omega
      have hin2 : i = rows.length := by have := HI8.out; have := HN.out; omega
      have HE : Hid (mnextF d after rows = acc) := Hid.mk (by rw [HAC.out, hin2, HTL.out])
      clear hin2
      go_wp2_with fail
      go_ret2
      rw [HE.out]
      exact ⟨rfl, kw⟩
end
end Go.Proofs.Qxb6500766a
