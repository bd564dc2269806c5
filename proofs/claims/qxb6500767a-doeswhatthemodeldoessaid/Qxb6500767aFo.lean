/- unionvfs: Readdir. -/
import Derived.Test.Qxb6500767aFj
import Derived.Test.Qxb6500767aTt
namespace Go.Proofs.Qxb6500767a
open Go.RowKit Go.Qm
set_option linter.unusedVariables false
set_option linter.unusedSimpArgs false
attribute [local go_sem ↓] Go.wp_at_zero Go.wp_at_succ
/-- The last key of a page, or else the cursor as it was. -/
def lastK (c : List UInt8) (l : List Dir) : List UInt8 := match l.getLast? with | none => c | some x => x.key
theorem lastK_nil (c : List UInt8) : lastK c [] = c := rfl
theorem lastK_get {c : List UInt8} {l : List Dir} {m : Nat} (h : l.length = m + 1) : lastK c l = (l[m]'(by omega)).key := by
  unfold lastK
  have e : l.getLast? = some (l[m]'(by omega)) := by rw [List.getLast?_eq_getElem?, show l.length - 1 = m by omega, List.getElem?_eq_getElem (by omega)]
  rw [e]
/-- Readdir: the handles it leaves, the page, the refusal. -/
def rddF (u : Nat) (hs : List Hd) (T : List Nd) (h m : Int) : List Hd × List Dir × Int :=
  if getOK u hs h 1 = false then (hs, [], 1) else if (hat hs h.toNat).dir = false then (hs, [], 7) else if m < 1 then (hs, [], 2)
  else (hs.set h.toNat { hat hs h.toNat with cur := lastK (hat hs h.toNat).cur (pageF T (at' T (hat hs h.toNat).node).edges (hat hs h.toNat).cur m.toNat) }, pageF T (at' T (hat hs h.toNat).node).edges (hat hs h.toNat).cur m.toNat, 0)
theorem hat_set_self {hs : List Hd} {n : Nat} (hn : n < hs.length) : hs.set n (hat hs n) = hs := by
  unfold hat; rw [List.getD_eq_getElem?_getD, List.getElem?_eq_getElem hn]; exact List.set_getElem_self hn
theorem DirO.last {B : Nat} {w : World} {v : Value} {l : List Dir} {m : Nat} (h : DirO B w v l) (hm : l.length = m + 1) (c : List UInt8) : ∃ g cap, v = .slice (some ⟨g, 0, none⟩) (m + 1) cap ∧ m + 1 ≤ cap ∧ cap ≤ maxLen ∧ w.cell? ⟨g, m * 4, none⟩ = some (str (lastK c l)) := by
  rcases h.form with ⟨-, e⟩ | ⟨g, cap, cur, rfl, -, hA, hc, hmx, -, ht⟩
  · rw [e] at hm; simp at hm
  · refine ⟨g, cap, by rw [hm], by omega, hmx, ?_⟩
    have e := flat_take_get dirC_length ht m 0 (by omega) (by omega)
    rw [hA.cell, ← Nat.add_zero (m * 4), e, lastK_get hm]; rfl
/-- The answer of Readdir: the page is a slice of its own. -/
def RetD (B : Nat) (fp : Nat → Prop) (w : World) (gf gt u : Nat) (T : List Nd) (r : List Hd × List Dir × Int) (e : Ending) (w' : World) : Prop :=
  ∃ v fp', e = .returned (.tuple #[v, .int .i64 r.2.2]) ∧ DirO w.heap.size w' v r.2.1 ∧ VW B fp' w' gf gt u r.1 T ∧ Stp (fpV fp gf) (fpV fp' gf) w w'
set_option maxRecDepth 3000 in
set_option maxHeartbeats 4000000 in
theorem vReaddir_c (B gf gt u : Nat) (h m : Int) (fp : Nat → Prop) (hs : List Hd) (T : List Nd) (w : World) (hV : VW B fp w gf gt u hs T) (hN : HNode u hs T) (ok : TOK T) (hK : ∀ i, i < T.length → ∀ x ∈ (at' T i).edges, x.key.length ≤ 1000000) (hC : ∀ n, n < 32 → (hat hs n).cur.length ≤ 1000000) :
    Calls Try.prog 29 #[.pointer (some ⟨gf, 0, none⟩), .int .i64 h, .int .i64 m] w fun e w' => RetD B fp w gf gt u T (rddF u hs T h m) e w' := by
  have HH := Hid.mk hV
  have GC := get_c gf gt u hs h 1 w hV.fs
  obtain ⟨R, hR⟩ : ∃ R, R = rddF u hs T h m := ⟨_, rfl⟩
  rw [← hR]
  unfold rddF at hR
  unfold getV at GC
  have HN : Hid (∀ W : World, DirO w.heap.size W (.slice none 0 0) []) := Hid.mk (fun W => OwnS.nil _ _ _ _ W)
  cases hok : getOK u hs h 1 with
  | false =>
    rw [if_pos hok] at hR
    rw [if_neg (by rw [hok]; decide)] at GC
    have HV := Hid.mk hR
    clear hR hok hV
    go_enter Try.func29, Try.ntmps29
    go_wp2_with fail
    refine GC.mono ?_
    rintro e w0 ⟨rfl, rfl⟩
    go_wp2_with fail
    go_ret2
    rw [HV.out]
    exact ⟨_, fp, rfl, HN.out _, HH.out, Stp.refl _ _⟩
  | true =>
    rw [if_neg (by rw [hok]; decide)] at hR
    rw [if_pos hok] at GC
    obtain ⟨n, rfl, hn, htb⟩ := getOK_lt hok
    rw [Int.toNat_natCast] at GC hR
    obtain ⟨c0, c1⟩ := hV.fs.head
    obtain ⟨d0, -, d2, -, d4⟩ := hV.fs.cell hn
    cases hdr : (hat hs n).dir with
    | false =>
      rw [if_pos hdr] at hR
      rw [hdr] at d2
      have HV := Hid.mk hR
      clear hR hok hV hdr
      go_enter Try.func29, Try.ntmps29
      go_wp2_with fail
      refine GC.mono ?_
      rintro e w0 ⟨rfl, rfl⟩
      go_wp2_with fail
      go_ret2
      rw [HV.out]
      exact ⟨_, fp, rfl, HN.out _, HH.out, Stp.refl _ _⟩
    | true =>
      rw [if_neg (by rw [hdr]; decide)] at hR
      rw [hdr] at d2
      by_cases hm : m < 1
      · rw [if_pos hm] at hR
        have HV := Hid.mk hR
        clear hR hok hV hdr
        go_enter Try.func29, Try.ntmps29
        go_wp2_with fail
        refine GC.mono ?_
        rintro e w0 ⟨rfl, rfl⟩
        go_wp2_with fail
        go_ret2
        rw [HV.out]
        exact ⟨_, fp, rfl, HN.out _, HH.out, Stp.refl _ _⟩
      · rw [if_neg hm] at hR
        have hnl := hN n hn htb
        have CC := fun W (hk : Keep w W) => page_c gt (hat hs n).node (hat hs n).cur m T W (hV.tree.tr.keep hk) ok hnl (by omega) (hC n hn) (hK _ hnl)
        have HFZ := Hid.mk (fun W (hk : Keep w W) => (hV.fs.keep hk).arr.frozen (2 + n * 5 + 4))
        have HX := Hid.mk (fun W (hk : Keep w W) => (hV.keep hk).cur hn (lastK (hat hs n).cur (pageF T (at' T (hat hs n).node).edges (hat hs n).cur m.toNat)))
        have HE : Hid (pageF T (at' T (hat hs n).node).edges (hat hs n).cur m.toNat = [] → R = (hs, [], 0)) := Hid.mk (fun a => by
          rw [hR, a, lastK_nil]
          have : ({ hat hs n with cur := (hat hs n).cur } : Hd) = hat hs n := rfl
          rw [this, hat_set_self (by rw [hV.fs.len]; exact hn)])
        have HV := Hid.mk hR
        generalize pageF T (at' T (hat hs n).node).edges (hat hs n).cur m.toNat = M at *
        generalize hce : (hat hs n).cur = cu at *
        generalize hne : (hat hs n).node = nd at *
        clear hR hok hV hdr hN hK hC hce hne
        go_enter Try.func29, Try.ntmps29
        go_wp2_with fail
        refine GC.mono ?_
        rintro e w0 ⟨rfl, rfl⟩
        obtain ⟨W0, hW0⟩ : ∃ W0, W0 = w0 := ⟨_, rfl⟩
        subst hW0
        go_upto_region 8 with fail
        go_cut [10] from 27 to 40 (fun pv wx => DirO W0.heap.size wx pv M ∧ Keep W0 wx)
        case first =>
          go_region_held3 (fun W => W.cell? ⟨gf, 0, none⟩ = some (.pointer (some ⟨gt, 0, none⟩)) ∧ W.cell? ⟨gf, 2 + n * 5, none⟩ = some (.int .i64 (nd : Nat)) ∧ W.cell? ⟨gf, 2 + n * 5 + 4, none⟩ = some (str cu))
            (with_reducible first | assumption | exact ⟨c0, d0, d4⟩ | exact ⟨(Keep.refl W0).drew.cell c0, (Keep.refl W0).drew.cell d0, (Keep.refl W0).drew.cell d4⟩ | exact ⟨Q1.cell c0, Q1.cell d0, Q1.cell d4⟩)
            ((go_at_call 83; refine (CC _ (Keep.refl W0).drew).mono ?_; rintro x y ⟨v1, rfl, o1, qq⟩; have Q1 : Keep W0 y := (Keep.refl W0).drew.trans qq))
          go_wp2_with fail
          go_meet
          case rel => exact ⟨o1, Q1⟩
        case rest =>
          obtain ⟨o1, k1⟩ := hcut
          replace d4 := k1.cell d4
          have f4 := HFZ.out _ k1
          obtain ⟨v1, s1⟩ := HX.out _ k1
          have HV1 := Hid.mk v1
          have HS1 := Hid.mk s1
          have HO1 := Hid.mk o1
          have HQ := Hid.mk (HH.out.keep k1)
          cases hl : M.length with
          | zero =>
            have hM : M = [] := List.length_eq_zero_iff.1 hl
            have HR0 := Hid.mk (HE.out hM)
            obtain ⟨a, c, hv, h1, h2⟩ := o1.slice
            rw [hl] at hv h1
            subst hv
            have HM := Hid.mk hM
            clear v1 s1 HX HFZ hl hM CC GC o1
            go_wp2_with fail
            go_ret2
            rw [HR0.out]
            refine ⟨_, fp, rfl, ?_, HQ.out, Stp.keep k1⟩
            have := HO1.out
            rw [HM.out] at this
            exact this
          | succ q =>
            obtain ⟨g, cap, hv, h1, h2, h3⟩ := o1.last hl cu
            subst hv
            have hq : (q : Int) < 9223372036854775807 := by simp [maxLen] at h2; omega
            have i1 : IntKind.i64.wrap ((q : Int) + 1 - 1) = (q : Int) := by rw [IntKind.wrap_i64] <;> omega
            have HL := Hid.mk hl
            have hgf := HH.out.fs.arr.lt
            have HO2 := Hid.mk (o1.fr ((Fr.refl (fun q => q = gf) wc).setCell (p := ⟨gf, 2 + n * 5 + 4, none⟩) (Or.inl rfl) (str (lastK cu M))) (fun b hb e => by have := (o1.lt b hb).1; omega))
            clear hgf v1 s1 HX HFZ hl CC GC o1 HE
            generalize lastK cu M = lk at *
            go_wp2_with fail
            go_ret2
            rw [HV.out]
            exact ⟨_, fp, rfl, HO2.out, HV1.out, (Stp.keep k1).trans HS1.out⟩
end Go.Proofs.Qxb6500767a
