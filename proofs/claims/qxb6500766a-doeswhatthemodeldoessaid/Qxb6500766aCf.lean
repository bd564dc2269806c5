/- foldindex: Evict. -/
import Derived.Test.Qxb6500766aCa
import Derived.Test.Qxb6500766aCe
namespace Go.Proofs.Qxb6500766a
open Go.RowKit Go.Qm
set_option linter.unusedVariables false
set_option linter.unusedSimpArgs false
attribute [local go_sem ↓] Go.wp_at_zero Go.wp_at_succ
def shU (sh : List Shelf) (i : Nat) : Bool := (sh.getD i sh0).used
def shD (sh : List Shelf) (i : Nat) : Int := (sh.getD i sh0).dir
theorem seatL_c (gc : Nat) (src : Value) (sh : List Shelf) (tl : List Value) (dir : Int) (w : World) (hA : Arr w gc 75 (cacheL src sh tl)) (hl : sh.length = 16) :
    Calls Try.prog 40 #[.pointer (some ⟨gc, 0, none⟩), .int .i64 dir] w fun e w' => SeatP (shU sh) (shD sh) dir e ∧ w' = w := by
  have g : ∀ i (hi : i < sh.length), sh.getD i sh0 = sh[i] := fun i hi => by rw [List.getD_eq_getElem?_getD, List.getElem?_eq_getElem hi]; rfl
  refine seat_c gc _ _ dir w (fun i hi => ?_) (fun i hi => ?_)
  · unfold shU; rw [g i (by omega)]; exact (Arr.shelf hA (by omega)).1
  · unfold shD; rw [g i (by omega)]; exact (Arr.shelf hA (by omega)).2.1
def EvP (w : World) (gc : Nat) (src : Value) (sh : List Shelf) (tl : List Value) (dir : Int) (e : Ending) (w' : World) : Prop :=
  e = .returned (.int .i64 0) ∧ ∃ sh', Arr w' gc 75 (cacheL src sh' tl) ∧ w.grownBy w' (some gc) ∧
    ((∃ i, i < 16 ∧ shU sh i = true ∧ shD sh i = dir ∧ (∀ j, j < i → ¬ (shU sh j = true ∧ shD sh j = dir)) ∧ sh' = sh.set i sh0) ∨ ((∀ j, j < 16 → ¬ (shU sh j = true ∧ shD sh j = dir)) ∧ sh' = sh))
set_option maxRecDepth 4000 in
set_option maxHeartbeats 1000000 in
theorem evict_c (gc : Nat) (src : Value) (sh : List Shelf) (tl : List Value) (dir : Int) (w : World) (hA : Arr w gc 75 (cacheL src sh tl)) (hl : sh.length = 16) (hd : dirB dir = true) :
    Calls Try.prog 31 #[.pointer (some ⟨gc, 0, none⟩), .int .i64 dir] w fun e w' => EvP w gc src sh tl dir e w' := by
  have VD := validDir_c dir w
  rw [hd] at VD
  have ST := seatL_c gc src sh tl dir w hA hl
  have HL := Hid.mk hl
  clear hl
  go_enter Try.func31, Try.ntmps31
  go_wp2_with fail
  refine VD.mono ?_
  rintro e w1 ⟨rfl, rfl⟩
  go_wp2_with fail
  refine ST.mono ?_
  rintro e w2 ⟨hs, rfl⟩
  rcases hs with ⟨i, hi, rfl, hu, hdi, hf⟩ | ⟨rfl, hf⟩
  · have i1 : (i : Int) ≥ 0 := by omega
    have i2 : (i : Int) < 16 := by omega
    have his : i < sh.length := by have := HL.out; omega
    obtain ⟨c0, c1, c2, c3, c4, c5⟩ := Arr.shelf hA his
    have f0 := Go.Qm.Arr.frozen hA (1 + i * 6)
    have f1 := Go.Qm.Arr.frozen hA (1 + i * 6 + 1)
    have f2 := Go.Qm.Arr.frozen hA (1 + i * 6 + 2)
    have f3 := Go.Qm.Arr.frozen hA (1 + i * 6 + 3)
    have f4 := Go.Qm.Arr.frozen hA (1 + i * 6 + 4)
    have f5 := Go.Qm.Arr.frozen hA (1 + i * 6 + 5)
    have BF := (((((Go.Qm.Arr.set hA (1 + i * 6) (.bool false)).set (1 + i * 6 + 1) (.int .i64 0)).set (1 + i * 6 + 2) (.int .u64 0)).set (1 + i * 6 + 3) (.slice none 0 0)).set (1 + i * 6 + 4) (.int .i64 0)).set (1 + i * 6 + 5) (.int .i64 0)
    have e := cacheL_set src sh tl i his sh0
    have e' : (((((((cacheL src sh tl).set (1 + i * 6) (.bool false)).set (1 + i * 6 + 1) (.int .i64 0)).set (1 + i * 6 + 2) (.int .u64 0)).set (1 + i * 6 + 3) (.slice none 0 0)).set (1 + i * 6 + 4) (.int .i64 0)).set (1 + i * 6 + 5) (.int .i64 0)) = cacheL src (sh.set i sh0) tl := e
    rw [e'] at BF
    have GF := grown_set (grown_set (grown_set (grown_set (grown_set (grown_set (grown_refl w2 (some gc)) (1 + i * 6) (.bool false)) (1 + i * 6 + 1) (.int .i64 0)) (1 + i * 6 + 2) (.int .u64 0)) (1 + i * 6 + 3) (.slice none 0 0)) (1 + i * 6 + 4) (.int .i64 0)) (1 + i * 6 + 5) (.int .i64 0)
    have HU := Hid.mk hu
    have HDI := Hid.mk hdi
    have HFF := Hid.mk hf
    clear e e' hu hdi hf
    generalize sh[i] = X at *
    go_wp2_with fail
    go_ret
    exact ⟨rfl, _, BF, GF, Or.inl ⟨i, hi, HU.out, HDI.out, HFF.out, rfl⟩⟩
  · have HFF := Hid.mk hf
    clear hf
    go_wp2_with fail
    go_ret
    exact ⟨rfl, sh, hA, grown_refl _ _, Or.inr ⟨HFF.out, rfl⟩⟩
theorem evict_bad_c (p : Value) (dir : Int) (w : World) (hd : dirB dir = false) : Calls Try.prog 31 #[p, .int .i64 dir] w fun e w' => e = .returned (.int .i64 1) ∧ w' = w := by
  have VD := validDir_c dir w
  rw [hd] at VD
  go_enter Try.func31, Try.ntmps31
  go_wp2_with fail
  refine VD.mono ?_
  rintro e w1 ⟨rfl, rfl⟩
  go_wp2_with fail
  go_ret
  exact ⟨rfl, rfl⟩
end Go.Proofs.Qxb6500766a
