/- foldkeym: pair; expand. -/
import Derived.Test.Qxb6500767aKb
import Derived.Test.Qxb6500767aMx
import Derived.Deep.CutRange
import Derived.Deep.LoopGhost
namespace Go.Proofs.Qxb6500767a
open Go.RowKit Go.Qm
set_option linter.unusedVariables false
set_option linter.unusedSimpArgs false
attribute [local go_sem ↓] Go.wp_at_zero Go.wp_at_succ

theorem rowC_length (r : Int × Int × Int) : (rowC r).length = 3 := rfl
theorem MapV.cells {w : World} {g : Nat} (hg : w.heap[g]? = some (.cells tblC.toArray 141 (0, 0))) (i : Nat) (hi : i < 55) :
    w.cell? ⟨g, i * 3, none⟩ = some (.int .i32 (tbl.getD i (0, 0, 0)).1) ∧ w.cell? ⟨g, i * 3 + 1, none⟩ = some (.int .i32 (tbl.getD i (0, 0, 0)).2.1) ∧ w.cell? ⟨g, i * 3 + 2, none⟩ = some (.int .i32 (tbl.getD i (0, 0, 0)).2.2) := by
  have hl : i < tbl.length := by rw [tbl_length]; exact hi
  have e : tbl.getD i (0, 0, 0) = tbl[i] := by rw [List.getD_eq_getElem?_getD, List.getElem?_eq_getElem hl]; rfl
  rw [e]
  refine ⟨?_, ?_, ?_⟩
  · have h := flat_get rowC 3 rowC_length tbl i 0 hl (by omega)
    rw [Nat.add_zero] at h
    exact (blk_cell hg _).trans h
  · exact (blk_cell hg _).trans (flat_get rowC 3 rowC_length tbl i 1 hl (by omega))
  · exact (blk_cell hg _).trans (flat_get rowC 3 rowC_length tbl i 2 hl (by omega))
theorem tbl_drop {k : Nat} (h : k < 55) : tbl.drop k = tbl.getD k (0, 0, 0) :: tbl.drop (k + 1) := by
  have hl : k < tbl.length := by rw [tbl_length]; exact h
  rw [List.drop_eq_getElem_cons hl, List.getD_eq_getElem?_getD, List.getElem?_eq_getElem hl]
  rfl
/-- The first row with these two. -/
def pairF (a b : Int) : List (Int × Int × Int) → Int × Bool
  | [] => (0, false)
  | r :: l => if r.2.1 = a ∧ r.2.2 = b ∧ b ≠ 0 then (r.1, true) else pairF a b l
set_option maxHeartbeats 1000000 in
theorem pair_c (v : Value) (a b : Int) (w : World) (h : MapV w v) : Calls Try.prog 107 #[v, .int .i32 a, .int .i32 b] w fun e w' => e = .returned (.tuple #[.int .i32 (pairF a b tbl).1, .bool (pairF a b tbl).2]) ∧ w' = w := by
  obtain ⟨g, rfl, hg⟩ := h
  go_enter Try.func107, Try.ntmps107
  go_wp2_with fail
  go_loopw [8] (fun iv wr => ∃ k : Nat, k ≤ 55 ∧ iv = .int .i64 k ∧ pairF a b tbl = pairF a b (tbl.drop k) ∧ wr = w) (fun i _ => 55 - (intOf i).toNat)
  case atStart => exact ⟨0, by omega, rfl, rfl, rfl⟩
  case round =>
    obtain ⟨k, h1, rfl, hp, rfl⟩ := hrel
    have HP := Hid.mk hp
    clear hp
    by_cases hlt : k < 55
    · have i1 : (k : Int) < 55 := by omega
      have hd := Hid.mk (tbl_drop hlt)
      obtain ⟨c0, c1, c2⟩ := MapV.cells hg k hlt
      obtain ⟨⟨r0, r1, r2⟩, hr⟩ : ∃ r, r = tbl.getD k (0, 0, 0) := ⟨_, rfl⟩
      rw [← hr] at c0 c1 c2 hd
      simp only at c0 c1 c2
      clear hr hg
      have HPD := Hid.mk (HP.out)
      rw [hd.out, pairF] at HPD
      simp only at HPD
      clear HP hd
      by_cases e1 : r1 = a
      · by_cases e2 : r2 = b
        · by_cases e3 : b = 0
          · have y1 : (r1 == a) = true := by simpa using e1
            have y2 : (r2 == b) = true := by simpa using e2
            have y3 : (b != 0) = false := by simpa using e3
            rw [if_neg (by simp [e3])] at HPD
            clear e1 e2 e3
            go_wp2_with fail
            go_roundw
            case rel => exact ⟨k + 1, by omega, by go_num, HPD.out, trivial⟩
            case measure => simp [intOf]; omega
          · have y1 : (r1 == a) = true := by simpa using e1
            have y2 : (r2 == b) = true := by simpa using e2
            have y3 : (b != 0) = true := by simpa using e3
            rw [if_pos ⟨e1, e2, e3⟩] at HPD
            clear e1 e2 e3
            go_wp2_with fail
            go_ret2
            rw [HPD.out]
            exact ⟨rfl, rfl⟩
        · have y1 : (r1 == a) = true := by simpa using e1
          have y2 : (r2 == b) = false := by simpa using e2
          rw [if_neg (by simp [e2])] at HPD
          clear e1 e2
          go_wp2_with fail
          go_roundw
          case rel => exact ⟨k + 1, by omega, by go_num, HPD.out, trivial⟩
          case measure => simp [intOf]; omega
      · have y1 : (r1 == a) = false := by simpa using e1
        rw [if_neg (by simp [e1])] at HPD
        clear e1
        go_wp2_with fail
        go_roundw
        case rel => exact ⟨k + 1, by omega, by go_num, HPD.out, trivial⟩
        case measure => simp [intOf]; omega
    · have hk : k = 55 := by omega
      subst hk
      have HPD : Hid (pairF a b tbl = (0, false)) := HP
      clear HP
      go_wp2_with fail
      go_ret2
      rw [HPD.out]
      exact ⟨rfl, rfl⟩
/-- The row of r. -/
def rowF (r : Int) : List (Int × Int × Int) → Option (Int × Int)
  | [] => none
  | q :: l => if q.1 = r then some q.2 else rowF r l
abbrev rv (x : Int) : Value := .int .i32 x
theorem z21 : (Try.prog.info? 21).map (fun i => (i.zero, i.size, i.bytes)) = some (some (.int .i32 0), 1, 4) := by kernel_rfl
theorem inf21 : (Try.prog.info? 21).map (fun i => (i.zero, i.size, i.bytes)) = some (some (.int .i32 0), 1, 4) := z21
/-- expand of r gives l. -/
def ExpC (r : Int) (l : List Int) : Prop := ∀ W v, MapV W v → Calls Try.prog 101 #[v, .int .i32 r] W fun e w' => ∃ v', e = .returned v' ∧ Own W.heap.size 21 w' v' (l.map rv) ∧ Keep W w'
theorem rv_one (l : List Int) : ∀ u ∈ l.map rv, u.oneCell' = true := by
  intro u hu
  obtain ⟨_, _, rfl⟩ := List.mem_map.1 hu
  rfl
set_option maxHeartbeats 1000000 in
theorem expand_step (r : Int) (l : List Int) (hn : rowF r tbl = none → l = [r]) (hs : ∀ f s, rowF r tbl = some (f, s) → ∃ lf ls, ExpC f lf ∧ (s ≠ 0 → ExpC s ls) ∧ lf.length ≤ 1000 ∧ ls.length ≤ 1000 ∧ l = if s = 0 then lf else lf ++ ls) : ExpC r l := by
  intro w v h
  obtain ⟨g, rfl, hg⟩ := h
  have HN := Hid.mk hn
  have HS := Hid.mk hs
  clear hn hs
  go_enter Try.func101, Try.ntmps101
  go_wp2_with fail
  go_loopw [5] (fun iv wr => ∃ k : Nat, k ≤ 55 ∧ iv = .int .i64 k ∧ rowF r tbl = rowF r (tbl.drop k) ∧ wr = w) (fun i _ => 55 - (intOf i).toNat)
  case atStart => exact ⟨0, by omega, rfl, rfl, rfl⟩
  case round =>
    obtain ⟨k, h1, rfl, hp, rfl⟩ := hrel
    have HP := Hid.mk hp
    clear hp
    by_cases hlt : k < 55
    · have i1 : (k : Int) < 55 := by omega
      have hd := Hid.mk (tbl_drop hlt)
      have CC := fun W (hW : Keep wr W) => MapV.cells (hW.heap hg) k hlt
      obtain ⟨⟨r0, r1, r2⟩, hr⟩ : ∃ r, r = tbl.getD k (0, 0, 0) := ⟨_, rfl⟩
      rw [← hr] at CC hd
      simp only at CC
      obtain ⟨c0, c1, c2⟩ := CC wr (Keep.refl wr)
      clear hr
      have HPD := Hid.mk (HP.out)
      rw [hd.out, rowF] at HPD
      simp only at HPD
      clear HP hd
      by_cases e1 : r0 = r
      · have y1 : (r0 == r) = true := by simpa using e1
        rw [if_pos e1] at HPD
        obtain ⟨lf, ls, hf, hs, hlf, hls, hl⟩ := HS.out r1 r2 HPD.out
        have HL := Hid.mk hl
        have hfc := fun W (hW : Keep wr W) => hf W _ ⟨g, rfl, hW.heap hg⟩
        have HLF := Hid.mk hlf
        have HLS := Hid.mk hls
        clear e1 hl hf hlf hls
        by_cases e2 : r2 = 0
        · have y2 : (r2 != 0) = false := by simpa using e2
          rw [if_pos e2] at HL
          clear e2 hs
          go_wp2_with fail
          refine (hfc _ (Keep.refl _)).mono ?_
          rintro e w1 ⟨v1, rfl, o1, k1⟩
          have c2 := (CC _ k1).2.2
          go_wp2_with fail
          go_ret
          rw [HL.out]
          exact ⟨_, rfl, o1, k1⟩
        · have y2 : (r2 != 0) = true := by simpa using e2
          rw [if_neg e2] at HL
          have hsc := fun W (hW : Keep wr W) => hs e2 W _ ⟨g, rfl, hW.heap hg⟩
          clear e2 hs
          go_wp2_with fail
          refine (hfc _ (Keep.refl _)).mono ?_
          rintro e w1 ⟨v1, rfl, o1, k1⟩
          have c2 := (CC _ k1).2.2
          go_wp2_with fail
          refine (hsc _ k1).mono ?_
          rintro e w2 ⟨v2, rfl, o2, k2⟩
          have o1' := o1.keep k2
          have hsz := (k1.trans k2).size
          go_wp2_with (at_builtin; refine wpList_app (by rfl) _ _ _ (by rfl) Try.underlying130 inf21 rfl wr.heap.size o1' o2.sl (rv_one _) (by rfl) (by rfl) (by have := HLF.out; have := HLS.out; simp [maxLen]; omega) (by have := HLF.out; have := HLS.out; simp; omega) hsz ?_; intro v' w' hown' hgr hob)
          go_ret
          rw [HL.out, List.map_append]
          refine ⟨_, rfl, hown', (k1.trans k2).grown hgr (fun q hq => (o1'.lt q hq).1)⟩
      · have y1 : (r0 == r) = false := by simpa using e1
        rw [if_neg e1] at HPD
        clear e1
        go_wp2_with fail
        go_roundw
        case rel => exact ⟨k + 1, by omega, by go_num, HPD.out, trivial⟩
        case measure => simp [intOf]; omega
    · have hk : k = 55 := by omega
      subst hk
      have HL := Hid.mk (HN.out HP.out)
      clear HP
      go_wp2_with fail
      go_ret
      rw [HL.out]
      exact ⟨_, rfl, Own.lit [rv r] (Nat.le_refl _) (by simp [maxLen]), (Keep.refl _).alloc _⟩
def expF : Nat → Int → List Int
  | 0, r => [r]
  | n + 1, r => match rowF r tbl with
    | none => [r]
    | some (f, s) => if s = 0 then expF n f else expF n f ++ expF n s
theorem rowF_mem (r : Int) : ∀ (l : List (Int × Int × Int)) (x : Int × Int), rowF r l = some x → ∃ q ∈ l, q.2 = x
  | [], x, h => by simp [rowF] at h
  | q :: l, x, h => by
    rw [rowF] at h
    split at h
    · exact ⟨q, by simp, by simpa using h⟩
    · obtain ⟨q', hq, e⟩ := rowF_mem r l x h
      exact ⟨q', by simp [hq], e⟩
theorem tbl_flat : ∀ q ∈ tbl, rowF q.2.2 tbl = none ∧ (rowF q.2.1 tbl = none ∨ rowF q.2.1 tbl = some (65, 778)) := by decide +kernel
theorem tbl_two : rowF 65 tbl = none ∧ rowF 778 tbl = none := by decide +kernel
theorem expF_none {r : Int} (h : rowF r tbl = none) : ∀ n, expF n r = [r]
  | 0 => rfl
  | n + 1 => by rw [expF, h]
theorem exp_none (r : Int) (h : rowF r tbl = none) : ExpC r [r] := expand_step r [r] (fun _ => rfl) (fun f s e => by rw [h] at e; cases e)
theorem exp_one (r f s : Int) (h : rowF r tbl = some (f, s)) (hf : rowF f tbl = none) (hs : rowF s tbl = none) (n : Nat) : ExpC r (expF (n + 1) r) ∧ (expF (n + 1) r).length ≤ 2 := by
  have e : expF (n + 1) r = if s = 0 then [f] else [f] ++ [s] := by rw [expF, h]; simp only; rw [expF_none hf, expF_none hs]
  rw [e]
  refine ⟨expand_step r _ (fun e => by rw [h] at e; cases e) ?_, by split <;> simp⟩
  intro f' s' e'
  rw [h] at e'
  cases e'
  exact ⟨[f], [s], exp_none f hf, fun _ => exp_none s hs, by simp, by simp, rfl⟩
theorem expand_all (r : Int) : ExpC r (expF 2 r) ∧ (expF 2 r).length ≤ 3 ∧ expF 2 r ≠ [] := by
  cases h : rowF r tbl with
  | none => rw [expF_none h]; exact ⟨exp_none r h, by simp, by simp⟩
  | some x =>
    obtain ⟨f, s⟩ := x
    obtain ⟨q, hq, e⟩ := rowF_mem r tbl _ h
    obtain ⟨t1, t2⟩ := tbl_flat q hq
    rw [e] at t1 t2
    simp only at t1 t2
    rcases t2 with t2 | t2
    · have e : expF 2 r = if s = 0 then [f] else [f] ++ [s] := by rw [expF, h]; simp only; rw [expF_none t2, expF_none t1]
      obtain ⟨a, b⟩ := exp_one r f s h t2 t1 1
      refine ⟨a, Nat.le_trans b (by omega), ?_⟩
      rw [e]; split <;> simp
    · obtain ⟨a, b⟩ := exp_one f 65 778 t2 tbl_two.1 tbl_two.2 0
      have e : expF 2 r = if s = 0 then expF 1 f else expF 1 f ++ [s] := by rw [expF, h]; simp only; rw [expF_none t1]
      have e1 : expF 1 f = [65, 778] := by rw [expF, t2]; simp only; rw [if_neg (by omega)]; rfl
      rw [e]
      refine ⟨expand_step r _ (fun e => by rw [h] at e; cases e) ?_, ?_, ?_⟩
      · intro f' s' e'
        rw [h] at e'
        cases e'
        exact ⟨expF 1 f, [s], a, fun _ => exp_none s t1, Nat.le_trans b (by omega), by simp, rfl⟩
      · rw [e1]; split <;> simp
      · rw [e1]; split <;> simp
end Go.Proofs.Qxb6500767a
