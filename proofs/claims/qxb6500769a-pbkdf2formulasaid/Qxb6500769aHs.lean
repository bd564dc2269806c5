/- digestm: Hash, New, (*Digest).Write, (*Digest).Sum. -/
import Derived.Test.Qxb6500769aMd5
import Derived.Test.Qxb6500769aSha384
import Derived.Test.Qxb6500769aSm
namespace Go.Proofs.Qxb6500769a
open Go.RowKit Go.Qm
set_option linter.unusedVariables false
set_option linter.unusedSimpArgs false
attribute [local go_sem ↓] Go.wp_at_zero Go.wp_at_succ

/-- What digestm.Hash computes. -/
def hsh (h : Nat) (l : List UInt8) : List UInt8 := if h = 1 then md4 l else if h = 2 then md5 l else if h = 3 then sha1 l else if h = 4 then sha256 l else sha384 l
theorem hsh_length (h : Nat) (l : List UInt8) (h1 : 1 ≤ h) (h5 : h ≤ 5) : (hsh h l).length = hsz h := by
  match h, h1, h5 with
  | 1, _, _ => exact spell_length _ _ _ _
  | 2, _, _ => exact spell_length _ _ _ _
  | 3, _, _ => exact be4s_length _ _
  | 4, _, _ => exact out256_length _ _
  | 5, _, _ => exact out384_length _ _
theorem hash_c (h : Nat) (v : Value) (l : List UInt8) (w : World) (hb : Bs w v l) (hl : l.length ≤ 1000000) (h1 : 1 ≤ h) (h5 : h ≤ 5) :
    Calls Try.prog 54 #[.int .i64 h, v] w fun e w' => ∃ v', e = .returned v' ∧ Own w.heap.size 5 w' v' ((hsh h l).map cb) ∧ Keep w w' := by
  go_enter Try.func54, Try.ntmps54
  match h, h1, h5 with
  | 1, _, _ =>
    go_wp2_with fail
    refine (md4_c v l w hb hl).mono ?_
    rintro e w1 ⟨v1, rfl, o1, k1⟩
    go_wp2; go_ret; exact ⟨_, rfl, o1, k1⟩
  | 2, _, _ =>
    go_wp2_with fail
    refine (md5_c v l w hb hl).mono ?_
    rintro e w1 ⟨v1, rfl, o1, k1⟩
    go_wp2; go_ret; exact ⟨_, rfl, o1, k1⟩
  | 3, _, _ =>
    go_wp2_with fail
    refine (sha1_c v l w hb hl).mono ?_
    rintro e w1 ⟨v1, rfl, o1, k1⟩
    go_wp2; go_ret; exact ⟨_, rfl, o1, k1⟩
  | 4, _, _ =>
    go_wp2_with fail
    refine (sha256_c v l w hb hl).mono ?_
    rintro e w1 ⟨v1, rfl, o1, k1⟩
    go_wp2; go_ret; exact ⟨_, rfl, o1, k1⟩
  | 5, _, _ =>
    go_wp2_with fail
    refine (sha384_c v l w hb hl).mono ?_
    rintro e w1 ⟨v1, rfl, o1, k1⟩
    go_wp2; go_ret; exact ⟨_, rfl, o1, k1⟩

theorem s56 : (Try.prog.info? 56).map (·.size) = some 2 := by kernel_rfl
theorem keep_frozen {w w' : World} (h : Keep w w') {a : Addr} {v : Value} (hc : w.cell? a = some v) (hf : w.frozen? a = false) : w'.frozen? a = false := by
  have hlt := World.block_lt_of_cell? w _ hc
  rw [← hf]; unfold World.frozen?; rw [h.block _ hlt]
theorem new_c (h : Nat) (w : World) : Calls Try.prog 55 #[.int .i64 h] w fun e w' => ∃ v', e = .returned (.agg #[.int .i64 h, v']) ∧ Own w.heap.size 5 w' v' (([] : List UInt8).map cb) ∧ Keep w w' := by
  go_enter Try.func55, Try.ntmps55
  go_wp2
  refine bodyPost_ret (v := .agg #[.int .i64 h, .slice (some ⟨w.heap.size + 1, 0, none⟩) 0 0]) ?_ rfl ⟨_, rfl, ?_, ((Keep.refl w).alloc _).alloc _⟩
  · exact results_cell_row (p := 2) (ty := 56) rfl _ _ w.heap.size 56 #[.int .i64 h, .slice (some ⟨w.heap.size + 1, 0, none⟩) 0 0] (0, 0) _ rfl (heap_alloc2_old w _ _) Try.underlying56 rfl s56
  · have := Own.lit (B := w.heap.size) (e := 5) (w := w.alloc (.cells #[.int .i64 h, .slice (some ⟨w.heap.size + 1, 0, none⟩) 0 0] 56)) [] (by simp) (by simp)
    simpa using this

/-- A running digest lies at block g from cell o on. -/
theorem dwrite_c (g o : Nat) (mv pv : Value) (lm lp : List UInt8) (w : World) (hc : w.cell? ⟨g, o + 1, none⟩ = some mv) (hf : w.frozen? ⟨g, o + 1, none⟩ = false) (hm : Bs w mv lm) (hp : Bs w pv lp) (hl : lm.length + lp.length ≤ 1000000) :
    Calls Try.prog 56 #[.pointer (some ⟨g, o, none⟩), pv] w fun e w' => ∃ nv w1, e = .returned (.tuple #[]) ∧ w' = w1.setCell ⟨g, o + 1, none⟩ nv ∧ Own w.heap.size 5 w1 nv ((lm ++ lp).map cb) ∧ Keep w w1 := by
  obtain ⟨a, c, rfl, hac, hcm, hca⟩ := hm.form
  obtain ⟨a', c', rfl, hac', hcm', hca'⟩ := hp.form
  go_enter Try.func56, Try.ntmps56
  go_wp2_with fail
  refine (join_c _ _ lm lp w hm hp (by omega)).mono ?_
  rintro e w1 ⟨nv, rfl, o1, k1⟩
  have hc1 := k1.cell hc
  have hf1 := keep_frozen k1 hc hf
  obtain ⟨a1, c1, he, -⟩ := o1.bs.form
  rw [List.length_append] at he
  subst he
  go_wp2
  go_end0
  exact ⟨_, w1, rfl, rfl, o1, k1⟩
theorem dsum_c (g o h : Nat) (mv : Value) (lm : List UInt8) (w : World) (h1 : 1 ≤ h) (h5 : h ≤ 5) (h0 : w.cell? ⟨g, o, none⟩ = some (.int .i64 h)) (hc : w.cell? ⟨g, o + 1, none⟩ = some mv) (hm : Bs w mv lm) (hl : lm.length ≤ 1000000) :
    Calls Try.prog 57 #[.pointer (some ⟨g, o, none⟩)] w fun e w' => ∃ v', e = .returned v' ∧ Own w.heap.size 5 w' v' ((hsh h lm).map cb) ∧ Keep w w' := by
  obtain ⟨a, c, rfl, hac, hcm, hca⟩ := hm.form
  go_enter Try.func57, Try.ntmps57
  go_wp2_with fail
  go_region_held3 (fun w' => w'.cell? ⟨g, o, none⟩ = some (.int .i64 h) ∧ w'.cell? ⟨g, o + 1, none⟩ = some (.slice a lm.length c)) (first | assumption | exact ⟨h0, hc⟩ | exact ⟨k1.cell h0, k1.cell hc⟩)
    (first | (go_at_call 54; refine (hash_c h _ lm w.drew hm hl h1 h5).mono ?_; rintro e w1 ⟨v1, rfl, o1, k1⟩))
  all_goals
    go_wp2
    go_ret
    exact ⟨_, rfl, o1, (Keep.refl w).drew.trans k1⟩
end Go.Proofs.Qxb6500769a
