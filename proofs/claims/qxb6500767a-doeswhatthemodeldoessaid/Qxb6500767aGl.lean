/- unionvfslaw: the new world. -/
import Derived.Test.Qxb6500767aGj
namespace Go.Proofs.Qxb6500767a
open Go.RowKit Go.Qm
set_option linter.unusedVariables false
set_option linter.unusedSimpArgs false
attribute [local go_sem ↓] Go.wp_at_zero Go.wp_at_succ
def root0 : Nd := ⟨2, 493, 1, 0, 0, [], []⟩
set_option maxRecDepth 3000 in
theorem treeNew_c (w : World) : Calls Try.prog 33 #[] w fun e w' => ∃ gt fp, e = .returned (.pointer (some ⟨gt, 0, none⟩)) ∧ TreeW w.heap.size fp w' gt [root0] ∧ Keep w w' ∧ (∀ q, fp q → w.heap.size ≤ q) := by
  go_enter Try.func33, Try.ntmps33
  go_wp2_with fail
  go_ret
  have k : Keep w ((w.alloc (.cells #[.int .i64 2, .int .i64 493, .int .i64 1, .int .i64 0, .int .i64 0, .slice none 0 0, .slice none 0 0] 67)).alloc (.cells #[.slice (some ⟨w.heap.size, 0, none⟩) 1 1] 63)) := ((Keep.refl w).alloc _).alloc _
  have a1 : Arr ((w.alloc (.cells #[.int .i64 2, .int .i64 493, .int .i64 1, .int .i64 0, .int .i64 0, .slice none 0 0, .slice none 0 0] 67)).alloc (.cells #[.slice (some ⟨w.heap.size, 0, none⟩) 1 1] 63)) w.heap.size 67 [.int .i64 2, .int .i64 493, .int .i64 1, .int .i64 0, .int .i64 0, .slice none 0 0, .slice none 0 0] := (Arr.new w 67 [.int .i64 2, .int .i64 493, .int .i64 1, .int .i64 0, .int .i64 0, .slice none 0 0, .slice none 0 0]).keep ((Keep.refl _).alloc _)
  have a2 := Arr.new (w.alloc (.cells #[.int .i64 2, .int .i64 493, .int .i64 1, .int .i64 0, .int .i64 0, .slice none 0 0, .slice none 0 0] 67)) 63 [.slice (some ⟨w.heap.size, 0, none⟩) 1 1]
  rw [show (w.alloc (.cells #[.int .i64 2, .int .i64 493, .int .i64 1, .int .i64 0, .int .i64 0, .slice none 0 0, .slice none 0 0] 67)).heap.size = w.heap.size + 1 by simp] at a2
  generalize hW : (w.alloc (.cells #[.int .i64 2, .int .i64 493, .int .i64 1, .int .i64 0, .int .i64 0, .slice none 0 0, .slice none 0 0] 67)).alloc (.cells #[.slice (some ⟨w.heap.size, 0, none⟩) 1 1] 63) = W at *
  have a2' := a2
  have vbn : ∀ i b q, vb [(⟨root0, .slice none 0 0, .slice none 0 0⟩ : Nm)] i b = some q → False := fun i b q hq => by
    have hi := vb_some hq
    have : i = 0 := by simp at hi; omega
    subst this
    cases b <;> simp [vb, vl, Value.ownBlock] at hq
  refine ⟨w.heap.size + 1, FPT (w.heap.size + 1) (.slice (some ⟨w.heap.size, 0, none⟩) 1 1) [⟨root0, .slice none 0 0, .slice none 0 0⟩], rfl, ⟨_, _, ⟨a2', ?_, by simp, ?_, ?_, by omega, ?_, ?_, ?_⟩, rfl, rfl⟩, k, ?_⟩
  · exact OwnS.of (f := nodC) (l := [⟨root0, .slice none 0 0, .slice none 0 0⟩]) nodC_length (Nat.le_refl _) a1 (Nat.le_refl _) (by simp [maxLen]) rfl rfl
  · intro i hi
    have : i = 0 := by simp at hi; omega
    subst this
    exact Dat.of_own (d := []) (World.ownsRow_nil _ _ _ _) _
  · intro i hi
    have : i = 0 := by simp at hi; omega
    subst this
    exact OwnS.nil _ _ _ _ _
  · simp [Value.ownBlock]
  · intro i b q hq; exact (vbn i b q hq).elim
  · intro i j b c q hq; exact (vbn i b q hq).elim
  · intro q hq
    rcases hq with e | e | ⟨i, b, e⟩
    · omega
    · simp [Value.ownBlock] at e; omega
    · exact (vbn i b q e).elim
set_option maxRecDepth 3000 in
theorem fsNew_c (gt : Nat) (w : World) : Calls Try.prog 34 #[.pointer (some ⟨gt, 0, none⟩)] w fun e w' => e = .returned (.pointer (some ⟨w.heap.size, 0, none⟩)) ∧ FSW w' w.heap.size gt 0 (List.replicate 32 hd0) ∧ Keep w w' := by
  go_enter Try.func34, Try.ntmps34
  go_wp2_with fail
  go_ret
  have e : Try.zeroCells111.setIfInBounds 0 (Value.pointer (some ⟨gt, 0, none⟩)) = (fsC gt 0 (List.replicate 32 hd0)).toArray := by kernel_rfl
  rw [e]
  exact ⟨rfl, ⟨Arr.new w 111 _, by simp, by decide⟩, (Keep.refl w).alloc _⟩
/-- Where every run begins. -/
def st0 : Stt := ⟨0, List.replicate 32 hd0, [root0]⟩
set_option maxRecDepth 3000 in
theorem newWorld_c (w : World) : Calls Try.prog 11 #[] w fun e w' => ∃ gw gf gt fp, e = .returned (.pointer (some ⟨gw, 0, none⟩)) ∧ WW w.heap.size fp w' gw gf gt st0 ∧ Keep w w' ∧ w.heap.size ≤ gw := by
  have NC := treeNew_c w
  have FC := fun gt W => fsNew_c gt W
  have HF := Hid.mk FC
  clear FC
  go_enter Try.func11, Try.ntmps11
  go_wp2_with fail
  refine NC.mono ?_
  rintro e w1 ⟨gt, fp, rfl, T1, k1, hfp⟩
  have HT := Hid.mk T1
  clear T1
  go_wp2_with fail
  refine (HF.out gt w1).mono ?_
  rintro e w2 ⟨rfl, F2, k2⟩
  have HF2 := Hid.mk F2
  clear F2 HF
  go_wp2_with fail
  go_ret
  have hlt := HF2.out.arr.lt
  have hs1 := k1.size
  have hs2 := k2.size
  have own := HT.out
  have kA := (Keep.refl w2).alloc (.cells #[.pointer (some ⟨gt, 0, none⟩), .pointer (some ⟨w1.heap.size, 0, none⟩)] 43)
  have fplt : ∀ q, fp q → q < w1.heap.size := fun q hq => (own.own hq).2
  refine ⟨w2.heap.size, w1.heap.size, gt, fp, rfl, ⟨⟨(own.keep k2).keep kA, HF2.out.keep kA, fun a => ?_, by omega⟩, Arr.new w2 43 [.pointer (some ⟨gt, 0, none⟩), .pointer (some ⟨w1.heap.size, 0, none⟩)], fun a => ?_⟩, (k1.trans k2).alloc _, by omega⟩
  · have := fplt _ a; omega
  · rcases a with a | a
    · have := fplt _ a; omega
    · omega
theorem si0 : SI 0 st0.u st0.hs st0.T := by
  have A : ∀ i, at' [root0] i = if i = 0 then root0 else nd0 := fun i => by
    by_cases e : i = 0
    · subst e; rfl
    · rw [if_neg e]; exact at_ge (by simp; omega)
  have C : ∀ n, cnt [root0] n = 0 := fun n => rfl
  have H : ∀ n, hat (List.replicate 32 hd0) n = hd0 := fun n => by
    unfold hat
    rw [List.getD_eq_getElem?_getD]
    by_cases h : n < 32
    · rw [List.getElem?_replicate, if_pos h]; rfl
    · rw [List.getElem?_replicate, if_neg h]; rfl
  have E : ∀ i, (at' [root0] i).edges = [] := fun i => by rw [A]; split <;> rfl
  have P : ∀ i, (at' [root0] i).par = 0 := fun i => by rw [A]; split <;> rfl
  refine ⟨⟨by decide, rfl, rfl, by decide, fun i => ?_, fun i => ?_, fun i => ?_, fun i e he => ?_, fun i hi => ?_, fun i => ?_, fun i e he => ?_, fun i => ?_, fun i => ?_, fun n => ?_, fun i hi => ?_, fun i hi => ?_, fun i _ hi hl h0 => ?_, fun i => ?_, by decide, ⟨1, fun d => ?_⟩⟩, ⟨by simp [st0], by decide, fun n hn hb => ?_, fun i => ?_, fun n hn => ?_, fun n hn => ?_⟩⟩
  · show (at' [root0] i).par < 1; rw [P]; decide
  · left; show (at' [root0] (at' [root0] i).par).kind = 2; rw [P]; rfl
  · show (at' [root0] i).edges.length ≤ 0; rw [E]; exact Nat.le_refl _
  · have he' : e ∈ (at' [root0] i).edges := he
    rw [E] at he'; simp at he'
  · have hi' : (at' [root0] i).kind = 3 := hi
    rw [A] at hi'; split at hi' <;> cases hi'
  · show (at' [root0] i).kind ≤ 3; rw [A]; split <;> decide
  · have he' : e ∈ (at' [root0] i).edges := he
    rw [E] at he'; simp at he'
  · show (at' [root0] i).edges.Pairwise _; rw [E]; exact List.Pairwise.nil
  · show (at' [root0] i).links ≤ 0 + 1; rw [A]; split <;> decide
  · show cnt [root0] n + _ ≤ (at' [root0] n).links
    rw [C, A]
    split <;> decide
  · exact absurd (E i) hi
  · show (at' [root0] i).links ≤ 1; rw [A]; split <;> decide
  · have hi' : (at' [root0] i).kind = 2 := hi
    rw [A, if_neg h0] at hi'; cases hi'
  · show (at' [root0] i).kind = 0 ↔ ((at' [root0] i).links = 0 ∧ (at' [root0] i).opens = 0)
    rw [A]; split <;> decide
  · exact Or.inr (P d)
  · simp [st0] at hb
  · show (at' [root0] i).opens = hcnt 0 (List.replicate 32 hd0) i
    have h1 : (at' [root0] i).opens = 0 := by rw [A]; split <;> rfl
    rw [h1]
    unfold hcnt
    rw [List.countP_eq_zero.2 (fun n _ => by unfold hol; simp)]
  · show (hat (List.replicate 32 hd0) n).off ≤ _; rw [H]; decide
  · show (hat (List.replicate 32 hd0) n).cur.length ≤ _; rw [H]; decide
end Go.Proofs.Qxb6500767a
