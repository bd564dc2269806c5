/- blast: the inputs of the circuit; blocks that come to those that may be written. -/
import Derived.Test.Qxb6500772aDd
import Derived.Test.Qxb6500772aDn
import Derived.Test.Qxb6500772aHa
import Derived.Test.Qxb6500772aMg
namespace Go.Proofs.Qxb6500772a
open Go.RowKit Go.Qm
set_option linter.unusedVariables false
set_option linter.unusedSimpArgs false
attribute [local go_sem ↓] Go.wp_at_zero Go.wp_at_succ
section
variable {B : Nat} {X P Y Z : Nat → Prop} {w w' : World} {gB : Nat} {cv : Value} {gc : Nat} {gv gv' : Value} {G G' : List Gate} {n n' k : Nat}
theorem BS.stepN (h : BS B X P w gB cv gc gv G n) (hY : ∀ q, Y q → X q) (c : CC B X w' gc gv' G' n') (s : SY Y gc gv gv' w w') (e : Ext k G G') : BS B X P w' gB cv gc gv' G' n' := by
  refine ⟨c, e.wf, fun q a => ⟨Nat.lt_of_lt_of_le (h.hx q a).1 s.size, fun b => ?_, (h.hx q a).2.2⟩, fun q a => ⟨Nat.lt_of_lt_of_le (h.hp q a).1 s.size, fun b => ?_⟩, s.fr.arr (fun a => ?_) h.bl, h.pb⟩
  · rcases s.nw q b with d | d
    · exact (h.hx q a).2.1 d
    · have := (h.hx q a).1; omega
  · rcases s.nw q b with d | d
    · exact (h.hp q a).2 d
    · have := (h.hp q a).1; omega
  · rcases a with a | a
    · exact (h.hp gB h.pb).2 a
    · exact (h.hx gB (hY gB a)).2.2 h.pb
/-- Blocks of X are written, new ones come to them. -/
theorem BS.moreF (h : BS B X P w gB cv gc gv G n) (f : Fr Y w w') (hY : ∀ q, Y q → X q) (hZ : ∀ q, Z q → X q ∨ (w.heap.size ≤ q ∧ q < w'.heap.size)) : BS B Z P w' gB cv gc gv G n := by
  have c : CC B (upX X w) w' gc gv G n := h.cc.top.fr f (fun q a => ⟨(h.hx q (hY q a)).2.1, Or.inl (hY q a)⟩)
  have h2 : BS B X P w' gB cv gc gv G n := h.stepY (Y := Y) hY (c.weak (fun q a => Or.inl a)) ⟨f.mono (fun q _ a => Or.inr a), fun q a => Or.inl a⟩ (Ext.refl h.wf)
  refine ⟨c.weak (fun q a => (hZ q a).imp id And.left), h2.wf, fun q a => ?_, h2.hp, h2.bl, h2.pb⟩
  rcases hZ q a with b | b
  · exact h2.hx q b
  · refine ⟨b.2, fun d => ?_, fun d => ?_⟩
    · have := (h.cc.flt d).2; omega
    · have := (h.hp q d).1; omega
theorem WO.moreF {v : Value} {l : List Nat} (h : WO (fpX gc gv X) w v l) (f : Fr Y w w') (hY : ∀ q, Y q → X q) (hZ : ∀ q, Z q → X q ∨ w.heap.size ≤ q) : WO (fpX gc gv Z) w' v l :=
  ⟨h.wd.fr f (fun q hq => ⟨fun a => (h.nb q hq).1 (Or.inr (hY q a)), (h.nb q hq).2⟩), fun q hq => ⟨fun a => by
      rcases a with a | a
      · exact (h.nb q hq).1 (Or.inl a)
      · rcases hZ q a with b | b
        · exact (h.nb q hq).1 (Or.inr b)
        · have := (h.nb q hq).2; omega, Nat.lt_of_lt_of_le (h.nb q hq).2 f.size⟩⟩
/-- One more input of the circuit. -/
theorem input_k (h : BS B X P w gB cv gc gv G n) (hl : G.length ≤ 700000000) (hn : n ≤ 1000000) : Calls Try.prog 62 #[.pointer (some ⟨gc, 0, none⟩)] w fun e w' => ∃ gv', e = .returned (.int .i64 ((G.length : Nat) : Int)) ∧ BS B X P w' gB cv gc gv' (G ++ [gIn n]) (n + 1) ∧ Stp (fpC gc gv) (fpC gc gv') w w' ∧ Ext 1 G (G ++ [gIn n]) ∧ Bt (G ++ [gIn n]) G.length (fun inp => inp n) := by
  refine (input_c h.cc (by omega) (by omega)).mono ?_
  rintro e w' ⟨gv', rfl, c, s⟩
  have hg : GOK G (gIn n) := by constructor <;> (intros; simp_all [gIn])
  have e := Ext.add h.wf hg
  exact ⟨gv', rfl, h.stepN (Y := fun _ => False) (fun _ a => a.elim) c (SY.of s) e, s, e, Bt.new (fun inp => rfl)⟩
end
/-- A new circuit. -/
def g0 : Gate := ⟨0, 0, 0, 0, [], []⟩
theorem wfg0 : WFG [g0] := ⟨fun g hg => by
  rw [List.mem_singleton.1 hg]
  constructor <;> (intros; simp_all [g0]), by decide, fun inp => rfl⟩
theorem new_c (w : World) (B : Nat) (hB : B ≤ w.heap.size) : Calls Try.prog 25 #[] w fun e w' => ∃ gc gv, e = .returned (.pointer (some ⟨gc, 0, none⟩)) ∧ CC B (fun _ => False) w' gc gv [g0] 0 ∧ Keep w w' ∧ w.heap.size ≤ gc ∧ ∀ q, fpC gc gv q → w.heap.size ≤ q := by
  go_enter Try.func25, Try.ntmps25
  go_wp2_with fail
  go_ret
  have k1 : Keep w (w.alloc (.cells (gateC (g0, .slice none 0 0, .slice none 0 0)).toArray 103)) := (Keep.refl w).alloc _
  have a1 : Arr (w.alloc (.cells (gateC (g0, .slice none 0 0, .slice none 0 0)).toArray 103)) w.heap.size 103 (gateC (g0, .slice none 0 0, .slice none 0 0)) := Arr.new w 103 _
  generalize hw1 : w.alloc (.cells (gateC (g0, .slice none 0 0, .slice none 0 0)).toArray 103) = w1 at *
  have hsz : w1.heap.size = w.heap.size + 1 := by rw [← hw1]; simp
  have a2 : Arr (w1.alloc (.cells #[.slice (some ⟨w.heap.size, 0, none⟩) 1 1, .int .i64 0] 101)) (w.heap.size + 1) 101 [.slice (some ⟨w.heap.size, 0, none⟩) 1 1, .int .i64 0] := by rw [← hsz]; exact Arr.new w1 101 _
  have k2 : Keep w1 (w1.alloc (.cells #[.slice (some ⟨w.heap.size, 0, none⟩) 1 1, .int .i64 0] 101)) := (Keep.refl w1).alloc _
  refine ⟨w.heap.size + 1, .slice (some ⟨w.heap.size, 0, none⟩) 1 1, rfl, ⟨[(g0, .slice none 0 0, .slice none 0 0)], ⟨?_, ?_, ?_, ?_, by omega⟩, rfl, ?_⟩, ?_, by omega, ?_⟩
  · show Arr (World.alloc (w.alloc (.cells (gateC (g0, .slice none 0 0, .slice none 0 0)).toArray 103)) _) _ _ _
    rw [hw1]; exact a2
  · show OwnS gateC 6 103 B (World.alloc (w.alloc (.cells (gateC (g0, .slice none 0 0, .slice none 0 0)).toArray 103)) _) _ _
    rw [hw1]
    exact OwnS.of (f := gateC) (sz := 6) (l := [(g0, .slice none 0 0, .slice none 0 0)]) gateC_len hB (a1.keep k2) (Nat.le_refl _) (by simp [maxLen]) rfl rfl
  · intro r hr
    rw [List.mem_singleton.1 hr]
    exact ⟨(WO.nil (fun _ => False) _).wd, (WO.nil (fun _ => False) _).wd, fun q hq => by simp [Value.ownBlock] at hq, fun q hq => by simp [Value.ownBlock] at hq⟩
  · simp [Value.ownBlock]
  · intro r hr q _; exact id
  · show Keep w (World.alloc (w.alloc (.cells (gateC (g0, .slice none 0 0, .slice none 0 0)).toArray 103)) _)
    rw [hw1]; exact k1.trans k2
  · intro q hq
    rcases hq with rfl | hq
    · omega
    · have := Option.some.inj hq
      simp at this
      omega
theorem numInputs_c {B : Nat} {X : Nat → Prop} {w : World} {gc : Nat} {gv : Value} {G : List Gate} {n : Nat} (h : CC B X w gc gv G n) : Calls Try.prog 17 #[.pointer (some ⟨gc, 0, none⟩)] w fun e w' => e = .returned (.int .i64 (n : Nat)) ∧ w' = w := by
  obtain ⟨R, h, -, -⟩ := h
  have x1 : w.cell? ⟨gc, 1, none⟩ = some (.int .i64 (n : Nat)) := h.arr.cell 1
  go_enter Try.func17, Try.ntmps17
  go_wp2_with fail
  go_ret
  exact ⟨rfl, rfl⟩
/-- A pin in memory. -/
def pinVC (p : PinV) : List Value := [.int .i64 (p.1 : Nat), .int .i64 p.2.1, .int .i64 (p.2.2 : Nat)]
theorem pinVC_len (p : PinV) : (pinVC p).length = 3 := rfl
theorem pinVC_one (p : PinV) : ∀ u ∈ pinVC p, u.oneCell' = true := by intro u hu; simp [pinVC] at hu; rcases hu with rfl | rfl | rfl <;> rfl
theorem inf67 : (Try.prog.info? 67).map (fun i => (i.zero, i.size, i.bytes)) = some (some (.agg (pinVC (0, 0, 0)).toArray), 3, 24) := by kernel_rfl
end Go.Proofs.Qxb6500772a
