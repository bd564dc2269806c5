/- circuitm: Mux, Input, NotW. -/
import Derived.Test.Qxb6500772aCc
import Derived.Deep.LoopGhost
namespace Go.Proofs.Qxb6500772a
open Go.RowKit Go.Qm
set_option linter.unusedVariables false
set_option linter.unusedSimpArgs false
attribute [local go_sem ↓] Go.wp_at_zero Go.wp_at_succ
/-- Mux: the gates it adds. -/
def muxG (m s a b : Nat) : List Gate := [gAnd s a, gNot s, gAnd (m + 1) b] ++ orG (m + 3) m (m + 2)
theorem muxG_len (m s a b : Nat) : (muxG m s a b).length = 7 := rfl
section
variable {B gc n : Nat} {X : Nat → Prop} {gv : Value} {G : List Gate} {w : World}
theorem mux_c (h : CC B X w gc gv G n) (s a b : Nat) (hl : G.length ≤ 800000000) : Calls Try.prog 100 #[.pointer (some ⟨gc, 0, none⟩), .int .i64 (s : Nat), .int .i64 (a : Nat), .int .i64 (b : Nat)] w fun e w' => RetG B X gc gv w (G ++ muxG G.length s a b) n (.returned (.int .i64 ((G.length + 6 : Nat) : Int))) e w' := by
  have N1 := and_c h s a (by omega)
  have HL : Hid (G.length ≤ 800000000) := Hid.mk hl
  clear hl
  go_enter Try.func100, Try.ntmps100
  go_wp2_with fail
  refine N1.mono ?_
  rintro e w1 ⟨g1, rfl, c1, s1⟩
  have N2 := not_c c1 s (by have := HL.out; simp; omega)
  simp only [List.length_append, List.length_singleton] at N2
  go_wp2_with fail
  refine N2.mono ?_
  rintro e w2 ⟨g2, rfl, c2, s2⟩
  have N3 := and_c c2 (G.length + 1) b (by have := HL.out; simp; omega)
  simp only [List.length_append, List.length_singleton] at N3
  go_wp2_with fail
  refine N3.mono ?_
  rintro e w3 ⟨g3, rfl, c3, s3⟩
  have N4 := or_c c3 G.length (G.length + 1 + 1) (by have := HL.out; simp; omega)
  simp only [List.length_append, List.length_singleton] at N4
  go_wp2_with fail
  refine N4.mono ?_
  rintro e w4 ⟨g4, rfl, c4, s4⟩
  go_wp2_with fail
  go_ret
  refine ⟨g4, rfl, ?_, ((s1.trans s2).trans s3).trans s4⟩
  simpa [muxG, List.append_assoc] using c4
theorem input_c (h : CC B X w gc gv G n) (hl : G.length ≤ 1000000000) (hn : n ≤ 1000000000) : Calls Try.prog 62 #[.pointer (some ⟨gc, 0, none⟩)] w fun e w' => RetG B X gc gv w (G ++ [gIn n]) (n + 1) (.returned (.int .i64 (G.length : Nat))) e w' := by
  obtain ⟨R, h, rfl, hM⟩ := h
  have x1 : w.cell? ⟨gc, 1, none⟩ = some (.int .i64 (n : Nat)) := h.arr.cell 1
  have f1 := h.arr.frozen 1
  have kS : Fr (fun q => q = gc) w (w.setCell ⟨gc, 1, none⟩ (.int .i64 ((n + 1 : Nat) : Int))) := Fr.setCell (p := ⟨gc, 1, none⟩) (Fr.refl (fun q => q = gc) w) (Or.inl rfl) _
  have st : Stp (fpC gc gv) (fpC gc gv) w (w.setCell ⟨gc, 1, none⟩ (.int .i64 ((n + 1 : Nat) : Int))) := ⟨kS.mono (fun q _ a => Or.inl a), fun q a => Or.inl a⟩
  have C1 : CC B X (w.setCell ⟨gc, 1, none⟩ (.int .i64 ((n + 1 : Nat) : Int))) gc gv (R.map (·.1)) (n + 1) := ⟨R, ⟨h.arr.set 1 _, h.own.fr kS (fun q hq e => h.nov (by rw [← e]; exact hq)), fun r hr => (h.row r hr).step st, h.nov, h.lo⟩, rfl, hM⟩
  have AC := addG_c C1 (gIn n) _ _ (WO.nil _ _) (WO.nil _ _) nilm hl
  have x2 : (w.setCell ⟨gc, 1, none⟩ (.int .i64 ((n + 1 : Nat) : Int))).cell? ⟨gc, 1, none⟩ = some (.int .i64 ((n + 1 : Nat) : Int)) := (h.arr.set 1 _).cell 1
  have HST := Hid.mk st
  have i1 : (n : Int) ≤ 1000000000 := by omega
  clear h kS st C1
  go_enter Try.func62, Try.ntmps62
  go_upto_region 2 with fail
  rw [show (n : Int) + 1 = ((n + 1 : Nat) : Int) by omega]
  generalize w.setCell ⟨gc, 1, none⟩ (.int .i64 ((n + 1 : Nat) : Int)) = w1 at *
  clear x1 f1
  go_wp2_with fail
  refine AC.mono ?_
  rintro e w2 ⟨gv', rfl, c, s⟩
  go_wp2_with fail
  go_ret
  exact ⟨gv', by first | rfl | (rw [List.length_map]; rfl), c, HST.out.trans s⟩
end
end Go.Proofs.Qxb6500772a
