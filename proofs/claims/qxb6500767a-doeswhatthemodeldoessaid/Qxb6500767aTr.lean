/- mutatem: Create, Mkdir, Symlink. -/
import Derived.Test.Qxb6500767aTq
import Derived.Test.Qxb6500767aTm
import Derived.Laws.IdiomStrings
namespace Go.Proofs.Qxb6500767a
open Go.RowKit Go.Qm
set_option linter.unusedVariables false
set_option linter.unusedSimpArgs false
attribute [local go_sem ↓] Go.wp_at_zero Go.wp_at_succ
set_option maxRecDepth 3000 in
theorem create_c (B gt : Nat) (mode : Int) (path : List UInt8) (fp : Nat → Prop) (T : List Nd) (w : World) (h : TreeW B fp w gt T) (lim : TLim T) (hU : usedB T ≤ 1000000) (hl : path.length ≤ 100000) :
    Calls Try.prog 80 #[.pointer (some ⟨gt, 0, none⟩), str path, .int .i64 mode] w fun e w' => RetT B fp w gt (makeT T path 1 mode []).1 (.returned (.tuple #[.int .i64 ((makeT T path 1 mode []).2.1 : Nat), .int .i64 (makeT T path 1 mode []).2.2])) e w' := by
  have MC := makeNode_c B gt 1 mode path [] (.slice none 0 0) fp T w w h (Keep.refl w) lim.ok lim.len hU hl (Dat.of_own (d := []) (World.ownsRow_nil _ _ _ _) _) (by simp) lim.keys
  generalize makeT T path 1 mode [] = R at *
  obtain ⟨T', n, er⟩ := R
  simp only at MC ⊢
  go_enter Try.func80, Try.ntmps80
  go_wp2_with fail
  refine MC.mono ?_
  rintro e w1 ⟨fp1, rfl, t1, s1⟩
  go_wp2_with fail
  go_ret2
  exact ⟨fp1, rfl, t1, s1⟩
set_option maxRecDepth 3000 in
theorem mkdir_c (B gt : Nat) (mode : Int) (path : List UInt8) (fp : Nat → Prop) (T : List Nd) (w : World) (h : TreeW B fp w gt T) (lim : TLim T) (hU : usedB T ≤ 1000000) (hl : path.length ≤ 100000) :
    Calls Try.prog 66 #[.pointer (some ⟨gt, 0, none⟩), str path, .int .i64 mode] w fun e w' => RetT B fp w gt (makeT T path 2 mode []).1 (.returned (.int .i64 (makeT T path 2 mode []).2.2)) e w' := by
  have MC := makeNode_c B gt 2 mode path [] (.slice none 0 0) fp T w w h (Keep.refl w) lim.ok lim.len hU hl (Dat.of_own (d := []) (World.ownsRow_nil _ _ _ _) _) (by simp) lim.keys
  generalize makeT T path 2 mode [] = R at *
  obtain ⟨T', n, er⟩ := R
  simp only at MC ⊢
  go_enter Try.func66, Try.ntmps66
  go_wp2_with fail
  refine MC.mono ?_
  rintro e w1 ⟨fp1, rfl, t1, s1⟩
  go_wp2_with fail
  go_ret
  exact ⟨fp1, rfl, t1, s1⟩
def symT (T : List Nd) (target path : List UInt8) : List Nd × Int :=
  if target = [] then (T, 6) else if target.length > 255 then (T, 4) else ((makeT T path 3 511 target).1, (makeT T path 3 511 target).2.2)
/-- []byte(s). -/
theorem run_bytes (s : List UInt8) (w : World) (hs : s.length ≤ 1000) : ∃ c W, (convert 9 64 (str s)).run Try.prog w = .ok (.slice (some ⟨w.heap.size, 0, none⟩) s.length c) W ∧ Keep w W ∧ Dat w.heap.size W (.slice (some ⟨w.heap.size, 0, none⟩) s.length c) s 3 := by
  have hr := run_bytes_of_string (P := Try.prog) w 9 64 5 ⟨s.toArray⟩ Try.underlying9 Try.underlying64 Try.underlying5
  have hge := grownCap_ge w s.length 0 5
  have hcm : grownCap w s.length 0 5 ≤ maxLen := grownCap_le_maxLen w s.length 0 5 (by simp only [maxLen]; omega)
  refine ⟨_, _, hr, (Keep.refl w).drew.alloc _, ⟨⟨_, grownCap w s.length 0 5, by simp [ByteArray.size], by simpa using hge, hcm, fun k u hu => ⟨w.heap.size, 0, rfl, ?_⟩⟩, fun q hq => ?_, fun e => by cases e⟩⟩
  · have hh : (w.drew.alloc (.cells (bytesRow ⟨s.toArray⟩ (grownCap w (ByteArray.mk s.toArray).size 0 5)) 5 ((bytesRow ⟨s.toArray⟩ (grownCap w (ByteArray.mk s.toArray).size 0 5)).size, (bytesRow ⟨s.toArray⟩ (grownCap w (ByteArray.mk s.toArray).size 0 5)).size + 1))).heap[w.heap.size]? = some (.cells (bytesRow ⟨s.toArray⟩ (grownCap w (ByteArray.mk s.toArray).size 0 5)) 5 ((bytesRow ⟨s.toArray⟩ (grownCap w (ByteArray.mk s.toArray).size 0 5)).size, (bytesRow ⟨s.toArray⟩ (grownCap w (ByteArray.mk s.toArray).size 0 5)).size + 1)) := heap_alloc_new w.drew _
    rw [Nat.zero_add]
    have hk : k < s.length := by
      have := (List.getElem?_eq_some_iff.1 hu).1
      simpa using this
    have hu2 : u = .int .u8 (s[k].toNat : Nat) := by
      rw [List.getElem?_map, List.getElem?_eq_getElem hk] at hu
      exact (Option.some.inj hu).symm
    simp only [World.cell?, hh]
    unfold bytesRow
    rw [Array.getElem?_append_left (by simp; omega)]
    simp [hk, hu2]
  · have : q = w.heap.size := by simpa [Value.ownBlock] using hq.symm
    subst this
    exact ⟨Nat.le_refl _, by simp⟩
set_option maxRecDepth 3000 in
theorem symlink_c (B gt : Nat) (target path : List UInt8) (fp : Nat → Prop) (T : List Nd) (w : World) (h : TreeW B fp w gt T) (lim : TLim T) (hU : usedB T ≤ 1000000) (hl : path.length ≤ 100000) (ht : target.length ≤ 100000) :
    Calls Try.prog 71 #[.pointer (some ⟨gt, 0, none⟩), str target, str path] w fun e w' => RetT B fp w gt (symT T target path).1 (.returned (.int .i64 (symT T target path).2)) e w' := by
  obtain ⟨R, hR⟩ : ∃ R, R = symT T target path := ⟨_, rfl⟩
  rw [← hR]
  have HTW := Hid.mk h
  by_cases h0 : target = []
  · have HF : Hid (R = (T, 6)) := Hid.mk (by rw [hR, symT, if_pos h0])
    subst h0
    clear hR
    go_enter Try.func71, Try.ntmps71
    go_wp2_with fail
    go_ret
    rw [HF.out]
    exact ⟨fp, rfl, HTW.out, Stp.refl _ _⟩
  · have q0 : (target == []) = false := by simpa using h0
    by_cases h1 : target.length > 255
    · have HF : Hid (R = (T, 4)) := Hid.mk (by rw [hR, symT, if_neg h0, if_pos h1])
      have q1 : (target.length : Int) > 255 := by omega
      clear hR
      go_enter Try.func71, Try.ntmps71
      go_wp2_with fail
      go_ret
      rw [HF.out]
      exact ⟨fp, rfl, HTW.out, Stp.refl _ _⟩
    · have q1 : ¬ (target.length : Int) > 255 := by omega
      obtain ⟨c, W, hcv, hk, hdat⟩ := run_bytes target w (by omega)
      have MC := makeNode_c B gt 3 511 path target _ fp T w W h hk lim.ok lim.len hU hl hdat (by omega) lim.keys
      have HF : Hid (R = ((makeT T path 3 511 target).1, (makeT T path 3 511 target).2.2)) := Hid.mk (by rw [hR, symT, if_neg h0, if_neg h1])
      generalize makeT T path 3 511 target = M at *
      obtain ⟨T', n, er⟩ := M
      simp only at MC HF
      clear hR h0 hdat
      go_enter Try.func71, Try.ntmps71
      go_wp2_with fail
      refine MC.mono ?_
      rintro e w1 ⟨fp1, rfl, t1, s1⟩
      go_wp2_with fail
      go_ret
      rw [HF.out]
      exact ⟨fp1, rfl, t1, s1⟩
end Go.Proofs.Qxb6500767a
