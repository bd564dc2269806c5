/- unionvfsm: Play; New. -/
import Derived.Test.Qxb6500767aNp
import Derived.Test.Qxb6500767aNq
import Derived.Test.Qxb6500767aNr
import Derived.Test.Qxb6500767aNs
import Derived.Test.Qxb6500767aIb
namespace Go.Proofs.Qxb6500767a
open Go.RowKit Go.Qm
set_option linter.unusedVariables false
set_option linter.unusedSimpArgs false
attribute [local go_sem ↓] Go.wp_at_zero Go.wp_at_succ
def OpR (o : OpV) : Prop := (-9223372036854775808 ≤ o.flags ∧ o.flags ≤ 9223372036854775807) ∧ (-9223372036854775808 ≤ o.mode ∧ o.mode ≤ 9223372036854775807)
theorem mplay_c {B gm gt k : Nat} {fp : Nat → Prop} {w : World} {s : Stt} {O : List Nat} {ov : Value} (o : OpV) (h : MW B fp w gm gt s O ov) (si : SI k s.u s.hs s.T) (hk : k ≤ 70000) (hp : o.path.length ≤ 100000) (hp2 : o.path2.length ≤ 100000) (hdt : o.data.length ≤ 100000) (fl : FL s.hs) (md : Md.SPM s.T) (hr : OpR o) :
    Calls Try.prog 15 #[.pointer (some ⟨gm, 0, none⟩), .agg (opC o).toArray] w fun e w' => MP B fp w gm gt ov (playF s o).1 (playF s o).2 e w' := by
  rcases kinds o.kind with hK | hK | hK | hK | hK | hK | hK | hK | hK | hK | hK | hK | hK | hK | hK | hK | hK | hK | hK | hK | hK | hK
  · rw [playF0 hK]; exact mp0 o hK h si hk hp hp2 hdt
  · rw [playF1 hK]; exact mp1 o hK h si hk hp hp2 hdt fl md hr.1 hr.2
  · rw [playF2 hK]; exact mp2 o hK h si hk hp hp2 hdt fl md hr.1 hr.2
  · rw [playF3 hK]; exact mp3 o hK h si hk hp hp2 hdt fl md hr.1 hr.2
  · rw [playF4 hK]; exact mp4 o hK h si hk hp hp2 hdt fl md hr.1 hr.2
  · rw [playF5 hK]; exact mp5 o hK h si hk hp hp2 hdt fl md hr.1 hr.2
  · rw [playF6 hK]; exact mp6 o hK h si hk hp hp2 hdt fl md hr.1 hr.2
  · rw [playF7 hK]; exact mp7 o hK h si hk hp hp2 hdt fl
  · rw [playF8 hK]; exact mp8 o hK h si hk hp hp2 hdt fl
  · rw [playF9 hK]; exact mp9 o hK h si hk hp hp2 hdt fl hr.2
  · rw [playF10 hK]; exact mp10 o hK h si hk hp hp2 hdt fl md hr.1 hr.2
  · rw [playF11 hK]; exact mp11 o hK h si hk hp hp2 hdt fl md hr.1 hr.2
  · rw [playF12 hK]; exact mp12 o hK h si hk hp hp2 hdt fl md hr.1 hr.2
  · rw [playF13 hK]; exact mp13 o hK h si hk hp hp2 hdt hr.2
  · rw [playF14 hK]; exact mp14 o hK h si hk hp hp2 hdt fl md hr.1 hr.2
  · rw [playF15 hK]; exact mp15 o hK h si hk hp hp2 hdt
  · rw [playF16 hK]; exact mp16 o hK h si hk hp hp2 hdt hr.2
  · rw [playF17 hK]; exact mp17 o hK h si hk hp hp2 hdt
  · rw [playF18 hK]; exact mp18 o hK h si hk hp hp2 hdt
  · rw [playF19 hK]; exact mp19 o hK h si hk hp hp2 hdt
  · rw [playF20 hK]; exact mp20 o hK h si hk hp hp2 hdt
  · rw [playF21 hK]; exact mp21 o hK h si hk hp hp2 hdt
set_option maxRecDepth 3000 in
theorem mNew_c (w : World) : Calls Try.prog 12 #[] w fun e w' => ∃ gm gt fp, e = .returned (.pointer (some ⟨gm, 0, none⟩)) ∧ MW w.heap.size fp w' gm gt st0 [] (.slice none 0 0) ∧ Keep w w' := by
  have NC := treeNew_c w
  go_enter Try.func12, Try.ntmps12
  go_wp2_with fail
  refine NC.mono ?_
  rintro e w1 ⟨gt, fp, rfl, t, k1, hf⟩
  have HT := Hid.mk t
  have HK := Hid.mk k1
  have HF := Hid.mk hf
  clear t hf
  go_wp2_with fail
  go_ret
  have A : Arr (w1.alloc (.cells #[.pointer (some ⟨gt, 0, none⟩), .slice none 0 0] 46)) w1.heap.size 46 [.pointer (some ⟨gt, 0, none⟩), .slice none 0 0] := Arr.new w1 46 _
  refine ⟨w1.heap.size, gt, fp, rfl, ⟨HT.out.keep ((Keep.refl _).alloc _), A, OwnS.nil _ _ _ _ _, ⟨List.nodup_nil, fun n => ?_, by simp [st0]⟩, fun a => ?_, fun q hq => ?_, HK.out.size⟩, HK.out.alloc _⟩
  · simp [st0]
  · have := (HT.out.own a).2; omega
  · simp [Value.ownBlock] at hq
theorem pc_count : ∀ (k b : Nat), b < 2 ^ k → pc b = ((List.range k).filter (fun i => b.testBit i)).length
  | 0, b, h => by
    have : b = 0 := by simpa using h
    subst this
    rw [pc_zero]; rfl
  | k + 1, b, h => by
    have e : ((List.range (k + 1)).filter (fun i => b.testBit i)).length = (if b.testBit 0 then 1 else 0) + ((List.range k).filter (fun i => (b / 2).testBit i)).length := by
      rw [List.range_succ_eq_map, List.filter_cons]
      have e2 : ((List.range k).map Nat.succ).filter (fun i => b.testBit i) = ((List.range k).filter (fun i => (b / 2).testBit i)).map Nat.succ := by
        rw [List.filter_map]
        congr 1
        apply List.filter_congr
        intro i _
        simp [Nat.testBit_succ]
      rw [e2]
      split <;> simp <;> omega
    rw [e, ← pc_count k (b / 2) (by omega)]
    by_cases hb : b = 0
    · subst hb; rw [pc_zero]; simp [pc_zero]
    · rw [pc_pos hb]
      have : (if b.testBit 0 then 1 else 0) = b % 2 := by
        rw [Nat.testBit_zero]
        rcases Nat.mod_two_eq_zero_or_one b with a | a <;> simp [a]
      rw [this]
theorem OR.count {u : Nat} {hs : List Hd} {O : List Nat} (r : OR u hs O) (hu : u < 2 ^ 32) : pc u = O.length := by
  rw [pc_count 32 u hu]
  have h1 : ∀ n, n ∈ (List.range 32).filter (fun i => u.testBit i) ↔ n ∈ O := fun n => by
    rw [r.mem, List.mem_filter, List.mem_range]
  have hn : ((List.range 32).filter (fun i => u.testBit i)).Nodup := List.Nodup.sublist List.filter_sublist List.nodup_range
  have a := List.Nodup.length_le_of_subset hn (fun n hn => (h1 n).1 hn)
  have b := List.Nodup.length_le_of_subset r.nd (fun n hn => (h1 n).2 hn)
  omega
end Go.Proofs.Qxb6500767a
