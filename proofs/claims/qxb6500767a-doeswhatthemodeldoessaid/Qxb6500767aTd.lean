/- mergem: Split. -/
import Derived.Test.Qxb6500767aKh
import Derived.Test.Qxb6500767aTa
namespace Go.Proofs.Qxb6500767a
open Go.RowKit Go.Qm
set_option linter.unusedVariables false
set_option linter.unusedSimpArgs false
attribute [local go_sem ↓] Go.wp_at_zero Go.wp_at_succ
theorem inf9 : (Try.prog.info? 9).map (fun i => (i.zero, i.size, i.bytes)) = some (some (str []), 1, 16) := by kernel_rfl
theorem ext_str (l : List UInt8) (a b : Nat) : (ByteArray.mk l.toArray).extract a b = ⟨((l.drop a).take (b - a)).toArray⟩ := by
  apply ByteArray.ext
  rw [ByteArray.data_extract]
  simp [List.extract_toArray, List.extract_eq_take_drop]
def spS (p : List UInt8) (s : List (List UInt8) × Nat) (i : Nat) : List (List UInt8) × Nat :=
  if i = p.length ∨ p.getD i 0 = 47 then (if s.2 < i then s.1 ++ [(p.drop s.2).take (i - s.2)] else s.1, i + 1) else s
def spK (p : List UInt8) : Nat → List (List UInt8) × Nat
  | 0 => ([], 0)
  | k + 1 => spS p (spK p k) k
def splitF (p : List UInt8) : List (List UInt8) := (spK p (p.length + 1)).1
theorem spK_le (p : List UInt8) : ∀ k, (spK p k).2 ≤ k ∧ (spK p k).1.length ≤ k ∧ ∀ x ∈ (spK p k).1, x.length ≤ p.length
  | 0 => ⟨Nat.le_refl _, Nat.le_refl _, by simp [spK]⟩
  | k + 1 => by
    obtain ⟨h1, h2, h3⟩ := spK_le p k
    unfold spK spS
    split
    · refine ⟨Nat.le_refl _, ?_, ?_⟩
      · split
        · simp; omega
        · simp; omega
      · split
        · intro x hx
          simp only [List.mem_append, List.mem_singleton] at hx
          rcases hx with hx | rfl
          · exact h3 x hx
          · simp; omega
        · exact h3
    · exact ⟨by omega, by omega, h3⟩
theorem splitF_le (p : List UInt8) : (splitF p).length ≤ p.length + 1 ∧ ∀ x ∈ splitF p, x.length ≤ p.length := ⟨(spK_le p _).2.1, (spK_le p _).2.2⟩
theorem str_one (l : List (List UInt8)) : ∀ u ∈ l.map str, u.oneCell' = true := by intro u hu; obtain ⟨x, _, rfl⟩ := List.mem_map.1 hu; rfl
set_option maxRecDepth 3000 in
set_option maxHeartbeats 2000000 in
theorem split_c (p : List UInt8) (w : World) (hp : p.length ≤ 1000000) :
    Calls Try.prog 90 #[str p] w fun e w' => ∃ v', e = .returned v' ∧ Own w.heap.size 9 w' v' ((splitF p).map str) ∧ Keep w w' := by
  have HF : Hid (splitF p = (spK p (p.length + 1)).1) := Hid.mk rfl
  generalize splitF p = F at *
  go_enter Try.func90, Try.ntmps90
  go_wp2_with fail
  go_loopg [3, 4, 5] (p.length + 1) (fun gk ov sv iv wr => ∃ (k s : Nat) (out : List (List UInt8)), k + gk = p.length + 1 ∧ iv = .int .i64 k ∧ sv = .int .i64 s ∧ spK p k = (out, s) ∧ Own w.heap.size 9 wr ov (out.map str) ∧ Keep w wr)
  case atStart => exact ⟨0, 0, [], Nat.zero_add _, rfl, rfl, rfl, World.ownsRow_nil _ _ _ _, Keep.refl _⟩
  case round => as_aux_lemma =>
    obtain ⟨k, s, out, hk, rfl, rfl, hsp, oo, kw⟩ := hrel
    have hle := spK_le p k
    rw [hsp] at hle
    obtain ⟨l1, l2, -⟩ := hle
    have ST : Hid (spK p (k + 1) = spS p (out, s) k) := Hid.mk (by rw [spK, hsp])
    have HSP := Hid.mk hsp
    clear hsp
    have hw := kw.size
    simp only at l1 l2
    have s0 : (0 : Int) ≤ s := by omega
    have sk : (s : Int) ≤ k := by omega
    have k0 : (0 : Int) ≤ k := by omega
    by_cases hlt : k ≤ p.length
    · have i1 : (k : Int) ≤ p.length := by omega
      have HOL : Hid (out.length ≤ 2000000) := Hid.mk (by omega)
      have hx := ext_str p s k
      by_cases hend : k = p.length
      · have q1 : ((k : Int) == p.length) = true := by simp; omega
        have HC : Hid (k = p.length ∨ p.getD k 0 = 47) := Hid.mk (Or.inl hend)
        have HK := Hid.mk hend
        clear hend
        by_cases hg : s < k
        · have q2 : (k : Int) > s := by omega
          have HO : Hid (spK p (k + 1) = (out ++ [(p.drop s).take (k - s)], k + 1)) := Hid.mk (by rw [ST.out, spS, if_pos HC.out, if_pos hg])
          generalize (p.drop s).take (k - s) = X at *
          go_wp2_with (at_builtin; refine wpList_app (by rfl) _ _ _ (by rfl) Try.underlying121 inf9 rfl w.heap.size (oo.alloc _) (Own.lit (B := w.heap.size) [str X] hw (by simp [maxLen])).sl (by simp [Value.oneCell']) (by rfl) (by rfl) (by have := HOL.out; simp [maxLen]; omega) (by have := HOL.out; simp; omega) (by simp; omega) ?_; intro v' w' hown' hgr hob)
          go_roundg (gk - 1)
          case measure => omega
          case rel => exact ⟨k + 1, k + 1, out ++ [X], by omega, by go_num, by go_num, HO.out, by rw [List.map_append]; exact hown', (kw.alloc _).grown hgr (fun q hq => (oo.lt q hq).1)⟩
        · have q2 : ¬ (k : Int) > s := by omega
          have HO : Hid (spK p (k + 1) = (out, k + 1)) := Hid.mk (by rw [ST.out, spS, if_pos HC.out, if_neg hg])
          go_wp2_with fail
          go_roundg (gk - 1)
          case measure => omega
          case rel => exact ⟨k + 1, k + 1, out, by omega, by go_num, by go_num, HO.out, oo, kw⟩
      · have q1 : ((k : Int) == p.length) = false := by simp; omega
        have hkl : k < p.length := by omega
        have j1 : (k : Int) < p.length := by omega
        have hgd : p.getD k 0 = p[k] := by rw [List.getD_eq_getElem?_getD, List.getElem?_eq_getElem hkl]; rfl
        by_cases hsl : p[k] = 47
        · have q3 : ((p[k].toNat : Int) == 47) = true := by rw [hsl]; rfl
          have HC : Hid (k = p.length ∨ p.getD k 0 = 47) := Hid.mk (Or.inr (hgd.trans hsl))
          clear hend hgd hsl
          by_cases hg : s < k
          · have q2 : (k : Int) > s := by omega
            have HO : Hid (spK p (k + 1) = (out ++ [(p.drop s).take (k - s)], k + 1)) := Hid.mk (by rw [ST.out, spS, if_pos HC.out, if_pos hg])
            generalize (p.drop s).take (k - s) = X at *
            go_wp2_with (at_builtin; refine wpList_app (by rfl) _ _ _ (by rfl) Try.underlying121 inf9 rfl w.heap.size (oo.alloc _) (Own.lit (B := w.heap.size) [str X] hw (by simp [maxLen])).sl (by simp [Value.oneCell']) (by rfl) (by rfl) (by have := HOL.out; simp [maxLen]; omega) (by have := HOL.out; simp; omega) (by simp; omega) ?_; intro v' w' hown' hgr hob)
            go_roundg (gk - 1)
            case measure => omega
            case rel => exact ⟨k + 1, k + 1, out ++ [X], by omega, by go_num, by go_num, HO.out, by rw [List.map_append]; exact hown', (kw.alloc _).grown hgr (fun q hq => (oo.lt q hq).1)⟩
          · have q2 : ¬ (k : Int) > s := by omega
            have HO : Hid (spK p (k + 1) = (out, k + 1)) := Hid.mk (by rw [ST.out, spS, if_pos HC.out, if_neg hg])
            go_wp2_with fail
            go_roundg (gk - 1)
            case measure => omega
            case rel => exact ⟨k + 1, k + 1, out, by omega, by go_num, by go_num, HO.out, oo, kw⟩
        · have q3 : ((p[k].toNat : Int) == 47) = false := by
            simp only [beq_eq_false_iff_ne, ne_eq]
            intro e
            exact hsl (UInt8.toNat_inj.1 (by have : p[k].toNat = 47 := (by omega); simpa using this))
          have HO : Hid (spK p (k + 1) = (out, s)) := Hid.mk (by rw [ST.out, spS, if_neg (by rw [hgd]; intro h; rcases h with h | h; exact hend h; exact hsl h)])
          clear hend hgd hsl
          go_wp2_with fail
          go_roundg (gk - 1)
          case measure => omega
          case rel => exact ⟨k + 1, s, out, by omega, by go_num, rfl, HO.out, oo, kw⟩
    · have i1 : ¬ (k : Int) ≤ p.length := by omega
      have hkn : k = p.length + 1 := by omega
      have HO : Hid (F = out) := Hid.mk (by rw [HF.out, ← hkn, HSP.out])
      clear hkn
      go_wp2_with fail
      go_ret
      exact ⟨_, rfl, by rw [HO.out]; exact oo, kw⟩
end Go.Proofs.Qxb6500767a
