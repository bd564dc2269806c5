/- Small functions: digestm.BlockSize, Size; octetsm.Xor; modeslaw.stretch; modes.wipe. -/
import Derived.Test.Qxb6500771aGreatOct
import Derived.Deep.RegionLaw
import Derived.Deep.AppendLies
namespace Go.Qm
open Go Go.RowKit
theorem step_app {P : Program} {ops : Array Oper} {o : Oper} {a : Act} {K : Act → World → Prop} {Q : Exit → Act → World → Prop} {E : Prop} {w : World} (hgd : o.guard = none) (s x : Operand) (t : TypeId)
    (ho : o.op = .call { callee := .builtin .append, args := #[s, x], argTypes := #[t, t] })
    {e : TypeId} {z : Value} {bytes : Nat} (ht : P.underlying t = some (.slice e)) (hi : (P.info? e).map (fun i => (i.zero, i.size, i.bytes)) = some (some z, 1, bytes)) (hz : z.cells = #[z])
    (B : Nat) {v : Value} {xs : List Value} (hown : Own B e w v xs) {xv : Value} {ys : List Value} (hsl : Sl w xv ys) (h1 : ∀ u ∈ ys, u.oneCell' = true)
    (hs : a.eval s = v) (hx : a.eval x = xv)
    (hm : xs.length + ys.length ≤ maxLen) (hb : (xs.length + ys.length) * bytes ≤ 140737488355328) (hB : B ≤ w.heap.size)
    (h : ∀ v' w', Own B e w' v' (xs ++ ys) → w.grownBy w' v.ownBlock → (v'.ownBlock = v.ownBlock ∨ v'.ownBlock = some w.heap.size) → K (a.put o.dst v') w') :
    if Region.wanted o (yielded ops a.tmps) = true then Oper.wp P o a w K Q else E := by
  have hw : Region.wanted o (yielded ops a.tmps) = true := by simp [Region.wanted, hgd]
  rw [if_pos hw]
  obtain ⟨v', w', hr, h2, h3, h4⟩ := run_app (ty := o.type) ht hi hz hown hsl h1 hm hb hB
  unfold Oper.wp execOp
  simp only [ho, resolve, invoke, builtin, Sem.run_bind, Sem.run_pure, Result.andThen_ok, List.map_toArray, List.map_cons, List.map_nil, hs, hx, hr]
  exact h v' w' h2 h3 h4
end Go.Qm
namespace Go.Proofs.Qxb6500771aGreat
open Go.RowKit Go.Qm
set_option linter.unusedVariables false
set_option linter.unusedSimpArgs false

def bsz (h : Nat) : Nat := if h = 3 then 128 else 64
def hsz (h : Nat) : Nat := if h = 3 then 48 else if h = 2 then 32 else 20
theorem blockSize_c (h : Nat) (w : World) (h1 : 1 ≤ h) (h5 : h ≤ 3) : Calls Tryz.prog 94 #[.int .i64 h] w fun e w' => e = .returned (.int .i64 (bsz h)) ∧ Keep w w' := by
  go_enter Tryz.func94, Tryz.ntmps94
  match h, h1, h5 with
  | 1, _, _ => go_wp2; go_ret; exact ⟨rfl, Keep.refl _⟩
  | 2, _, _ => go_wp2; go_ret; exact ⟨rfl, Keep.refl _⟩
  | 3, _, _ => go_wp2; go_ret; exact ⟨rfl, Keep.refl _⟩

/-- What stretch makes. -/
def stre (s : List UInt8) (n : Nat) : List UInt8 := (List.range n).map (fun i => s.getD (i % s.length) 0)
theorem stre_length (s : List UInt8) (n : Nat) : (stre s n).length = n := by simp [stre]
theorem stre_succ (s : List UInt8) (n : Nat) : stre s (n + 1) = stre s n ++ [s.getD (n % s.length) 0] := by simp [stre, List.range_succ]
set_option maxHeartbeats 1000000 in
theorem stretch_c (v : Value) (s : List UInt8) (n : Nat) (w : World) (h : Bs w v s) (hs : s.length ≤ 4000000) (hn : n ≤ 4000000) : Calls Tryz.prog 30 #[v, .int .i64 n] w fun e w' => ∃ v', e = .returned v' ∧ Own w.heap.size 5 w' v' ((stre s n).map cb) ∧ Keep w w' := by
  obtain ⟨a, c, rfl, hac, hcm, hca⟩ := h.form
  unfold maxLen at hcm
  go_enter Tryz.func30, Tryz.ntmps30
  go_wp2
  go_loopw [5, 6] (fun ov i wr => ∃ k : Nat, k ≤ n ∧ i = .int .i64 k ∧ Own w.heap.size 5 wr ov ((stre s k).map cb) ∧ Keep w wr) (fun _ i _ => n - (intOf i).toNat)
  case atStart => exact ⟨0, by omega, rfl, Own.lit [] (Nat.le_refl _) (by simp), (Keep.refl _).alloc _⟩
  case round =>
    obtain ⟨k, hk, rfl, hown, kw⟩ := hrel
    by_cases hlt : k < n
    · have hlt' : (k : Int) < n := by omega
      have hg : (0 : Int) ≤ k := by omega
      have hkl : ((stre s k).map cb).length = k := by rw [List.length_map, stre_length]
      have HK := Hid.mk hkl
      clear hkl
      by_cases hz : s.length = 0
      · have hzb : ((s.length : Int) == 0) = true := by simpa using hz
        have hgd : s.getD (k % s.length) 0 = 0 := by
          have : s = [] := List.eq_nil_of_length_eq_zero hz
          rw [this]; rfl
        have HG := Hid.mk hgd
        clear hgd hz
        go_wp2_with (at_builtin; refine wpList_app (by rfl) _ _ _ (by rfl) Tryz.underlying26 inf5 rfl w.heap.size (hown.alloc _) (Sl.one _) (by simp [Value.oneCell']) (by rfl) (by rfl) (by rw [HK.out]; simp [maxLen]; omega) (by rw [HK.out]; simp; omega) (by have := kw.size; simp; omega) ?_; intro v' w' hown' hgr hob)
        go_roundw
        case rel => exact ⟨k + 1, by omega, by go_num, by rw [stre_succ, List.map_append, HG.out]; exact hown', (kw.alloc _).grown hgr (fun q hq => (hown.lt q hq).1)⟩
        case measure => simp [intOf]; omega
      · obtain ⟨r, hr⟩ : ∃ r, r = k % s.length := ⟨_, rfl⟩
        have hrl : r < s.length := by rw [hr]; exact Nat.mod_lt _ (by omega)
        have hrt : (k : Int).tmod (s.length : Int) = (r : Int) := by rw [hr]; exact (Int.ofNat_tmod k s.length).symm
        have hzb : ((s.length : Int) == 0) = false := by simpa using hz
        have hz2 : ¬ (s.length : Int) = 0 := by omega
        have r1 : (r : Int) < s.length := by omega
        obtain ⟨b, o, rfl, h1⟩ := hca r hrl
        replace h1 := kw.cell h1
        have hgd : s.getD (k % s.length) 0 = s[r] := by rw [← hr]; simp [List.getD, hrl]
        have HG := Hid.mk hgd
        clear hgd hr
        go_wp2_with (at_builtin; refine wpList_app (by rfl) _ _ _ (by rfl) Tryz.underlying26 inf5 rfl w.heap.size (hown.alloc _) (Sl.one _) (by simp [Value.oneCell']) (by rfl) (by rfl) (by rw [HK.out]; simp [maxLen]; omega) (by rw [HK.out]; simp; omega) (by have := kw.size; simp; omega) ?_; intro v' w' hown' hgr hob)
        go_roundw
        case rel => exact ⟨k + 1, by omega, by go_num, by rw [stre_succ, List.map_append, HG.out]; exact hown', (kw.alloc _).grown hgr (fun q hq => (hown.lt q hq).1)⟩
        case measure => simp [intOf]; omega
    · have hlt' : ¬ (k : Int) < n := by omega
      go_wp2
      go_ret
      have : k = n := by omega
      subst this
      exact ⟨_, rfl, by simpa using hown, kw⟩

/-- The exclusive or of two lists, over the length of the first. -/
def xorl (a b : List UInt8) : List UInt8 := (List.range a.length).map (fun i => a.getD i 0 ^^^ b.getD i 0)
def xork (a b : List UInt8) (k : Nat) : List UInt8 := (List.range k).map (fun i => a.getD i 0 ^^^ b.getD i 0)
theorem xork_length (a b : List UInt8) (k : Nat) : (xork a b k).length = k := by simp [xork]
theorem xork_succ (a b : List UInt8) (k : Nat) : xork a b (k + 1) = xork a b k ++ [a.getD k 0 ^^^ b.getD k 0] := by simp [xork, List.range_succ]
set_option maxHeartbeats 2000000 in
theorem xor_c (v v' : Value) (la lb : List UInt8) (w : World) (ha : Bs w v la) (hb : Bs w v' lb) (hl : la.length ≤ lb.length) (hm : lb.length ≤ 4000000) : Calls Tryz.prog 96 #[v, v'] w fun e w' => ∃ r, e = .returned r ∧ Own w.heap.size 5 w' r ((xorl la lb).map cb) ∧ Keep w w' := by
  obtain ⟨a, c, rfl, hac, hcm, hca⟩ := ha.form
  obtain ⟨a', c', rfl, hac', hcm', hcb⟩ := hb.form
  unfold maxLen at hcm hcm'
  go_enter Tryz.func96, Tryz.ntmps96
  go_wp2
  go_loopw [5, 6] (fun ov i wr => ∃ k : Nat, k ≤ la.length ∧ i = .int .i64 k ∧ Own w.heap.size 5 wr ov ((xork la lb k).map cb) ∧ Keep w wr) (fun _ i _ => la.length - (intOf i).toNat)
  case atStart => exact ⟨0, by omega, rfl, Own.lit [] (Nat.le_refl _) (by simp), (Keep.refl _).alloc _⟩
  case round =>
    obtain ⟨k, hk, rfl, hown, kw⟩ := hrel
    by_cases hlt : k < la.length
    · have hlt' : (k : Int) < la.length := by omega
      have hlt2 : (k : Int) < lb.length := by omega
      have hg : (0 : Int) ≤ k := by omega
      have hkl : ((xork la lb k).map cb).length = k := by rw [List.length_map, xork_length]
      have HK := Hid.mk hkl
      clear hkl
      obtain ⟨b, o, rfl, h1w⟩ := hca k hlt
      obtain ⟨b', o', rfl, h2w⟩ := hcb k (by omega)
      have h1 := kw.cell h1w
      have h2 := kw.cell h2w
      have hx := bits_xor8 la[k] (lb[k]'(by omega))
      have hgd : la.getD k 0 ^^^ lb.getD k 0 = la[k] ^^^ lb[k]'(by omega) := by simp [List.getD, hlt, show k < lb.length by omega]
      have HG := Hid.mk hgd
      clear hgd
      generalize la[k] = xa at *
      generalize lb[k]'(by omega) = xb at *
      go_wp2_with fail
      have KA := (Keep.refl wr).alloc (.cells #[.int .u8 (xa ^^^ xb).toNat] 5)
      have OA := hown.alloc (.cells #[.int .u8 (xa ^^^ xb).toNat] 5)
      have hsz := kw.size
      go_region_held3 (fun w' => w'.cell? ⟨b, o + k, none⟩ = some (.int .u8 xa.toNat) ∧ w'.cell? ⟨b', o' + k, none⟩ = some (.int .u8 xb.toNat))
        (first | assumption | exact ⟨h1, h2⟩ | exact ⟨KA.cell h1, KA.cell h2⟩ | exact ⟨KK.cell h1w, KK.cell h2w⟩)
        ((refine step_app (by rfl) _ _ _ (by rfl) Tryz.underlying26 inf5 rfl w.heap.size (w := (wr.alloc (.cells #[.int .u8 (xa ^^^ xb).toNat] 5)).drew) OA (Sl.one (w := wr) (.int .u8 (xa ^^^ xb).toNat)) (by simp [Value.oneCell']) (by rfl) (by rfl) (by rw [HK.out]; simp [maxLen]; omega) (by rw [HK.out]; simp; omega) (by simp; omega) ?_; intro v' w' hown' hgr hob; have KK : Keep w w' := ((kw.alloc _).drew).grown hgr (fun q hq => (hown.lt q hq).1)))
      all_goals
        go_wp2_with fail
        go_roundw
        case rel => exact ⟨k + 1, by omega, by go_num, by rw [xork_succ, List.map_append, HG.out]; exact hown', KK⟩
        case measure => simp [intOf]; omega
    · have hlt' : ¬ (k : Int) < la.length := by omega
      go_wp2
      go_ret
      have : k = la.length := by omega
      subst this
      exact ⟨_, rfl, by simpa [xorl, xork] using hown, kw⟩

theorem xorl_length (a b : List UInt8) : (xorl a b).length = a.length := by simp [xorl]
theorem xorl_rep (a : List UInt8) (x : UInt8) (n : Nat) (h : a.length ≤ n) : xorl a (List.replicate n x) = a.map (· ^^^ x) := by
  apply List.ext_getElem (by simp [xorl])
  intro i h1 h2
  have hi : i < a.length := by simpa [xorl] using h1
  simp [xorl, List.getD, hi, show i < n by omega]
set_option maxHeartbeats 1000000 in
/-- wipe: the octets of a window become zeros. -/
theorem wipe_c (g n c : Nat) (l : List UInt8) (pre post : List Value) (w : World) (hn : n = l.length) (hnc : n ≤ c) (hcm : c ≤ maxLen) (hg : Win w g 5 pre l post) : Calls Tryz.prog 41 #[.slice (some ⟨g, pre.length, none⟩) n c] w fun e w' =>
    e = .returned (.tuple #[]) ∧ Win w' g 5 pre (List.replicate n 0) post ∧ w.grownBy w' (some g) := by
  unfold maxLen at hcm
  have HN := Hid.mk hn
  clear hn
  go_enter Tryz.func41, Tryz.ntmps41
  go_wp2_with fail
  go_loopw [5] (fun iv wr => ∃ k : Nat, k ≤ n ∧ iv = .int .i64 k ∧ Win wr g 5 pre (List.replicate k 0 ++ l.drop k) post ∧ w.grownBy wr (some g)) (fun i _ => n - (intOf i).toNat)
  case atStart => exact ⟨0, by omega, rfl, by simpa using hg, grown_refl _ _⟩
  case round =>
    obtain ⟨k, hk, rfl, hwin, hgr⟩ := hrel
    by_cases hlt : k < n
    · have hlt' : (k : Int) < n := by omega
      have hg0 : (0 : Int) ≤ k := by omega
      obtain ⟨cv, hc⟩ : ∃ cv : Value, wr.cell? ⟨g, pre.length + k, none⟩ = some cv := ⟨_, hwin.cell (k := k) (o := pre.length + k) (by have := HN.out; simp; omega) rfl⟩
      have hf := hwin.frozen (pre.length + k)
      have hset := hwin.set (k := k) (by have := HN.out; simp; omega) 0 (o := pre.length + k) rfl
      generalize pre.length = pl at *
      have HS := Hid.mk hset
      clear hset
      go_wp2_with fail
      go_roundw
      case rel =>
        refine ⟨k + 1, by omega, by go_num, ?_, grown_set hgr _ _⟩
        have h1 := HS.out
        have e : (List.replicate k (0 : UInt8) ++ l.drop k).set k 0 = List.replicate (k + 1) 0 ++ l.drop (k + 1) := by
          rw [List.set_append_right _ _ (by simp)]
          simp only [List.length_replicate, Nat.sub_self]
          rw [List.drop_eq_getElem_cons (by have := HN.out; omega), List.set_cons_zero, List.replicate_succ', List.append_assoc]
          rfl
        rw [e] at h1
        exact h1
      case measure => simp [intOf]; omega
    · have hlt' : ¬ (k : Int) < n := by omega
      have hkn : k = n := by omega
      rw [hkn, List.drop_of_length_le (by have := HN.out; omega), List.append_nil] at hwin
      clear hkn
      go_wp2
      go_end0
      exact ⟨rfl, hwin, hgr⟩
end Go.Proofs.Qxb6500771aGreat
