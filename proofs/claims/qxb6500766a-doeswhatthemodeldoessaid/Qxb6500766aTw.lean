/- foldindex: get. -/
import Derived.Test.Qxb6500766aTq
import Derived.Test.Qxb6500766aTb
import Derived.Test.Qxb6500766aRa
namespace Go.Proofs.Qxb6500766a
open Go.RowKit Go.Qm
set_option linter.unusedVariables false
set_option linter.unusedSimpArgs false
attribute [local go_sem ↓] Go.wp_at_zero Go.wp_at_succ
theorem entC_length (e : Ent) : (entC e).length = 3 := rfl
theorem entC_one (e : Ent) : ∀ u ∈ entC e, u.oneCell' = true := by intro u hu; simp [entC] at hu; rcases hu with rfl | rfl | rfl <;> rfl
def ent0 : Ent := ⟨0, [], 0⟩
theorem inf64 : (Try.prog.info? 64).map (fun i => (i.zero, i.size, i.bytes)) = some (some (.agg (entC ent0).toArray), 3, 32) := by kernel_rfl
abbrev EntO (B : Nat) (w : World) (v : Value) (es : List Ent) : Prop := OwnS entC 3 64 B w v es
theorem flat_constE (n : Nat) : ((List.replicate n ()).flatMap fun _ => entC ent0) = (List.replicate n ent0).flatMap entC := by
  induction n with
  | zero => rfl
  | succ n ih => simp only [List.replicate_succ, List.flatMap_cons, ih]
theorem run_makeEnts (n : Nat) (hn : n ≤ 2 ^ 20) (w : World) : (Instr.makeSlice 27 (.int .i64 (n : Int)) (.int .i64 (n : Int))).run Try.prog w = .ok (.slice (some ⟨w.heap.size, 0, none⟩) n n) (w.alloc (.cells ((List.replicate n ent0).flatMap entC).toArray 64)) := by
  obtain ⟨i, hi', hz', hs, hby⟩ := info_parts inf64
  rw [run_make w 27 64 i _ Try.underlying27 hi' hz' .i64 .i64 n n (by omega) (by omega) (by rw [hby]; omega) (by omega), hs]
  have e : madeCells (Value.agg (entC ent0).toArray).cells ((n : Int).toNat * 3) = ((List.replicate n ent0).flatMap entC).toArray := by
    rw [show (Value.agg (entC ent0).toArray).cells = (entC ent0).toArray from rfl, Int.toNat_natCast, made_flat (entC ent0) 3 n rfl (by omega), flat_constE]
  rw [e, Int.toNat_natCast]
theorem flat_set3 (x : Ent) : ∀ (es : List Ent) (j : Nat), j < es.length → (((es.flatMap entC).set (j * 3) (.int .i64 x.layer)).set (j * 3 + 1) (str x.raw)).set (j * 3 + 2) (.int .i64 x.kind) = (es.set j x).flatMap entC
  | [], j, h => by simp at h
  | s :: l, 0, _ => by simp [entC]
  | s :: l, j + 1, h => by
    have ih := flat_set3 x l j (by simpa using h)
    simp only [List.flatMap_cons, List.set_cons_succ]
    rw [show (j + 1) * 3 = (entC s).length + j * 3 by rw [entC_length]; omega]
    simp only [Nat.add_assoc]
    rw [List.set_append_right _ _ (by omega), List.set_append_right _ _ (by omega), List.set_append_right _ _ (by omega)]
    simp only [Nat.add_sub_cancel_left]
    rw [ih]
theorem copy_step (es : List Ent) {k n : Nat} (hk : k < es.length) (hn : n = es.length) : (es.take k ++ List.replicate (n - k) ent0).set k es[k] = es.take (k + 1) ++ List.replicate (n - (k + 1)) ent0 := by
  rw [List.set_append_right _ _ (by rw [List.length_take]; omega), show k - (es.take k).length = 0 by rw [List.length_take]; omega, show n - k = (n - (k + 1)) + 1 by omega, List.replicate_succ, List.set_cons_zero, List.take_succ_eq_append_getElem hk, List.append_assoc]
  rfl
set_option maxRecDepth 2000 in
set_option maxHeartbeats 2000000 in
theorem get_none_c (g o b n m : Nat) (ss : List Slot) (key : List UInt8) (w : World) (hc : w.cell? ⟨g, o, none⟩ = some (.slice (some ⟨b, 0, none⟩) n n)) (hS : Slots w b ss) (hn : n = ss.length) (tv : TV ss) (hk : key.length ≤ 1000000)
    (habs : ∀ i, i < ss.length → (sl ss i).st = 1 → (sl ss i).key ≠ key) : Calls Try.prog 44 #[.pointer (some ⟨g, o, none⟩), str key] w fun e w' => e = .returned (.slice none 0 0) ∧ w' = w := by
  obtain ⟨m, hm3, hm20, hmn⟩ := tv.pow
  rcases find_spec tv key with ⟨i, hi, -, he1, he2⟩ | ⟨j, hj, hfj, -⟩
  · exact absurd he2 (habs i hi he1)
  have FC := find_c g o b n m ss key (hashB key) w hc hS hn (hn.trans hmn) hm20 (hashB_lt key)
  rw [hfj] at FC
  simp only at FC
  clear hn hmn
  go_enter Try.func44, Try.ntmps44
  go_wp2_with fail
  refine (hashKey_c key _ hk).mono ?_
  rintro r w2 ⟨rfl, rfl⟩
  generalize hashB key = hh at *
  go_wp2_with fail
  refine FC.mono ?_
  rintro r w2 ⟨rfl, rfl⟩
  go_wp2_with fail
  go_ret
  exact ⟨rfl, rfl⟩
set_option maxRecDepth 2000 in
set_option maxHeartbeats 2000000 in
theorem get_c (B g o b n i : Nat) (ss : List Slot) (key : List UInt8) (w : World) (hc : w.cell? ⟨g, o, none⟩ = some (.slice (some ⟨b, 0, none⟩) n n)) (hS : Slots w b ss) (hn : n = ss.length) (tv : TV ss) (hk : key.length ≤ 1000000)
    (hi : i < ss.length) (h1 : (sl ss i).st = 1) (hkey : (sl ss i).key = key) (hE : EntO B w (sl ss i).lv (sl ss i).es) (hne : (sl ss i).es ≠ []) (hlen : (sl ss i).es.length ≤ 10000) :
    Calls Try.prog 44 #[.pointer (some ⟨g, o, none⟩), str key] w fun e w' => ∃ v', e = .returned v' ∧ EntO w.heap.size w' v' (sl ss i).es ∧ Keep w w' := by
  obtain ⟨m, hm3, hm20, hmn⟩ := tv.pow
  have hn20 : n ≤ 2 ^ 20 := by rw [hn, hmn]; exact Nat.pow_le_pow_right (by omega) hm20
  have FS : findF ss key (hashB key) = ((i : Int), true) := by
    rcases find_spec tv key with ⟨i', hi', hf, he1, he2⟩ | ⟨j, hj, hfj, -, -, hab⟩
    · have := tv.uniq i' i hi' hi he1 h1 (by rw [he2, hkey])
      subst this
      exact hf
    · exact absurd hkey (hab i hi h1)
  have FC := find_c g o b n m ss key (hashB key) w hc hS hn (hn.trans hmn) hm20 (hashB_lt key)
  rw [FS] at FC
  simp only at FC
  obtain ⟨s0, s1, s2, s3⟩ := hS.at i hi
  rw [← sl_eq hi] at s3
  generalize (sl ss i).lv = lv at *
  generalize (sl ss i).es = es at *
  have hin : (i : Int) < n := by omega
  rcases hE.form with ⟨-, h0⟩ | ⟨ge, cap, cur, rfl, hBe, hA, hnc, hcm, hcs, htk⟩
  · exact absurd h0 hne
  have HT := Hid.mk htk
  obtain ⟨L, hL⟩ : ∃ L, L = es.length := ⟨_, rfl⟩
  rw [← hL] at s3 hlen hnc
  have MK := run_makeEnts L (by omega) w
  have HL := Hid.mk hL
  have A7 := Arr.new w 64 ((List.replicate L ent0).flatMap entC)
  have K7 := (Keep.refl w).alloc (.cells ((List.replicate L ent0).flatMap entC).toArray 64)
  have S0 : Hid ((List.replicate L ent0).flatMap entC = (es.take 0 ++ List.replicate (L - 0) ent0).flatMap entC) := Hid.mk (by simp)
  clear hn hmn FS htk hL hcs
  go_enter Try.func44, Try.ntmps44
  go_wp2_with fail
  refine (hashKey_c key _ hk).mono ?_
  rintro r w2 ⟨rfl, rfl⟩
  generalize hashB key = hh at *
  go_wp2_with fail
  refine FC.mono ?_
  rintro r w2 ⟨rfl, rfl⟩
  go_wp2_with fail
  generalize hg7 : w2.heap.size = g7 at *
  have HG7 := Hid.mk hg7
  clear hg7 MK FC
  have AK := Hid.mk (fun (W : World) (h : Keep w2 W) => h.cell hc)
  have S3 := Hid.mk (fun (W : World) (h : Keep w2 W) => h.cell s3)
  have AE := Hid.mk (fun (W : World) (h : Keep w2 W) => hA.keep h)
  clear s0 s1 s2 s3
  rw [S0.out] at A7 K7 ⊢
  clear S0
  generalize w2.alloc (.cells ((es.take 0 ++ List.replicate (L - 0) ent0).flatMap entC).toArray 64) = w3 at *
  go_loopg [8] L (fun gk iv wr => ∃ k : Nat, k + gk = L ∧ iv = .int .i64 k ∧ Arr wr g7 64 ((es.take k ++ List.replicate (L - k) ent0).flatMap entC) ∧ Keep w2 wr)
  case atStart => exact ⟨0, by omega, rfl, A7, K7⟩
  case round => as_aux_lemma =>
    obtain ⟨k, hk2, rfl, B7, kw⟩ := hrel
    have HK := Hid.mk hk2
    clear hk2 A7 K7
    by_cases hlt : k < L
    · have j1 : (k : Int) < L := by omega
      have hke : k < es.length := by have := HL.out; omega
      have c1 := AK.out wr kw
      have c2 := S3.out wr kw
      have AX := AE.out wr kw
      have y0 := flat_take_get entC_length HT.out k 0 hke (by omega)
      rw [Nat.add_zero] at y0
      have x0 := (AX.cell (k * 3)).trans y0
      have x1 := (AX.cell (k * 3 + 1)).trans (flat_take_get entC_length HT.out k 1 hke (by omega))
      have x2 := (AX.cell (k * 3 + 2)).trans (flat_take_get entC_length HT.out k 2 hke (by omega))
      have hlen2 : (es.take k ++ List.replicate (L - k) ent0).length = L := by rw [List.length_append, List.length_take, List.length_replicate]; omega
      have hkl2 : k < (es.take k ++ List.replicate (L - k) ent0).length := by omega
      have z0 := flat_get entC 3 entC_length (es.take k ++ List.replicate (L - k) ent0) k 0 hkl2 (by omega)
      rw [Nat.add_zero] at z0
      have w0 := (B7.cell (k * 3)).trans z0
      have w1 := (B7.cell (k * 3 + 1)).trans (flat_get entC 3 entC_length (es.take k ++ List.replicate (L - k) ent0) k 1 hkl2 (by omega))
      have w2' := (B7.cell (k * 3 + 2)).trans (flat_get entC 3 entC_length (es.take k ++ List.replicate (L - k) ent0) k 2 hkl2 (by omega))
      have f0 := B7.frozen (k * 3)
      have f1 := B7.frozen (k * 3 + 1)
      have f2 := B7.frozen (k * 3 + 2)
      have HS : Hid (∀ x, ((((es.take k ++ List.replicate (L - k) ent0).flatMap entC).set (k * 3) (.int .i64 x.layer)).set (k * 3 + 1) (str x.raw)).set (k * 3 + 2) (.int .i64 x.kind) = ((es.take k ++ List.replicate (L - k) ent0).set k x).flatMap entC) := Hid.mk (fun x => flat_set3 x _ k hkl2)
      have HC : Hid ((es.take k ++ List.replicate (L - k) ent0).set k es[k] = es.take (k + 1) ++ List.replicate (L - (k + 1)) ent0) := Hid.mk (copy_step es hke HL.out)
      have hgw : w2.heap.size ≤ g7 := by have := HG7.out; omega
      clear y0 z0 hlen2
      generalize es[k] = X at *
      generalize (es.take k ++ List.replicate (L - k) ent0)[k] = Y at *
      obtain ⟨xl, xr, xk⟩ := X
      obtain ⟨yl, yr, yk⟩ := Y
      simp only [entC, List.getElem?_cons_zero, List.getElem?_cons_succ] at x0 x1 x2 w0 w1 w2'
      go_wp2_with fail
      have BF := ((B7.set (k * 3) (.int .i64 xl)).set (k * 3 + 1) (str xr)).set (k * 3 + 2) (.int .i64 xk)
      have hh2 := HS.out ⟨xl, xr, xk⟩
      simp only at hh2
      rw [hh2, HC.out] at BF
      go_roundg (L - (k + 1))
      case measure => have := HK.out; omega
      case rel => exact ⟨k + 1, by omega, by go_num, BF, ((kw.setCell hgw _).setCell hgw _).setCell hgw _⟩
    · have j1 : ¬ (k : Int) < L := by omega
      have hkL : k = L := by have := HK.out; omega
      subst hkL
      rw [Nat.sub_self, List.replicate_zero, List.append_nil, List.take_of_length_le (by have := HL.out; omega)] at B7
      have HL2 := HL.out
      go_wp2_with fail
      go_ret
      refine ⟨_, rfl, ⟨flat_length entC 3 entC_length es, Or.inr ⟨g7, k, _, by rw [← HL2]; rfl, by have := HG7.out; omega, B7, by omega, by unfold maxLen; omega, ?_, ?_⟩⟩, kw⟩
      · simp only [List.size_toArray]; rw [flat_length entC 3 entC_length es, HL2]
      · simp only; rw [← flat_length entC 3 entC_length es, List.take_length]
end Go.Proofs.Qxb6500766a
