/- cipherm: DES's lists of bits. -/
import Derived.Test.Qxb6500769aDc
namespace Go.Proofs.Qxb6500769a
open Go.RowKit Go.Qm
set_option linter.unusedVariables false
set_option linter.unusedSimpArgs false
attribute [local go_sem ↓] Go.wp_at_zero Go.wp_at_succ

/-- choose. -/
def chs (m : List UInt8) (t : List Nat) : List UInt8 := t.map fun n => m.getD (n - 1) 0
theorem chs_length (m : List UInt8) (t : List Nat) : (chs m t).length = t.length := by simp [chs]
theorem chs_step (m : List UInt8) (t : List Nat) (k : Nat) (hk : k < t.length) (x : UInt8) (hx : x = m.getD (t[k] - 1) 0) : (chs m (t.take k)).map cb ++ [Value.int .u8 x.toNat] = (chs m (t.take (k + 1))).map cb := by
  rw [List.take_succ_eq_append_getElem hk, chs, chs, List.map_append, List.map_append, hx]; rfl
theorem Sl.formX {w : World} {v : Value} {l : List Nat} (h : Sl w v (l.map ci)) :
    ∃ (a : Option Addr) (c : Nat), v = .slice a l.length c ∧ l.length ≤ c ∧ c ≤ maxLen ∧ ∀ k (hk : k < l.length), ∃ b o, a = some ⟨b, o, none⟩ ∧ w.cell? ⟨b, o + k, none⟩ = some (.int .i64 ((l[k] : Nat) : Int)) := by
  obtain ⟨a, c, rfl, h1, h2, h3⟩ := h
  refine ⟨a, c, by simp, by simpa using h1, h2, fun k hk => ?_⟩
  exact h3 k _ (by rw [List.getElem?_map, List.getElem?_eq_getElem hk]; rfl)
set_option maxHeartbeats 1000000 in
theorem choose_c (v tv : Value) (m : List UInt8) (t : List Nat) (w : World) (h : Bs w v m) (ht : Sl w tv (t.map ci)) (hr : ∀ n ∈ t, 1 ≤ n ∧ n ≤ m.length) (htl : t.length ≤ 1000) :
    Calls Try.prog 72 #[v, tv] w fun e w' => ∃ v', e = .returned v' ∧ Own w.heap.size 5 w' v' ((chs m t).map cb) ∧ Keep w w' := by
  obtain ⟨a, c, rfl, hac, hcm, hca⟩ := h.form
  obtain ⟨ta, tc, rfl, htac, htcm, htca⟩ := Sl.formX ht
  unfold maxLen at hcm htcm
  have HR := Hid.mk hr
  have ET : Hid (chs m t = chs m (t.take t.length)) := Hid.mk (by rw [List.take_length])
  clear hr h ht
  obtain ⟨n, hn⟩ : ∃ n, n = m.length := ⟨_, rfl⟩
  obtain ⟨nt, hnt⟩ : ∃ nt, nt = t.length := ⟨_, rfl⟩
  have HN := Hid.mk hn
  have HNT := Hid.mk hnt
  rw [← hn] at hac ⊢
  rw [← hnt] at htac htl ⊢
  clear hn hnt
  go_enter Try.func72, Try.ntmps72
  go_wp2
  go_loopw [5, 6] (fun ov i wr => ∃ k : Nat, k ≤ nt ∧ i = .int .i64 k ∧ Own w.heap.size 5 wr ov ((chs m (t.take k)).map cb) ∧ Keep w wr) (fun _ i _ => nt - (intOf i).toNat)
  case atStart => exact ⟨0, by omega, rfl, Own.lit [] (Nat.le_refl _) (by simp), (Keep.refl _).alloc _⟩
  case round =>
    obtain ⟨k, hk, rfl, hown, kw⟩ := hrel
    by_cases hlt : k < nt
    · have hkt : k < t.length := by have := HNT.out; omega
      obtain ⟨tb, to, rfl, h2⟩ := htca k hkt
      have hr := HR.out t[k] (List.getElem_mem hkt)
      obtain ⟨j, hj⟩ : ∃ j, j = t[k] - 1 := ⟨_, rfl⟩
      have hjm : j < m.length := by omega
      obtain ⟨b, o, rfl, h1⟩ := hca j hjm
      have hxe : m[j] = m.getD (t[k] - 1) 0 := by rw [← hj]; simp [List.getD, hjm]
      have HS := Hid.mk (chs_step m t k hkt m[j] hxe)
      replace h1 := kw.cell h1
      replace h2 := kw.cell h2
      have hji : ((t[k] : Nat) : Int) - 1 = (j : Int) := by omega
      have hjn : j < n := by have := HN.out; omega
      generalize m[j] = x at *
      clear hxe hjm hr
      generalize t[k] = tk at *
      have HJ := Hid.mk hj
      have e1 : IntKind.i64.wrap ((tk : Int) - 1) = (j : Int) := by rw [IntKind.wrap_i64] <;> omega
      clear hj
      have hlt' : (k : Int) < nt := by omega
      have hjn' : (j : Int) < n := by omega
      have hg : (0 : Int) ≤ k := by omega
      have hgj : (0 : Int) ≤ j := by omega
      have hkl : ((chs m (t.take k)).map cb).length = k := by rw [List.length_map, chs_length, List.length_take]; omega
      have HK := Hid.mk hkl
      clear hkl hji
      go_wp2_with (at_builtin; refine wpList_app (by rfl) _ _ _ (by rfl) Try.underlying27 inf5 rfl w.heap.size (hown.alloc _) (Sl.one _) (by simp [Value.oneCell']) (by rfl) (by rfl) (by rw [HK.out]; simp [maxLen]; omega) (by rw [HK.out]; simp; omega) (by have := kw.size; simp; omega) ?_; intro v' w' hown' hgr hob)
      go_roundw
      case rel => exact ⟨k + 1, by omega, by go_num, by rw [HS.out] at hown'; exact hown', (kw.alloc _).grown hgr (fun q hq => (hown.lt q hq).1)⟩
      case measure => simp [intOf]; omega
    · have hlt' : ¬ (k : Int) < nt := by omega
      have : k = nt := by omega
      subst this
      go_wp2
      go_ret
      exact ⟨_, rfl, by rw [ET.out, ← HNT.out]; exact hown, kw⟩

/-- shifted. -/
def shf (m : List UInt8) (n : Nat) : List UInt8 := (List.range m.length).map fun i => m.getD ((i + n) % m.length) 0
theorem shf_length (m : List UInt8) (n : Nat) : (shf m n).length = m.length := by simp [shf]
def shk (m : List UInt8) (n k : Nat) : List UInt8 := (List.range k).map fun i => m.getD ((i + n) % m.length) 0
set_option maxHeartbeats 1000000 in
theorem shifted_c (v : Value) (m : List UInt8) (n : Nat) (w : World) (h : Bs w v m) (hn : n ≤ 2) (hm : m.length ≤ 1000) :
    Calls Try.prog 96 #[v, .int .i64 n] w fun e w' => ∃ v', e = .returned v' ∧ Own w.heap.size 5 w' v' ((shf m n).map cb) ∧ Keep w w' := by
  obtain ⟨a, c, rfl, hac, hcm, hca⟩ := h.form
  unfold maxLen at hcm
  clear h
  obtain ⟨nm, hnm⟩ : ∃ nm, nm = m.length := ⟨_, rfl⟩
  have ES : Hid (shf m n = shk m n nm) := Hid.mk (by rw [hnm]; rfl)
  have HN := Hid.mk hnm
  rw [← hnm] at hac hm ⊢
  clear hnm
  go_enter Try.func96, Try.ntmps96
  go_wp2
  go_loopw [5, 6] (fun ov i wr => ∃ k : Nat, k ≤ nm ∧ i = .int .i64 k ∧ Own w.heap.size 5 wr ov ((shk m n k).map cb) ∧ Keep w wr) (fun _ i _ => nm - (intOf i).toNat)
  case atStart => exact ⟨0, by omega, rfl, Own.lit [] (Nat.le_refl _) (by simp), (Keep.refl _).alloc _⟩
  case round =>
    obtain ⟨k, hk, rfl, hown, kw⟩ := hrel
    by_cases hlt : k < nm
    · obtain ⟨j, hj⟩ : ∃ j, j = (k + n) % nm := ⟨_, rfl⟩
      have hjn : j < nm := by rw [hj]; exact Nat.mod_lt _ (by omega)
      have hjm : j < m.length := by have := HN.out; omega
      obtain ⟨b, o, rfl, h1⟩ := hca j hjm
      have hxe : m[j] = m.getD ((k + n) % m.length) 0 := by rw [← HN.out, ← hj]; simp [List.getD, hjm]
      have HS : Hid ((shk m n k).map cb ++ [Value.int .u8 (m[j]).toNat] = (shk m n (k + 1)).map cb) := Hid.mk (by
        rw [shk, shk, List.range_succ, List.map_append, List.map_append, hxe]; rfl)
      replace h1 := kw.cell h1
      have ht : ((k : Int) + n).tmod nm = (j : Int) := by rw [hj]; exact (Int.ofNat_tmod (k + n) nm).symm
      generalize m[j] = x at *
      have HJ := Hid.mk hj
      clear hxe hjm hj
      have hlt' : (k : Int) < nm := by omega
      have hnz : ¬ (nm : Int) = 0 := by omega
      have hjn' : (j : Int) < nm := by omega
      have hg : (0 : Int) ≤ k := by omega
      have hgj : (0 : Int) ≤ j := by omega
      have hkl : ((shk m n k).map cb).length = k := by simp [shk]
      have HK := Hid.mk hkl
      clear hkl
      go_wp2_with (at_builtin; refine wpList_app (by rfl) _ _ _ (by rfl) Try.underlying27 inf5 rfl w.heap.size (hown.alloc _) (Sl.one _) (by simp [Value.oneCell']) (by rfl) (by rfl) (by rw [HK.out]; simp [maxLen]; omega) (by rw [HK.out]; simp; omega) (by have := kw.size; simp; omega) ?_; intro v' w' hown' hgr hob)
      go_roundw
      case rel => exact ⟨k + 1, by omega, by go_num, by rw [HS.out] at hown'; exact hown', (kw.alloc _).grown hgr (fun q hq => (hown.lt q hq).1)⟩
      case measure => simp [intOf]; omega
    · have hlt' : ¬ (k : Int) < nm := by omega
      have : k = nm := by omega
      subst this
      go_wp2
      go_ret
      exact ⟨_, rfl, by rw [ES.out]; exact hown, kw⟩

set_option maxHeartbeats 1000000 in
theorem both_c (v v' : Value) (la lb : List UInt8) (w : World) (ha : Bs w v la) (hb : Bs w v' lb) (hl : la.length + lb.length ≤ 100000) :
    Calls Try.prog 77 #[v, v'] w fun e w' => ∃ r, e = .returned r ∧ Own w.heap.size 5 w' r ((la ++ lb).map cb) ∧ Keep w w' := by
  obtain ⟨a, c, rfl, hac, hcm, hca⟩ := ha.form
  obtain ⟨a', c', rfl, hac', hcm', hcb⟩ := hb.form
  unfold maxLen at hcm hcm'
  clear ha hb
  go_enter Try.func77, Try.ntmps77
  go_wp2_with fail
  go_loopw [5, 6] (fun ov i wr => ∃ k : Nat, k ≤ la.length ∧ i = .int .i64 k ∧ Own w.heap.size 5 wr ov ((la.take k).map cb) ∧ Keep w wr) (fun _ i _ => la.length - (intOf i).toNat)
  case atStart => exact ⟨0, by omega, rfl, Own.lit [] (Nat.le_refl _) (by simp), (Keep.refl _).alloc _⟩
  case round =>
    obtain ⟨k, hk, rfl, hown, kw⟩ := hrel
    by_cases hlt : k < la.length
    · obtain ⟨b, o, rfl, h1⟩ := hca k hlt
      replace h1 := kw.cell h1
      have hlt' : (k : Int) < la.length := by omega
      have hg : (0 : Int) ≤ k := by omega
      have hkl : ((la.take k).map cb).length = k := by simp; omega
      have HK := Hid.mk hkl
      clear hkl
      go_wp2_with (at_builtin; refine wpList_app (by rfl) _ _ _ (by rfl) Try.underlying27 inf5 rfl w.heap.size (hown.alloc _) (Sl.one _) (by simp [Value.oneCell']) (by rfl) (by rfl) (by rw [HK.out]; simp [maxLen]; omega) (by rw [HK.out]; simp; omega) (by have := kw.size; simp; omega) ?_; intro v' w' hown' hgr hob)
      go_roundw
      case rel => exact ⟨k + 1, by omega, by go_num, by rw [map_take_succ] at hown'; exact hown', (kw.alloc _).grown hgr (fun q hq => (hown.lt q hq).1)⟩
      case measure => simp [intOf]; omega
    · have hlt' : ¬ (k : Int) < la.length := by omega
      rw [List.take_of_length_le (by omega), show la.map cb = (la ++ lb.take 0).map cb by simp] at hown
      have hown0 := hown
      clear hown
      have kw0 := kw
      clear kw
      go_wp2_with fail
      go_loopw [5, 7] (fun ov i wr => ∃ k : Nat, k ≤ lb.length ∧ i = .int .i64 k ∧ Own w.heap.size 5 wr ov ((la ++ lb.take k).map cb) ∧ Keep w wr) (fun _ i _ => lb.length - (intOf i).toNat)
      case atStart => exact ⟨0, by omega, rfl, hown0, kw0⟩
      case round =>
        clear hown0 kw0 hlt hlt' hk
        obtain ⟨k, hk, rfl, hown, kw⟩ := hrel
        by_cases hlt : k < lb.length
        · obtain ⟨b, o, rfl, h1⟩ := hcb k hlt
          replace h1 := kw.cell h1
          have hlt' : (k : Int) < lb.length := by omega
          have hg : (0 : Int) ≤ k := by omega
          have hkl : ((la ++ lb.take k).map cb).length = la.length + k := by simp; omega
          have HK := Hid.mk hkl
          clear hkl
          go_wp2_with (at_builtin; refine wpList_app (by rfl) _ _ _ (by rfl) Try.underlying27 inf5 rfl w.heap.size (hown.alloc _) (Sl.one _) (by simp [Value.oneCell']) (by rfl) (by rfl) (by rw [HK.out]; simp [maxLen]; omega) (by rw [HK.out]; simp; omega) (by have := kw.size; simp; omega) ?_; intro v' w' hown' hgr hob)
          go_roundw
          case rel =>
            refine ⟨k + 1, by omega, by go_num, ?_, (kw.alloc _).grown hgr (fun q hq => (hown.lt q hq).1)⟩
            rw [List.map_append, List.append_assoc, map_take_succ, ← List.map_append] at hown'
            exact hown'
          case measure => simp [intOf]; omega
        · have hlt' : ¬ (k : Int) < lb.length := by omega
          go_wp2
          go_ret
          rw [List.take_of_length_le (by omega)] at hown
          exact ⟨_, rfl, by simpa using hown, kw⟩

/-- leftShifts. -/
def lsh (n : Nat) : Nat := if n = 1 ∨ n = 2 ∨ n = 9 ∨ n = 16 then 1 else 2
theorem lsh_le (n : Nat) : lsh n ≤ 2 := by unfold lsh; split <;> omega
theorem leftShifts_c (n : Nat) (w : World) (h1 : 1 ≤ n) (h2 : n ≤ 16) : Calls Try.prog 97 #[.int .i64 n] w fun e w' => e = .returned (.int .i64 (lsh n : Nat)) ∧ w' = w := by
  go_enter Try.func97, Try.ntmps97
  match n, h1, h2 with
  | 1, _, _ => go_wp2; go_ret; exact ⟨rfl, rfl⟩
  | 2, _, _ => go_wp2; go_ret; exact ⟨rfl, rfl⟩
  | 3, _, _ => go_wp2; go_ret; exact ⟨rfl, rfl⟩
  | 4, _, _ => go_wp2; go_ret; exact ⟨rfl, rfl⟩
  | 5, _, _ => go_wp2; go_ret; exact ⟨rfl, rfl⟩
  | 6, _, _ => go_wp2; go_ret; exact ⟨rfl, rfl⟩
  | 7, _, _ => go_wp2; go_ret; exact ⟨rfl, rfl⟩
  | 8, _, _ => go_wp2; go_ret; exact ⟨rfl, rfl⟩
  | 9, _, _ => go_wp2; go_ret; exact ⟨rfl, rfl⟩
  | 10, _, _ => go_wp2; go_ret; exact ⟨rfl, rfl⟩
  | 11, _, _ => go_wp2; go_ret; exact ⟨rfl, rfl⟩
  | 12, _, _ => go_wp2; go_ret; exact ⟨rfl, rfl⟩
  | 13, _, _ => go_wp2; go_ret; exact ⟨rfl, rfl⟩
  | 14, _, _ => go_wp2; go_ret; exact ⟨rfl, rfl⟩
  | 15, _, _ => go_wp2; go_ret; exact ⟨rfl, rfl⟩
  | 16, _, _ => go_wp2; go_ret; exact ⟨rfl, rfl⟩
  | n + 17, _, h => omega

end Go.Proofs.Qxb6500769a
