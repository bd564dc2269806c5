/- Doubling in GF(2^128): modes.double and modesm.Double. -/
import Derived.Test.Qxb6500771aGreatEa
namespace Go.Proofs.Qxb6500771aGreat
open Go.RowKit Go.Qm
set_option linter.unusedVariables false
set_option linter.unusedSimpArgs false
attribute [local go_sem ↓] Go.wp_at_zero Go.wp_at_succ

/-- The octet i of the double, before the reduction. -/
def dbo (s : List UInt8) (i : Nat) : UInt8 := UInt8.ofNat ((s.getD i 0).toNat % 128 * 2 + (if i < 15 then (s.getD (i + 1) 0).toNat / 128 else 0))
def db0 (s : List UInt8) : List UInt8 := (List.range 16).map (dbo s)
def dbl (s : List UInt8) : List UInt8 := if 128 ≤ (s.getD 0 0).toNat then (db0 s).set 15 (dbo s 15 ^^^ 135) else db0 s
theorem db0_length (s : List UInt8) : (db0 s).length = 16 := by simp [db0]
theorem dbl_length (s : List UInt8) : (dbl s).length = 16 := by unfold dbl; split <;> simp [db0]
theorem wrap8' (x : Int) : IntKind.u8.wrap x = x % 256 := by simp [IntKind.wrap, IntKind.signed, IntKind.bits]
theorem dbo_nat (s : List UInt8) (i : Nat) (c : Nat) (hc : c = (if i < 15 then (s.getD (i + 1) 0).toNat / 128 else 0)) : (dbo s i).toNat = (s.getD i 0).toNat % 128 * 2 + c := by
  unfold dbo
  rw [← hc, UInt8.toNat_ofNat']
  apply Nat.mod_eq_of_lt
  have h1 : (s.getD i 0).toNat % 128 < 128 := Nat.mod_lt _ (by omega)
  have h2 : c ≤ 1 := by
    rw [hc]
    split
    · have := (s.getD (i + 1) 0).toNat_lt
      omega
    · omega
  omega
theorem or_bit (x c : Nat) (hx : x < 256) (hc : c ≤ 1) : bits .or .u8 ((x : Int) * 2 % 256) (c : Int) = ((x % 128 * 2 + c : Nat) : Int) := by
  have e : ((x : Int) * 2 % 256) = ((x % 128 * 2 : Nat) : Int) := by omega
  rw [e, bits_or_u8 _ _ (by omega) (by omega)]
  have := Nat.two_pow_add_eq_or_of_lt (b := c) (i := 1) (by omega) (x % 128)
  rw [Nat.mul_comm (x % 128) 2]
  simp only [Nat.pow_one] at this
  rw [this]
set_option maxHeartbeats 1000000 in
theorem mDouble_c (v : Value) (s : List UInt8) (w : World) (h : Bs w v s) (hl : s.length = 16) : Calls Tryz.prog 97 #[v] w fun e w' => ∃ v', e = .returned v' ∧ Own w.heap.size 5 w' v' ((dbl s).map cb) ∧ Keep w w' := by
  obtain ⟨a, c, rfl, hac, hcm, hca⟩ := h.form
  unfold maxLen at hcm
  rw [hl] at h ⊢
  have HL := Hid.mk hl
  have hc16 : 16 ≤ c := by omega
  clear hl hac h
  go_enter Tryz.func97, Tryz.ntmps97
  go_wp2
  go_loopw [3, 4, 5] (fun ov iv nv wr => ∃ k : Nat, k ≤ 16 ∧ iv = .int .i64 k ∧ Own w.heap.size 5 wr ov (((List.range k).map (dbo s)).map cb) ∧ Keep w wr) (fun _ i _ _ => 16 - (intOf i).toNat)
  case atStart => exact ⟨0, by omega, rfl, Own.lit [] (Nat.le_refl _) (by simp), (Keep.refl _).alloc _⟩
  case round =>
    obtain ⟨k, hk, rfl, hown, kw⟩ := hrel
    by_cases hlt : k < 16
    · have hlt' : (k : Int) < 16 := by omega
      have hkl : (((List.range k).map (dbo s)).map cb).length = k := by simp
      have HK := Hid.mk hkl
      have hgd : s.getD k 0 = s[k]'(by have := HL.out; omega) := by rw [List.getD_eq_getElem?_getD, List.getElem?_eq_getElem (by have := HL.out; omega)]; rfl
      obtain ⟨b, o, rfl, h1⟩ := hca k (by have := HL.out; omega)
      replace h1 := kw.cell h1
      rw [← hgd] at h1
      have hx := (s.getD k 0).toNat_lt
      obtain ⟨r, hr⟩ : ∃ r : Nat, r = (s.getD k 0).toNat % 128 := ⟨_, rfl⟩
      obtain ⟨r2, hr2⟩ : ∃ r2 : Nat, r2 = r * 2 := ⟨_, rfl⟩
      have f1 : ((s.getD k 0).toNat : Int) % 128 = (r : Int) := by omega
      have f1' : ((s.getD k 0).toNat : Int).tmod 128 = (r : Int) := by rw [hr]; exact (Int.ofNat_tmod _ 128).symm
      have f2 : (r : Int) * 2 % 256 = (r2 : Int) := by omega
      have f2' : IntKind.u8.wrap ((r : Int) * 2) = (r2 : Int) := by rw [wrap8']; omega
      by_cases h15 : k < 15
      · have h15' : (k : Int) < 15 := by omega
        have hgd2 : s.getD (k + 1) 0 = s[k + 1]'(by have := HL.out; omega) := by rw [List.getD_eq_getElem?_getD, List.getElem?_eq_getElem (by have := HL.out; omega)]; rfl
        obtain ⟨b', o', e', h2⟩ := hca (k + 1) (by have := HL.out; omega)
        simp at e'
        obtain ⟨rfl, rfl⟩ := e'
        replace h2 := kw.cell h2
        rw [← hgd2] at h2
        have hy := (s.getD (k + 1) 0).toNat_lt
        obtain ⟨cc, hcc⟩ : ∃ cc : Nat, cc = (s.getD (k + 1) 0).toNat / 128 := ⟨_, rfl⟩
        have hn := dbo_nat s k cc (by rw [if_pos h15]; exact hcc)
        have f3 : ((s.getD (k + 1) 0).toNat : Int) / 128 = (cc : Int) := by omega
        have f3' : (cc : Int) % 256 = (cc : Int) := by omega
        have f3b : IntKind.u8.wrap (cc : Int) = (cc : Int) := by rw [wrap8']; omega
        have f4 : ((r2 : Int) + cc) % 256 = ((dbo s k).toNat : Int) := by omega
        have f4' : IntKind.u8.wrap ((r2 : Int) + cc) = ((dbo s k).toNat : Int) := by rw [wrap8']; omega
        have g1 : (k : Int) + 1 < 16 := by omega
        have ED : Hid (((List.range (k + 1)).map (dbo s)).map cb = ((List.range k).map (dbo s)).map cb ++ [.int .u8 (dbo s k).toNat]) := Hid.mk (by simp [List.range_succ, cb])
        generalize s.getD k 0 = x at *
        generalize s.getD (k + 1) 0 = y at *
        generalize dbo s k = z at *
        clear hkl hgd hgd2 hr hr2 hcc hn hx hy
        go_wp2_with (at_builtin; refine wpList_app (by rfl) _ _ _ (by rfl) Tryz.underlying26 inf5 rfl w.heap.size (hown.alloc _) (Sl.one _) (by simp [Value.oneCell']) (by rfl) (by rfl) (by rw [HK.out]; simp [maxLen]; omega) (by rw [HK.out]; simp; omega) (by have := kw.size; simp; omega) ?_; intro v' w' hown' hgr hob)
        go_roundw
        case rel => exact ⟨k + 1, by omega, by go_num, by rw [ED.out]; exact hown', (kw.alloc _).grown hgr (fun q hq => (hown.lt q hq).1)⟩
        case measure => simp [intOf]; omega
      · have h15' : ¬ (k : Int) < 15 := by omega
        have hn := dbo_nat s k 0 (by rw [if_neg h15])
        have f4 : (r2 : Int) % 256 = ((dbo s k).toNat : Int) := by omega
        have f4' : IntKind.u8.wrap (r2 : Int) = ((dbo s k).toNat : Int) := by rw [wrap8']; omega
        have f5 : (r2 : Int) = ((dbo s k).toNat : Int) := by omega
        have ED : Hid (((List.range (k + 1)).map (dbo s)).map cb = ((List.range k).map (dbo s)).map cb ++ [.int .u8 (dbo s k).toNat]) := Hid.mk (by simp [List.range_succ, cb])
        generalize s.getD k 0 = x at *
        generalize dbo s k = z at *
        clear hkl hgd hr hr2 hn hx
        go_wp2_with (at_builtin; refine wpList_app (by rfl) _ _ _ (by rfl) Tryz.underlying26 inf5 rfl w.heap.size (hown.alloc _) (Sl.one _) (by simp [Value.oneCell']) (by rfl) (by rfl) (by rw [HK.out]; simp [maxLen]; omega) (by rw [HK.out]; simp; omega) (by have := kw.size; simp; omega) ?_; intro v' w' hown' hgr hob)
        go_roundw
        case rel => exact ⟨k + 1, by omega, by go_num, by rw [ED.out]; exact hown', (kw.alloc _).grown hgr (fun q hq => (hown.lt q hq).1)⟩
        case measure => simp [intOf]; omega
    · have hlt' : ¬ (k : Int) < 16 := by omega
      have : k = 16 := by omega
      subst this
      obtain ⟨b, o, rfl, h1⟩ := hca 0 (by have := HL.out; omega)
      replace h1 := kw.cell h1
      have hgd : s.getD 0 0 = s[0]'(by have := HL.out; omega) := by rw [List.getD_eq_getElem?_getD, List.getElem?_eq_getElem (by have := HL.out; omega)]; rfl
      rw [← hgd, Nat.add_zero] at h1
      rcases hown.win with ⟨-, h0⟩ | ⟨g, cap, sp, rfl, hB, hwin, hcap, hm⟩
      · simp at h0
      have hd0 : (List.range 16).map (dbo s) = db0 s := rfl
      rw [hd0] at hown hwin hcap ⊢
      rw [db0_length] at hcap ⊢
      unfold maxLen at hm
      have hcap16 : 16 ≤ cap := by omega
      have HCP := Hid.mk hcap
      have c15 : wr.cell? ⟨g, 15, none⟩ = some (.int .u8 (dbo s 15).toNat) := hwin.cell (k := 15) (o := 15) (by rw [db0_length]; omega) (by simp)
      have fr := hwin.frozen 15
      have hset := hwin.set (k := 15) (by rw [db0_length]; omega) (dbo s 15 ^^^ 135) (o := 15) (by simp)
      have x135 : bits .xor .u8 ((dbo s 15).toNat : Int) 135 = ((dbo s 15 ^^^ 135).toNat : Int) := bits_xor8 (dbo s 15) 135
      by_cases hx : 128 ≤ (s.getD 0 0).toNat
      · have hx' : (128 : Int) ≤ (s.getD 0 0).toNat := by omega
        have ED : Hid (dbl s = (db0 s).set 15 (dbo s 15 ^^^ 135)) := Hid.mk (by unfold dbl; rw [if_pos hx])
        generalize dbo s 15 ^^^ 135 = z at *
        have HS := Hid.mk hset
        clear hset hgd hcap hx hd0 hwin hown hca
        generalize dbo s 15 = d15 at *
        generalize s.getD 0 0 = x0 at *
        go_wp2
        go_ret
        refine ⟨_, rfl, ?_, kw.setCell (by simpa using hB) _⟩
        rw [ED.out]
        have := Own.of_win (cap := cap) hB HS.out (by rw [List.length_set, db0_length]; exact HCP.out) (by simpa [maxLen] using hm)
        rw [List.length_set, db0_length] at this
        exact this
      · have hx' : ¬ (128 : Int) ≤ (s.getD 0 0).toNat := by omega
        have ED : Hid (dbl s = db0 s) := Hid.mk (by unfold dbl; rw [if_neg hx])
        have HO := Hid.mk hown
        clear hset hgd hcap hx hd0 hwin hown hca x135
        generalize dbo s 15 = d15 at *
        generalize s.getD 0 0 = x0 at *
        go_wp2
        go_ret
        refine ⟨_, rfl, ?_, kw⟩
        rw [ED.out]
        have hown := HO.out
        rw [db0_length] at hown
        exact hown
end Go.Proofs.Qxb6500771aGreat
