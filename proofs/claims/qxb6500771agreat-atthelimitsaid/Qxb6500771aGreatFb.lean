/- octetsm: plus, AddOnes. -/
import Derived.Test.Qxb6500771aGreatFa
import Derived.BigQuiet
namespace Go.Proofs.Qxb6500771aGreat
open Go.RowKit Go.Qm
set_option linter.unusedVariables false
set_option linter.unusedSimpArgs false
attribute [local go_sem ↓] Go.wp_at_zero Go.wp_at_succ
/-- The digit i of a number of n digits, from the end. -/
def dg (a : List UInt8) (n i : Nat) : Nat := (a.getD (n - 1 - i) 0).toNat
theorem dg_lt (a : List UInt8) (n i : Nat) : dg a n i < 256 := UInt8.toNat_lt _
def crr (a b : List UInt8) (n c : Nat) : Nat → Nat
  | 0 => c
  | i + 1 => (dg a n i + dg b n i + crr a b n c i) / 256
def pd (a b : List UInt8) (n c i : Nat) : Nat := (dg a n i + dg b n i + crr a b n c i) % 256
def plF (a b : List UInt8) (n c k : Nat) : UInt8 := UInt8.ofNat (pd a b n c (n - 1 - k))
def plL (a b : List UInt8) (n c : Nat) : List UInt8 := (List.range n).map (plF a b n c)
theorem plL_length (a b : List UInt8) (n c : Nat) : (plL a b n c).length = n := by simp [plL]
def svv (g : Nat → Nat) : Nat → Nat
  | 0 => 0
  | j + 1 => svv g j + g j * 256 ^ j
theorem sv_le {g : Nat → Nat} (h : ∀ i, g i < 256) : ∀ j, svv g j + 1 ≤ 256 ^ j
  | 0 => by simp [svv]
  | j + 1 => by
    have h1 := sv_le h j
    have h2 : g j * 256 ^ j ≤ 255 * 256 ^ j := Nat.mul_le_mul_right _ (by have := h j; omega)
    rw [svv, Nat.pow_succ]
    omega
theorem sv_congr {g h : Nat → Nat} : ∀ j, (∀ i < j, g i = h i) → svv g j = svv h j
  | 0, _ => rfl
  | j + 1, e => by rw [svv, svv, sv_congr j (fun i hi => e i (by omega)), e j (by omega)]
theorem sv_zero : ∀ j, svv (fun _ => 0) j = 0
  | 0 => rfl
  | j + 1 => by rw [svv, sv_zero j]; simp
theorem plus_law (a b : List UInt8) (n c : Nat) : ∀ j, svv (pd a b n c) j + crr a b n c j * 256 ^ j = svv (dg a n) j + svv (dg b n) j + c
  | 0 => by simp [svv, crr]
  | j + 1 => by
    have h := plus_law a b n c j
    have hd : (dg a n j + dg b n j + crr a b n c j) = 256 * crr a b n c (j + 1) + pd a b n c j := by
      rw [crr, pd]
      exact (Nat.div_add_mod _ 256).symm
    have h2 : (dg a n j + dg b n j + crr a b n c j) * 256 ^ j = (256 * crr a b n c (j + 1) + pd a b n c j) * 256 ^ j := by rw [hd]
    simp only [Nat.add_mul] at h2
    rw [svv, svv, svv, Nat.pow_succ]
    have h3 : crr a b n c (j + 1) * (256 ^ j * 256) = 256 * crr a b n c (j + 1) * 256 ^ j := by rw [Nat.mul_comm (256 ^ j), ← Nat.mul_assoc, Nat.mul_comm _ 256]
    omega
theorem crr_le (a b : List UInt8) (n c : Nat) (hc : c ≤ 1) (j : Nat) : crr a b n c j ≤ 1 := by
  have h := plus_law a b n c j
  have h1 := sv_le (dg_lt a n) j
  have h2 := sv_le (dg_lt b n) j
  by_cases h3 : crr a b n c j ≤ 1
  · exact h3
  · have h4 : 2 * 256 ^ j ≤ crr a b n c j * 256 ^ j := Nat.mul_le_mul_right _ (by omega)
    omega
theorem dg_plL (a b : List UInt8) (n c i : Nat) (h : i < n) : dg (plL a b n c) n i = pd a b n c i := by
  have hk : n - 1 - i < n := by omega
  unfold dg plL
  rw [List.getD_eq_getElem?_getD, List.getElem?_map, List.getElem?_range hk]
  simp only [Option.map_some, Option.getD_some, plF, UInt8.toNat_ofNat']
  have : n - 1 - (n - 1 - i) = i := by omega
  rw [this]
  exact Nat.mod_eq_of_lt (Nat.mod_lt _ (by decide))
theorem dg_rep (n i : Nat) : dg (List.replicate n 0) n i = 0 := by
  unfold dg
  rw [List.getD_eq_getElem?_getD, List.getElem?_replicate]
  split <;> rfl
/-- A carry that comes out at the front is taken up. -/
theorem carry2 (a b : List UInt8) (n : Nat) (h : crr a b n 0 n = 1) : crr (plL a b n 0) (List.replicate n 0) n 1 n = 0 := by
  have h1 := plus_law a b n 0 n
  have h2 := plus_law (plL a b n 0) (List.replicate n 0) n 1 n
  have e1 : svv (dg (plL a b n 0) n) n = svv (pd a b n 0) n := sv_congr n (fun i hi => dg_plL a b n 0 i hi)
  have e2 : svv (dg (List.replicate n 0) n) n = 0 := by rw [sv_congr n (h := fun _ => 0) (fun i _ => dg_rep n i), sv_zero]
  have ha := sv_le (dg_lt a n) n
  have hb := sv_le (dg_lt b n) n
  rw [e1, e2] at h2
  rw [h] at h1
  by_cases h3 : crr (plL a b n 0) (List.replicate n 0) n 1 n = 0
  · exact h3
  · have h4 : 1 * 256 ^ n ≤ crr (plL a b n 0) (List.replicate n 0) n 1 n * 256 ^ n := Nat.mul_le_mul_right _ (by omega)
    omega
theorem plL_step (a b : List UInt8) (n c j : Nat) (ha : a.length = n) (hj : j < n) : (a.take (n - j) ++ (plL a b n c).drop (n - j)).set (n - 1 - j) (plF a b n c (n - 1 - j)) = a.take (n - (j + 1)) ++ (plL a b n c).drop (n - (j + 1)) := by
  have e : n - (j + 1) = n - 1 - j := by omega
  have e2 : n - j = n - 1 - j + 1 := by omega
  have hk : n - 1 - j < n := by omega
  rw [e, e2]
  generalize n - 1 - j = k at *
  have hl : (plL a b n c).length = n := plL_length _ _ _ _
  rw [List.take_succ_eq_append_getElem (by omega : k < a.length), List.append_assoc, List.set_append_right _ _ (by simp; omega)]
  rw [List.drop_eq_getElem_cons (by omega : k < (plL a b n c).length)]
  have hz : k - (a.take k).length = 0 := by simp; omega
  rw [hz]
  simp only [List.singleton_append, List.set_cons_zero]
  congr 2
  simp [plL]
set_option maxRecDepth 4000 in
set_option maxHeartbeats 4000000 in
theorem plus_c (va vb : Value) (a b : List UInt8) (n c : Nat) (w : World) (ha : Bs w va a) (hb : Bs w vb b) (hla : a.length = n) (hlb : b.length = n) (h0 : n ≠ 0) (hn : n ≤ 1000) (hc : c ≤ 1) : Calls Tryz.prog 128 #[va, vb, .int .i64 (c : Nat)] w fun e w' => ∃ v', e = .returned (.tuple #[v', .int .i64 ((crr a b n c n : Nat) : Int)]) ∧ Own w.heap.size 5 w' v' ((plL a b n c).map cb) ∧ Keep w w' := by
  have hcp := Hid.mk (copy_c _ a w ha (by omega))
  obtain ⟨aa, ac, rfl, hac, hacm, -⟩ := ha.form
  obtain ⟨ba, bc, rfl, hbc, hbcm, -⟩ := hb.form
  unfold maxLen at hacm hbcm
  have HA := Hid.mk ha
  have HB := Hid.mk hb
  have HLA := Hid.mk hla
  have HLB := Hid.mk hlb
  have HCL : Hid (∀ j, crr a b n c j ≤ 1) := Hid.mk (crr_le a b n c hc)
  rw [hla] at hcp HA hac ⊢
  rw [hlb] at HB hbc ⊢
  have hni : (n : Int) ≤ 1000 := by omega
  clear ha hb hla hlb
  go_enter Tryz.func128, Tryz.ntmps128
  go_wp2_with fail
  refine hcp.out.mono ?_
  rintro e w1 ⟨v1, rfl, hown, k1⟩
  rcases hown.win with ⟨-, h1⟩ | ⟨g, cap, sp, rfl, hBg, hwin, hcap, hm⟩
  · have := HLA.out
    rw [h1] at this
    exact absurd this.symm h0
  unfold maxLen at hm
  have HCAP : Hid (a.length + sp.length = cap ∧ cap ≤ 9223372036854775807) := Hid.mk ⟨hcap, by omega⟩
  have hcapn : n ≤ cap := by have := HLA.out; omega
  rw [HLA.out]
  have HBG := Hid.mk hBg
  have HW0 : Hid (Win w1 g 5 [] (a.take (n - 0) ++ (plL a b n c).drop (n - 0)) sp) := Hid.mk (by
    rw [Nat.sub_zero, List.take_of_length_le (by rw [HLA.out]; exact Nat.le_refl _), List.drop_of_length_le (by rw [plL_length]; exact Nat.le_refl _), List.append_nil]
    exact hwin)
  have HK1 := Hid.mk k1
  have wn : IntKind.i64.wrap ((n : Int) - 1) = (n : Int) - 1 := by rw [IntKind.wrap_i64] <;> omega
  clear hown hwin hcap k1
  go_wp2_with fail
  clear wn
  go_loopw [2, 9] (fun cv iv wr => ∃ j : Nat, j ≤ n ∧ iv = .int .i64 ((n : Int) - 1 - j) ∧ cv = .int .i64 ((crr a b n c j : Nat) : Int) ∧ Win wr g 5 [] (a.take (n - j) ++ (plL a b n c).drop (n - j)) sp ∧ Keep w wr) (fun _ i _ => (intOf i + 1).toNat)
  case atStart => exact ⟨0, by omega, by simp, rfl, HW0.out, HK1.out⟩
  case round =>
    obtain ⟨j, hj, rfl, rfl, hw, kw⟩ := hrel
    by_cases hlt : j < n
    · obtain ⟨k, hk⟩ : ∃ k, k = n - 1 - j := ⟨_, rfl⟩
      have ek : (n : Int) - 1 - j = (k : Int) := by omega
      rw [ek]
      have hk0 : (0 : Int) ≤ k := by omega
      have hkn : (k : Int) < n := by omega
      obtain ⟨b1, o1, hab, x1⟩ := bs_cell (HA.out.keep kw) (i := k) (by have := HLA.out; omega)
      obtain ⟨b2, o2, hbb, x2⟩ := bs_cell (HB.out.keep kw) (i := k) (by have := HLB.out; omega)
      subst hab hbb
      have hst := plL_step a b n c j HLA.out hlt
      rw [← hk] at hst
      have HS9 : Hid (∀ Z, Win Z g 5 [] (a.take (n - j) ++ (plL a b n c).drop (n - j)) sp → Win (Z.setCell ⟨g, k, none⟩ (.int .u8 (plF a b n c k).toNat)) g 5 [] (a.take (n - (j + 1)) ++ (plL a b n c).drop (n - (j + 1))) sp) := Hid.mk (fun Z hz => by
        have hs9 := hz.set (k := k) (by simp [plL_length]; have := HLA.out; omega) (plF a b n c k) (o := k) (by simp)
        rw [hst] at hs9
        exact hs9)
      have HW := Hid.mk hw
      have hf := hw.frozen k
      obtain ⟨cv, hcv⟩ : ∃ cv : Value, wr.cell? ⟨g, k, none⟩ = some cv := ⟨_, hw.cell (k := k) (o := k) (by simp [plL_length]; have := HLA.out; omega) (by simp)⟩
      have hcl := HCL.out j
      have hdk : (plF a b n c k).toNat = ((a.getD k 0).toNat + (b.getD k 0).toNat + crr a b n c j) % 256 := by
        unfold plF pd dg
        have e1 : n - 1 - k = j := by omega
        rw [e1, ← hk, UInt8.toNat_ofNat']
        exact Nat.mod_eq_of_lt (Nat.mod_lt _ (by decide))
      have hcs : crr a b n c (j + 1) = ((a.getD k 0).toNat + (b.getD k 0).toNat + crr a b n c j) / 256 := by
        rw [crr]
        unfold dg
        rw [← hk]
      have HCS := Hid.mk hcs
      generalize crr a b n c j = cj at *
      generalize plF a b n c k = z at *
      have hxa := (a.getD k 0).toNat_lt
      have hxb := (b.getD k 0).toNat_lt
      generalize (a.getD k 0).toNat = xa at *
      generalize (b.getD k 0).toNat = xb at *
      obtain ⟨t, ht⟩ : ∃ t, t = xa + xb + cj := ⟨_, rfl⟩
      rw [← ht] at hdk HCS
      have ht9 : t ≤ 511 := by omega
      have w1' : IntKind.i64.wrap ((xa : Int) + xb) = (xa : Int) + xb := by rw [IntKind.wrap_i64] <;> omega
      have w2' : IntKind.i64.wrap ((xa : Int) + xb + cj) = (t : Int) := by rw [IntKind.wrap_i64] <;> omega
      have w3' : (t : Int).tmod 256 = ((t % 256 : Nat) : Int) := (Int.ofNat_tmod t 256).symm
      have w4' : (t : Int).tdiv 256 = ((t / 256 : Nat) : Int) := (Int.ofNat_tdiv t 256).symm
      have w5' : IntKind.i64.wrap ((k : Int) - 1) = (k : Int) - 1 := by rw [IntKind.wrap_i64] <;> omega
      have HZ : Hid ((z.toNat : Int) = ((t % 256 : Nat) : Int)) := Hid.mk (by rw [hdk])
      have HKW := Hid.mk kw
      have HEK := Hid.mk ek
      have HK := Hid.mk hk
      clear hw kw hst hdk hcs ek hk ht
      go_wp2_with fail
      go_region
      go_wp2_with fail
      go_roundw
      case rel =>
        refine ⟨j + 1, by omega, ?_, ?_, ?_, (HKW.out.drew.setCell (p := ⟨g, k, none⟩) (by have := HBG.out; show _ ≤ g; omega) _)⟩
        · have := HEK.out
          congr 1
          omega
        · rw [HCS.out]; simp
        · have h9 := HS9.out _ HW.out.drew
          rw [HZ.out] at h9
          exact h9
      case measure => have := HEK.out; simp [intOf] <;> omega
    · have : j = n := by omega
      subst this
      have hneg : ¬ (0 : Int) ≤ (j : Int) - 1 - j := by omega
      have HR : Hid (Own w.heap.size 5 wr (.slice (some ⟨g, 0, none⟩) j cap) ((plL a b j c).map cb)) := Hid.mk (by
        have h9 := Own.of_win (cap := cap) HBG.out hw (by simp [plL_length]; have := HCAP.out; have := HLA.out; omega) (by have := HCAP.out; simp [maxLen]; omega)
        have e : a.take (j - j) ++ (plL a b j c).drop (j - j) = plL a b j c := by simp
        rw [e, plL_length] at h9
        exact h9)
      have HKW := Hid.mk kw
      clear hw kw
      generalize hcj : crr a b j c j = cj at *
      have HCJ := Hid.mk hcj
      clear hcj
      go_wp2_with fail
      go_ret2
      exact ⟨_, by rw [HCJ.out]; rfl, HR.out, HKW.out⟩
end Go.Proofs.Qxb6500771aGreat
