/- modes.double, into a window of a block. -/
import Derived.Test.Qxb6500769aEb
namespace Go.Proofs.Qxb6500769a
open Go.RowKit Go.Qm
set_option linter.unusedVariables false
set_option linter.unusedSimpArgs false
attribute [local go_sem ↓] Go.wp_at_zero Go.wp_at_succ

def dk (s d : List UInt8) : Nat → List UInt8
  | 0 => d
  | k + 1 => (dk s d k).set (15 - k) (dbo s (15 - k))
theorem dk_length (s d : List UInt8) : ∀ k, (dk s d k).length = d.length
  | 0 => rfl
  | k + 1 => by simp [dk, dk_length s d k]
theorem dk_all (s d : List UInt8) (h : d.length = 16) : dk s d 16 = db0 s := by
  match d, h with
  | [a0, a1, a2, a3, a4, a5, a6, a7, a8, a9, a10, a11, a12, a13, a14, a15], _ => rfl
/-- The carry after k rounds. -/
def cyr (s : List UInt8) (k : Nat) : Nat := if k = 0 then 0 else (s.getD (16 - k) 0).toNat / 128
theorem cyr_le (s : List UInt8) (k : Nat) : cyr s k ≤ 1 := by
  unfold cyr
  split
  · omega
  · have := (s.getD (16 - k) 0).toNat_lt; omega
theorem cell_grown {w w' : World} {g gs os : Nat} {v : Value} (h : w.cell? ⟨gs, os, none⟩ = some v) (hg : w.grownBy w' (some g)) (hne : gs ≠ g) : w'.cell? ⟨gs, os, none⟩ = some v := by
  have hlt : gs < w.heap.size := by
    by_cases hlt : gs < w.heap.size
    · exact hlt
    · exfalso
      unfold World.cell? at h
      have : w.heap[gs]? = none := by simp; omega
      simp [this] at h
  have := hg.block gs hlt (by simpa using hne)
  unfold World.cell? at *
  simp only [this]
  exact h
set_option maxHeartbeats 2000000 in
theorem double_c (g gs os : Nat) (e : TypeId) (pre post : List Value) (d s : List UInt8) (w : World) (hd : Win w g e pre d post) (hdl : d.length = 16) (hs : ∀ wr D, Win wr g e pre D post → w.grownBy wr (some g) → ∀ i, i < 16 → wr.cell? ⟨gs, os + i, none⟩ = some (.int .u8 (s.getD i 0).toNat)) :
    Calls Try.prog 58 #[.pointer (some ⟨g, pre.length, none⟩), .pointer (some ⟨gs, os, none⟩)] w fun x w' => x = .returned (.tuple #[]) ∧ Win w' g e pre (dbl s) post ∧ w.grownBy w' (some g) := by
  obtain ⟨pl, hpl⟩ : ∃ pl, pl = pre.length := ⟨_, rfl⟩
  rw [← hpl]
  have HPL := Hid.mk hpl
  have HDL := Hid.mk hdl
  clear hpl hdl
  go_enter Try.func58, Try.ntmps58
  go_wp2_with fail
  go_loopw [4, 5, 6] (fun cv iv xv wr => ∃ k : Nat, k ≤ 16 ∧ iv = .int .i64 (15 - (k : Int)) ∧ cv = .int .u8 (cyr s k : Nat) ∧ Win wr g e pre (dk s d k) post ∧ w.grownBy wr (some g)) (fun _ i _ _ => (intOf i + 1).toNat)
  case atStart => exact ⟨0, by omega, by go_num, rfl, hd, grown_refl _ _⟩
  case round =>
    clear hd
    obtain ⟨k, hk, rfl, rfl, hw, hgr⟩ := hrel
    by_cases hlt : k < 16
    · obtain ⟨j, hj⟩ : ∃ j : Nat, j = 15 - k := ⟨_, rfl⟩
      have hji : (15 : Int) - (k : Int) = (j : Int) := by omega
      rw [hji]
      have j0 : (0 : Int) ≤ j := by omega
      have j16 : (j : Int) < 16 := by omega
      have c1 := hs wr _ hw hgr j (by omega)
      have hc := hw.cell (k := j) (o := pl + j) (by rw [dk_length]; have := HDL.out; omega) (by have := HPL.out; omega)
      have hf := hw.frozen (pl + j)
      have hset := hw.set (k := j) (by rw [dk_length]; have := HDL.out; omega) (dbo s j) (o := pl + j) (by have := HPL.out; omega)
      have EK : Hid (dk s d (k + 1) = (dk s d k).set j (dbo s j)) := Hid.mk (by rw [hj]; rfl)
      obtain ⟨cv, hcv⟩ : ∃ cv : Value, wr.cell? ⟨g, pl + j, none⟩ = some cv := ⟨_, hc⟩
      have hn := dbo_nat s j (cyr s k) (by
        unfold cyr
        by_cases h0 : k = 0
        · rw [if_pos h0, if_neg (by omega)]
        · rw [if_neg h0, if_pos (by omega), show 16 - k = j + 1 by omega])
      have hob := or_bit (s.getD j 0).toNat (cyr s k) (s.getD j 0).toNat_lt (cyr_le s k)
      rw [← hn] at hob
      have hcy : Hid (cyr s (k + 1) = (s.getD j 0).toNat / 128) := Hid.mk (by unfold cyr; rw [if_neg (by omega), show 16 - (k + 1) = j by omega])
      have f1 : ((s.getD j 0).toNat : Int) / 128 = (((s.getD j 0).toNat / 128 : Nat) : Int) := by omega
      have HJ := Hid.mk hj
      have HJI := Hid.mk hji
      have HS := Hid.mk hset
      clear hc hset hn hj hji
      obtain ⟨c2, hc2⟩ : ∃ c2 : Nat, c2 = (s.getD j 0).toNat / 128 := ⟨_, rfl⟩
      rw [← hc2] at f1 hcy
      clear hc2
      generalize dbo s j = z at *
      generalize s.getD j 0 = x at *
      generalize cyr s k = c0 at *
      go_wp2_with fail
      go_roundw
      case rel =>
        refine ⟨k + 1, by omega, ?_, by rw [hcy.out], by rw [EK.out]; exact HS.out, grown_set hgr _ _⟩
        have := HJI.out
        first | go_num | (congr 1; omega)
      case measure => first | (simp [intOf]; omega) | simp [intOf]
    · have : k = 16 := by omega
      subst this
      have hj : ¬ (15 : Int) - ((16 : Nat) : Int) ≥ 0 := by omega
      rw [dk_all s d HDL.out] at hw
      have hc : wr.cell? ⟨g, pl + 15, none⟩ = some (.int .u8 (dbo s 15).toNat) := hw.cell (k := 15) (o := pl + 15) (by rw [db0_length]; omega) (by have := HPL.out; omega)
      have hf := hw.frozen (pl + 15)
      have hcy : cyr s 16 = (s.getD 0 0).toNat / 128 := by unfold cyr; rfl
      have hx0 := (s.getD 0 0).toNat_lt
      have a0 : bits .and .u8 135 0 = 0 := by rfl
      have a1 : bits .and .u8 135 255 = 135 := by rfl
      have n1 : IntKind.u8.wrap (-1) = 255 := by rfl
      have n0 : IntKind.u8.wrap 0 = 0 := by rfl
      by_cases hx : 128 ≤ (s.getD 0 0).toNat
      · have h1 : cyr s 16 = 1 := by omega
        have hset := hw.set (k := 15) (by rw [db0_length]; omega) (dbo s 15 ^^^ 135) (o := pl + 15) (by have := HPL.out; omega)
        have x135 : bits .xor .u8 ((dbo s 15).toNat : Int) 135 = ((dbo s 15 ^^^ 135).toNat : Int) := bits_xor8 (dbo s 15) 135
        have ED : Hid (dbl s = (db0 s).set 15 (dbo s 15 ^^^ 135)) := Hid.mk (by unfold dbl; rw [if_pos hx])
        rw [h1]
        generalize dbo s 15 ^^^ 135 = z at *
        generalize dbo s 15 = d15 at *
        have HS := Hid.mk hset
        clear hset h1 hcy hx hx0 hw hs hj
        go_wp2_with fail
        go_region
        go_wp2
        go_end0
        exact ⟨rfl, by rw [ED.out]; exact HS.out, grown_drew (grown_set hgr _ _)⟩
      · have h1 : cyr s 16 = 0 := by omega
        have hset := hw.set (k := 15) (by rw [db0_length]; omega) (dbo s 15) (o := pl + 15) (by have := HPL.out; omega)
        have x0 : bits .xor .u8 ((dbo s 15).toNat : Int) 0 = ((dbo s 15).toNat : Int) := by
          have := bits_xor8 (dbo s 15) 0
          rw [UInt8.xor_zero] at this
          exact this
        have ED : Hid (dbl s = db0 s) := Hid.mk (by unfold dbl; rw [if_neg hx])
        have ES : Hid ((db0 s).set 15 (dbo s 15) = db0 s) := Hid.mk (by rfl)
        rw [h1]
        generalize dbo s 15 = d15 at *
        have HS := Hid.mk hset
        clear hset h1 hcy hx hx0 hw hs hj
        go_wp2_with fail
        go_region
        go_wp2
        go_end0
        exact ⟨rfl, by rw [ED.out, ← ES.out]; exact HS.out, grown_drew (grown_set hgr _ _)⟩
end Go.Proofs.Qxb6500769a
