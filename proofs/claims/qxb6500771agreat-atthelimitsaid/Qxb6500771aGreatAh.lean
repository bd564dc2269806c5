/- cipherm: AES's key expansion. -/
import Derived.Test.Qxb6500771aGreatAe
import Derived.Deep.CutRange
namespace Go.Proofs.Qxb6500771aGreat
open Go.RowKit Go.Qm
set_option linter.unusedVariables false
set_option linter.unusedSimpArgs false
attribute [local go_sem ↓] Go.wp_at_zero Go.wp_at_succ

def exT (nk i : Nat) (rc : UInt8) (t : List UInt8) : List UInt8 :=
  if i % nk = 0 then [sub8 (t.getD 1 0) ^^^ rc, sub8 (t.getD 2 0), sub8 (t.getD 3 0), sub8 (t.getD 0 0)]
  else if 6 < nk ∧ i % nk = 4 then [sub8 (t.getD 0 0), sub8 (t.getD 1 0), sub8 (t.getD 2 0), sub8 (t.getD 3 0)] else t
def exR (nk i : Nat) (rc : UInt8) : UInt8 := if i % nk = 0 then tmul rc 2 else rc
def exS (nk i : Nat) (s : List UInt8 × UInt8) : List UInt8 × UInt8 :=
  (s.1 ++ xorl (exT nk i s.2 ((s.1.drop (4 * i - 4)).take 4)) ((s.1.drop (4 * (i - nk))).take 4), exR nk i s.2)
def ex (key : List UInt8) (nk : Nat) : Nat → List UInt8 × UInt8
  | 0 => (key, 1)
  | k + 1 => exS nk (nk + k) (ex key nk k)
theorem exT_length (nk i : Nat) (rc : UInt8) (t : List UInt8) (h : t.length = 4) : (exT nk i rc t).length = 4 := by
  unfold exT
  split
  · rfl
  · split
    · rfl
    · exact h
theorem ex_length (key : List UInt8) (nk : Nat) (hk : key.length = 4 * nk) (h1 : 1 ≤ nk) : ∀ k, (ex key nk k).1.length = 4 * (nk + k)
  | 0 => hk
  | k + 1 => by
    have := ex_length key nk hk h1 k
    show ((ex key nk k).1 ++ _).length = _
    rw [List.length_append, xorl_length, exT_length _ _ _ _ (by rw [List.length_take, List.length_drop]; omega)]
    omega
def expd (key : List UInt8) : List UInt8 := (ex key (key.length / 4) (4 * (key.length / 4 + 7) - key.length / 4)).1
set_option maxRecDepth 2000 in
set_option maxHeartbeats 4000000 in
theorem expand_c (v : Value) (key : List UInt8) (nk : Nat) (w : World) (h : Bs w v key) (hl : key.length = 4 * nk) (hnk : nk = 4 ∨ nk = 8) : Calls Tryz.prog 111 #[v] w fun e w' => ∃ v', e = .returned v' ∧ Own w.heap.size 5 w' v' ((expd key).map cb) ∧ Keep w w' := by
  obtain ⟨a, c, rfl, hac, hcm, hca⟩ := h.form
  clear hca
  unfold maxLen at hcm
  have hD : expd key = (ex key nk (4 * (nk + 7) - nk)).1 := by
    unfold expd
    rw [show key.length / 4 = nk by omega]
  have HD := Hid.mk hD
  clear hD
  have hcp := copy_c _ key w h (by omega)
  obtain ⟨n, hn⟩ : ∃ n, n = key.length := ⟨_, rfl⟩
  rw [← hn] at hcp ⊢
  obtain ⟨rd, hrd⟩ : ∃ rd, rd = nk + 6 := ⟨_, rfl⟩
  obtain ⟨r7, hr7⟩ : ∃ r7, r7 = nk + 7 := ⟨_, rfl⟩
  obtain ⟨lim, hlim⟩ : ∃ lim, lim = 4 * r7 := ⟨_, rfl⟩
  have z1 : (n : Int) / 4 = (nk : Int) := by omega
  have z1b : IntKind.i64.wrap (nk : Int) = (nk : Int) := by rw [IntKind.wrap_i64] <;> omega
  have z1c : wrap64 (nk : Int) = (nk : Int) := IntWalk.wrap64_in _ (by omega)
  have z2 : IntKind.i64.wrap ((nk : Int) + 6) = (rd : Int) := by rw [IntKind.wrap_i64] <;> omega
  have z3 : IntKind.i64.wrap ((rd : Int) + 1) = (r7 : Int) := by rw [IntKind.wrap_i64] <;> omega
  have z4 : IntKind.i64.wrap (4 * (r7 : Int)) = (lim : Int) := by rw [IntKind.wrap_i64] <;> omega
  have HLK := Hid.mk hl
  have n4 : 4 ≤ nk := by omega
  have n8 : nk ≤ 8 := by omega
  have HLI : Hid (lim = 4 * (nk + 7)) := Hid.mk (by omega)
  clear hl h hn hrd hr7 hlim hac
  go_enter Tryz.func111, Tryz.ntmps111
  go_wp2_with fail
  refine hcp.mono ?_
  rintro e w1 ⟨v1, rfl, hown1, k1⟩
  clear hcp
  go_wp2_with fail
  go_loopw [5, 6, 7, 8] (fun wv rv iv tv wr => ∃ k i : Nat, i = nk + k ∧ i ≤ lim ∧ iv = .int .i64 i ∧ rv = .int .u8 (ex key nk k).2.toNat ∧ Own w.heap.size 5 wr wv ((ex key nk k).1.map cb) ∧ Keep w wr) (fun _ _ i _ _ => lim - (intOf i).toNat)
  case atStart => exact ⟨0, nk, rfl, by have := HLI.out; omega, rfl, rfl, hown1, k1⟩
  case round =>
    clear hown1 k1
    obtain ⟨k, i, hi, hile, rfl, rfl, hown, kw⟩ := hrel
    by_cases hlt : i < lim
    · have hlt' : (i : Int) < lim := by omega
      have hlen := ex_length key nk HLK.out (by omega) k
      have EX : Hid (ex key nk (k + 1) = exS nk (nk + k) (ex key nk k)) := Hid.mk rfl
      have l60 : lim ≤ 60 := by have := HLI.out; omega
      obtain ⟨⟨l, rc⟩, hl⟩ : ∃ x, x = ex key nk k := ⟨_, rfl⟩
      rw [← hl] at hown hlen EX ⊢
      clear hl
      simp only at hown hlen ⊢
      have hbs := hown.bs
      obtain ⟨pa, pc, hv, hpc, hpm, -⟩ := hbs.form
      subst hv
      obtain ⟨p, hp⟩ : ∃ p : Nat, p = 4 * i - 4 := ⟨_, rfl⟩
      obtain ⟨q, hq⟩ : ∃ q : Nat, q = 4 * k := ⟨_, rfl⟩
      obtain ⟨j, hj⟩ : ∃ j : Nat, j = i % nk := ⟨_, rfl⟩
      have hp4 : l.length = p + 4 := by omega
      have hqp : q ≤ p := by omega
      have hj0 : (i : Int).tmod (nk : Int) = (j : Int) := by rw [hj]; exact (Int.ofNat_tmod i nk).symm
      have e1 : IntKind.i64.wrap (4 * (i : Int)) = (p : Int) + 4 := by rw [IntKind.wrap_i64] <;> omega
      have e2 : IntKind.i64.wrap (p : Int) = (p : Int) := by rw [IntKind.wrap_i64] <;> omega
      have e3 : IntKind.i64.wrap ((i : Int) - nk) = (k : Int) := by rw [IntKind.wrap_i64] <;> omega
      have e4 : IntKind.i64.wrap (4 * (k : Int)) = (q : Int) := by rw [IntKind.wrap_i64] <;> omega
      have e5 : IntKind.i64.wrap ((q : Int) + 4) = (q : Int) + 4 := by rw [IntKind.wrap_i64] <;> omega
      have nk0 : ¬ (nk : Int) = 0 := by omega
      unfold maxLen at hpm
      rw [hp4] at hpc hbs hown ⊢
      have b1 : (p : Int) + 4 ≤ pc := by omega
      have b2 : (p : Int) ≤ pc := by omega
      have b3 : (q : Int) + 4 ≤ pc := by omega
      have b4 : (q : Int) ≤ pc := by omega
      have b5 : ¬ pc = p := by omega
      have b6 : ¬ pc = q := by omega
      have b7 : (q : Int) + 4 ≤ (p : Int) + 4 := by omega
      have p60 : p ≤ 240 := by omega
      have hpart := hbs.part (i := p) (j := p + 4) (by omega) (by omega) (pa.map (·.add p)) (fun _ => rfl)
      rw [show p + 4 - p = 4 by omega] at hpart
      have hpartq := hbs.part (i := q) (j := q + 4) (by omega) (by omega) (pa.map (·.add q)) (fun _ => rfl)
      rw [show q + 4 - q = 4 by omega] at hpartq
      have hT4 : ((l.drop p).take 4).length = 4 := by simp; omega
      have hQ4 : ((l.drop q).take 4).length = 4 := by simp; omega
      obtain ⟨T, hT⟩ : ∃ T, T = (l.drop p).take 4 := ⟨_, rfl⟩
      obtain ⟨U, hU⟩ : ∃ U, U = (l.drop q).take 4 := ⟨_, rfl⟩
      rw [← hT] at hpart hT4
      rw [← hU] at hpartq hQ4
      have HT : Hid (T = (l.drop (4 * i - 4)).take 4) := Hid.mk (by rw [hT, hp])
      have HU : Hid (U = (l.drop (4 * (i - nk))).take 4) := Hid.mk (by rw [hU, hq, hi, Nat.add_sub_cancel_left])
      have HI := Hid.mk hi
      have HJ := Hid.mk hj
      have HP4 := Hid.mk hp4
      clear hT hU hp hq hi hj hp4 hlen hlt hpc
      have hcp := copy_c _ T wr hpart (by omega)
      have HT4 := Hid.mk hT4
      have HQ4 := Hid.mk hQ4
      clear hT4 hQ4
      go_wp2_with fail
      refine hcp.mono ?_
      rintro e w2 ⟨v2, rfl, o2, k2⟩
      clear hcp
      have O2 : Own w.heap.size 5 w2 v2 (T.map cb) := o2.mono kw.size
      have K2 := kw.trans k2
      obtain ⟨s0, s1, s2, s3, hTs⟩ : ∃ s0 s1 s2 s3, T = [s0, s1, s2, s3] := by
        have := HT4.out
        match T, this with
        | [s0, s1, s2, s3], _ => exact ⟨s0, s1, s2, s3, rfl⟩
      have HTs := Hid.mk hTs
      rcases O2.win with ⟨-, h0⟩ | ⟨g, cap, sp, rfl, hB, hwin, hcap, hm⟩
      · rw [hTs] at h0; simp at h0
      rw [hTs] at hwin hcap O2 ⊢
      have c0 : w2.cell? ⟨g, 0, none⟩ = some (.int .u8 s0.toNat) := hwin.cell (k := 0) (o := 0) (by simp) (by simp)
      have c1 : w2.cell? ⟨g, 1, none⟩ = some (.int .u8 s1.toNat) := hwin.cell (k := 1) (o := 1) (by simp) (by simp)
      have c2 : w2.cell? ⟨g, 2, none⟩ = some (.int .u8 s2.toNat) := hwin.cell (k := 2) (o := 2) (by simp) (by simp)
      have c3 : w2.cell? ⟨g, 3, none⟩ = some (.int .u8 s3.toNat) := hwin.cell (k := 3) (o := 3) (by simp) (by simp)
      unfold maxLen at hm
      have hcap4 : 4 ≤ cap := by simp at hcap; omega
      simp only [List.length_cons, List.length_nil, Nat.zero_add, Nat.reduceAdd] at O2 ⊢
      clear hwin hcap hTs o2 hpart
      go_upto_if 35 with fail
      go_cut [6, 8] from 17 to 96 (fun rv tv wx => rv = .int .u8 (exR nk i rc).toNat ∧ Own w.heap.size 5 wx tv ((exT nk i rc T).map cb) ∧ Keep wr wx)
      case first =>
        have X := fun x W => subByte_c x W
        have C0 := X s0
        have C1 := X s1
        have C2 := X s2
        have C3 := X s3
        clear X
        by_cases hj1 : j = 0
        · have hjb : ((j : Int) == 0) = true := by simp [hj1]
          have hER : exR nk i rc = tmul rc 2 := by unfold exR; rw [if_pos (by have := HJ.out; omega)]
          have hET : exT nk i rc T = [sub8 s1 ^^^ rc, sub8 s2, sub8 s3, sub8 s0] := by unfold exT; rw [if_pos (by have := HJ.out; omega), HTs.out]; rfl
          have TW : ∀ W, Calls Tryz.prog 129 #[.int .u8 rc.toNat, .int .u8 2] W fun e w' => e = .returned (.int .u8 (tmul rc 2).toNat) ∧ w' = W := fun W => times_c rc 2 W
          clear hj1
          generalize sub8 s0 = t0 at *
          generalize sub8 s1 = t1 at *
          generalize sub8 s2 = t2 at *
          generalize sub8 s3 = t3 at *
          have x1 := bits_xor8 t1 rc
          generalize t1 ^^^ rc = z at *
          generalize tmul rc 2 = rc2 at *
          have HER := Hid.mk hER
          have HET := Hid.mk hET
          clear hER hET
          have OL := Own.lit (B := w.heap.size) (e := 5) (w := w2) ([z, t2, t3, t0].map cb) K2.size (by simp [maxLen])
          have KL := k2.alloc (.cells ([z, t2, t3, t0].map cb).toArray 5)
          have KA := ((Keep.refl w2).alloc (.cells ([z, t2, t3, t0].map cb).toArray 5))
          go_wp2_with fail
          go_region_held3 (fun w' => w'.cell? ⟨g, 0, none⟩ = some (.int .u8 s0.toNat) ∧ w'.cell? ⟨g, 1, none⟩ = some (.int .u8 s1.toNat) ∧ w'.cell? ⟨g, 2, none⟩ = some (.int .u8 s2.toNat) ∧ w'.cell? ⟨g, 3, none⟩ = some (.int .u8 s3.toNat))
            (first | assumption | exact ⟨c0, c1, c2, c3⟩ | exact ⟨KA.cell c0, KA.cell c1, KA.cell c2, KA.cell c3⟩)
            (first
              | (go_at_call_of 126 (Value.int IntKind.u8 (s0.toNat : Int)); refine (C0 _).mono ?_; rintro e y ⟨rfl, rfl⟩)
              | (go_at_call_of 126 (Value.int IntKind.u8 (s1.toNat : Int)); refine (C1 _).mono ?_; rintro e y ⟨rfl, rfl⟩)
              | (go_at_call_of 126 (Value.int IntKind.u8 (s2.toNat : Int)); refine (C2 _).mono ?_; rintro e y ⟨rfl, rfl⟩)
              | (go_at_call_of 126 (Value.int IntKind.u8 (s3.toNat : Int)); refine (C3 _).mono ?_; rintro e y ⟨rfl, rfl⟩))
          go_wp2_with fail
          refine (TW _).mono ?_
          rintro e y ⟨rfl, rfl⟩
          go_wp2_with fail
          go_meet
          case rel =>
            rw [HER.out, HET.out]
            exact ⟨rfl, OL, KL.drew⟩
        · have hjb : ((j : Int) == 0) = false := by simp; omega
          have hER : exR nk i rc = rc := by unfold exR; rw [if_neg (by have := HJ.out; omega)]
          have HER := Hid.mk hER
          clear hER
          by_cases hj2 : 6 < nk ∧ j = 4
          · have hjc : ((j : Int) == 4) = true := by simp [hj2.2]
            have hnc : (nk : Int) > 6 := by omega
            have hET : exT nk i rc T = [sub8 s0, sub8 s1, sub8 s2, sub8 s3] := by unfold exT; rw [if_neg (by have := HJ.out; omega), if_pos (by have := HJ.out; omega), HTs.out]; rfl
            clear hj1 hj2
            generalize sub8 s0 = t0 at *
            generalize sub8 s1 = t1 at *
            generalize sub8 s2 = t2 at *
            generalize sub8 s3 = t3 at *
            have HET := Hid.mk hET
            clear hET
            have OL := Own.lit (B := w.heap.size) (e := 5) (w := w2) ([t0, t1, t2, t3].map cb) K2.size (by simp [maxLen])
            have KL := k2.alloc (.cells ([t0, t1, t2, t3].map cb).toArray 5)
            have KA := ((Keep.refl w2).alloc (.cells ([t0, t1, t2, t3].map cb).toArray 5))
            go_wp2_with fail
            go_region_held3 (fun w' => w'.cell? ⟨g, 0, none⟩ = some (.int .u8 s0.toNat) ∧ w'.cell? ⟨g, 1, none⟩ = some (.int .u8 s1.toNat) ∧ w'.cell? ⟨g, 2, none⟩ = some (.int .u8 s2.toNat) ∧ w'.cell? ⟨g, 3, none⟩ = some (.int .u8 s3.toNat))
              (first | assumption | exact ⟨c0, c1, c2, c3⟩ | exact ⟨KA.cell c0, KA.cell c1, KA.cell c2, KA.cell c3⟩)
              (first
                | (go_at_call_of 126 (Value.int IntKind.u8 (s0.toNat : Int)); refine (C0 _).mono ?_; rintro e y ⟨rfl, rfl⟩)
                | (go_at_call_of 126 (Value.int IntKind.u8 (s1.toNat : Int)); refine (C1 _).mono ?_; rintro e y ⟨rfl, rfl⟩)
                | (go_at_call_of 126 (Value.int IntKind.u8 (s2.toNat : Int)); refine (C2 _).mono ?_; rintro e y ⟨rfl, rfl⟩)
                | (go_at_call_of 126 (Value.int IntKind.u8 (s3.toNat : Int)); refine (C3 _).mono ?_; rintro e y ⟨rfl, rfl⟩))
            go_wp2_with fail
            go_meet
            case rel =>
              rw [HER.out, HET.out]
              exact ⟨rfl, OL, KL.drew⟩
          · have hET : exT nk i rc T = T := by unfold exT; rw [if_neg (by have := HJ.out; omega), if_neg (by have := HJ.out; omega)]
            have HET := Hid.mk hET
            clear hET C0 C1 C2 C3
            by_cases hnc : 6 < nk
            · have hnd : (nk : Int) > 6 := by omega
              have hjc : ((j : Int) == 4) = false := by simp; omega
              clear hj1 hj2
              go_wp2_with fail
              go_meet
              case rel =>
                rw [HER.out, HET.out]
                exact ⟨rfl, by rw [HTs.out]; exact O2, k2⟩
            · have hnd : ¬ (nk : Int) > 6 := by omega
              clear hj1 hj2
              go_wp2_with fail
              go_meet
              case rel =>
                rw [HER.out, HET.out]
                exact ⟨rfl, by rw [HTs.out]; exact O2, k2⟩
      case rest =>
        obtain ⟨rfl, O3, k3⟩ := hcut
        have K3 := kw.trans k3
        have hown3 := hown.keep k3
        have hX4 := exT_length nk i rc T HT4.out
        obtain ⟨X, hX⟩ : ∃ X, X = exT nk i rc T := ⟨_, rfl⟩
        rw [← hX] at O3 hX4
        have hxc := fun W hk => xor_c _ _ X U W (O3.bs.keep hk) (hpartq.keep (k3.trans hk)) (by have := HQ4.out; omega) (by have := HQ4.out; omega)
        have HX := Hid.mk hX
        have HX4 := Hid.mk hX4
        clear hX hX4
        go_wp2_with fail
        refine (hxc _ (Keep.refl _)).mono ?_
        rintro e w5 ⟨v5, rfl, o5, k5⟩
        go_wp2_with fail
        refine (join_c _ _ l (xorl X U) w5 ((hbs.keep k3).keep k5) o5.bs (by rw [xorl_length]; have := HX4.out; have := HP4.out; omega)).mono ?_
        rintro e w6 ⟨v6, rfl, o6, k6⟩
        go_wp2_with fail
        go_roundw
        case rel =>
          refine ⟨k + 1, i + 1, by have := HI.out; omega, by omega, by go_num, ?_, ?_, (K3.trans k5).trans k6⟩
          · rw [EX.out, ← HI.out]
            rfl
          · rw [EX.out, ← HI.out]
            show Own w.heap.size 5 w6 v6 ((l ++ xorl (exT nk i rc ((l.drop (4 * i - 4)).take 4)) ((l.drop (4 * (i - nk))).take 4)).map cb)
            rw [← HT.out, ← HU.out, ← HX.out]
            exact o6.mono (K3.trans k5).size
        case measure => simp [intOf]; omega
    · have hlt' : ¬ (i : Int) < lim := by omega
      have hkk : k = 4 * (nk + 7) - nk := by have := HLI.out; omega
      go_wp2
      go_ret
      rw [HD.out, ← hkk]
      exact ⟨_, rfl, hown, kw⟩
end Go.Proofs.Qxb6500771aGreat
