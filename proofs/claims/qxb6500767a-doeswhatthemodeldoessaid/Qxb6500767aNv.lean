/- unionvfslaw: sameHandles, of two that are alike. -/
import Derived.Test.Qxb6500767aNt
import Derived.Test.Qxb6500767aVd
import Derived.Test.Qxb6500767aGk
namespace Go.Proofs.Qxb6500767a
open Go.RowKit Go.Qm
set_option linter.unusedVariables false
set_option linter.unusedSimpArgs false
attribute [local go_sem ↓] Go.wp_at_zero Go.wp_at_succ
set_option maxRecDepth 6000 in
set_option maxHeartbeats 8000000 in
theorem sameHandles_c {B B2 gw gf gt gm gt2 : Nat} {fp fp2 : Nat → Prop} {w : World} {s : Stt} {O : List Nat} {ov : Value} (hW : WW B fp w gw gf gt s) (hM : MW B2 fp2 w gm gt2 s O ov) :
    Calls Try.prog 16 #[.pointer (some ⟨gw, 0, none⟩), .pointer (some ⟨gm, 0, none⟩)] w fun e w' => e = .returned (.bool true) ∧ Keep w w' := by
  have HM := Hid.mk hM
  have HOC : Hid (∀ W, Keep w W → Calls Try.prog 26 #[.pointer (some ⟨gf, 0, none⟩)] W fun e w' => e = .returned (.int .i64 (O.length : Nat)) ∧ w' = W) := Hid.mk (fun W kk => by
    rw [← hM.rel.count hW.v.fs.lt]
    exact openCount_c gf gt s.u s.hs W (hW.v.fs.keep kk))
  have HLK : Hid (∀ W, Keep w W → ∀ i (hi : i < O.length), Calls Try.prog 22 #[.pointer (some ⟨gf, 0, none⟩), .int .i64 (O[i] : Nat)] W fun e w' => e = .returned (.agg (vwC ⟨true, (hat s.hs O[i]).node, (hat s.hs O[i]).flags, (hat s.hs O[i]).dir, (hat s.hs O[i]).off, (hat s.hs O[i]).cur⟩).toArray) ∧ Keep W w') := Hid.mk (fun W kk i hi => by
    have h1 := vLook_c gf gt s.u (O[i] : Nat) s.hs W (hW.v.fs.keep kk)
    obtain ⟨b1, b2⟩ := (hM.rel.mem _).1 (List.getElem_mem hi)
    have h2 : opn s.u ((O[i] : Nat) : Int) = true := by unfold opn; simp only [Int.toNat_natCast]; rw [b2, decide_eq_true (by omega), decide_eq_true (by omega)]; rfl
    unfold lookF at h1
    rw [if_pos h2] at h1
    simp only [Int.toNat_natCast] at h1
    exact h1)
  have c1 : w.cell? ⟨gw, 1, none⟩ = some (.pointer (some ⟨gf, 0, none⟩)) := hW.arr.cell 1
  obtain ⟨-, x1⟩ := hM.cells
  obtain ⟨oa, oc, hov, o1, o2⟩ := hM.form
  subst hov
  unfold maxLen at o2
  have q0 : ((O.length : Int) != (O.length : Int)) = false := by simp
  clear hW hM
  go_enter Try.func16, Try.ntmps16
  go_upto_region 1 with fail
  go_cut [18] from 8 to 17 (fun v wx => v = .bool false ∧ Keep w wx)
  case first =>
    go_quiet ((go_at_call 26; with_reducible refine Calls.quiet_of_same (HOC.out _ (by first | exact Keep.refl _ | exact (Keep.refl _).drew | exact (Keep.refl _).drewN _))))
    go_wp2_with fail
    go_meet
    case rel => exact ⟨rfl, (Keep.refl _).drewN _⟩
  case rest =>
    obtain ⟨rfl, k1⟩ := hcut
    obtain ⟨w1, hw1⟩ : ∃ w1, w1 = wc := ⟨_, rfl⟩
    subst hw1
    have HK1 := Hid.mk k1
    have X1 := Hid.mk x1
    have C1 := Hid.mk c1
    clear k1 x1 c1
    go_wp2_with fail
    go_loopg [5] O.length (fun gk v5 wr => ∃ k : Nat, k + gk = O.length ∧ v5 = .int .i64 k ∧ Keep w wr)
    case atStart => exact ⟨0, by omega, rfl, HK1.out⟩
    case round =>
      obtain ⟨k, hk, rfl, kw⟩ := hrel
      have x1 := kw.cell X1.out
      have c1 := kw.cell C1.out
      have HKW := Hid.mk kw
      have HKK := Hid.mk hk
      by_cases hlt : k < O.length
      · have j1 : (k : Int) < O.length := by omega
        have j2 : (0 : Int) ≤ k := by omega
        obtain ⟨g, c, hov, -, -, -, r0, r1, r2, r3, r4, r5, r6⟩ := (HM.out.keep kw).row hlt
        injection hov with hv1 hv2 hv3
        subst hv1 hv3
        have HL := Hid.mk (fun W kk => HLK.out W kk k hlt)
        clear hv2 kw hk
        generalize O[k] = n at *
        generalize hat s.hs n = X at *
        obtain ⟨nd, fl, dr, of, cu⟩ := X
        simp only at r1 r2 r3 r4 r5 r6 HL
        have e1 : ((nd : Int) != (nd : Int)) = false := by simp
        have e2 : ((of : Int) != (of : Int)) = false := by simp
        have e3 : (cu != cu) = false := by simp
        have e3' : (cu == cu) = true := by simp
        obtain ⟨b1, hb1⟩ : ∃ b, b = bt fl 1 := ⟨_, rfl⟩
        obtain ⟨b2, hb2⟩ : ∃ b, b = bt fl 2 := ⟨_, rfl⟩
        obtain ⟨b3, hb3⟩ : ∃ b, b = bt fl 32 := ⟨_, rfl⟩
        have m1 : (bits .and .i64 fl 1 != 0) = b1 := by rw [hb1]; rfl
        have m2 : (bits .and .i64 fl 2 != 0) = b2 := by rw [hb2]; rfl
        have m3 : (bits .and .i64 fl 32 != 0) = b3 := by rw [hb3]; rfl
        rw [← hb1] at r2
        rw [← hb2] at r3
        rw [← hb3] at r4
        clear hb1 hb2 hb3
        have n1 : (b1 != b1) = false := by simp
        have n2 : (b2 != b2) = false := by simp
        have n3 : (b3 != b3) = false := by simp
        go_upto_region 7 with fail
        have K2 : Keep wr (wr.alloc (.cells #[.int .i64 (n : Nat), .int .i64 (nd : Nat), .bool b1, .bool b2, .bool b3, .int .i64 (of : Nat), str cu] 91)) := (Keep.refl wr).alloc _
        have A2 : Arr (wr.alloc (.cells #[.int .i64 (n : Nat), .int .i64 (nd : Nat), .bool b1, .bool b2, .bool b3, .int .i64 (of : Nat), str cu] 91)) wr.heap.size 91 [.int .i64 (n : Nat), .int .i64 (nd : Nat), .bool b1, .bool b2, .bool b3, .int .i64 (of : Nat), str cu] := Arr.new wr 91 _
        refine regionH_c gw gf wr.heap.size (n : Nat) [.bool true, .int .i64 (nd : Nat), .int .i64 fl, .bool dr, .int .i64 (of : Nat), str cu] rfl (by simp [Value.oneCell']) (by rfl) (by rfl) (by rfl) (K2.cell c1) (A2.cell 0) (fun W kk => HL.out W ((HKW.out.trans K2).trans kk)) ?_
        intro p w3 hp A3 k3
        have A4 := A2.keep k3
        have HK3 := Hid.mk ((HKW.out.trans K2).trans k3)
        have s0 := A3.cell 0
        have s1 := A3.cell 1
        have s2 := A3.cell 2
        have s4 := A3.cell 4
        have s5 := A3.cell 5
        have u1 := A4.cell 1
        have u2 := A4.cell 2
        have u3 := A4.cell 3
        have u4 := A4.cell 4
        have u5 := A4.cell 5
        have u6 := A4.cell 6
        simp only [List.getElem?_cons_zero, List.getElem?_cons_succ] at s0 s1 s2 s4 s5 u1 u2 u3 u4 u5 u6
        clear A2 A3 A4 K2 k3 hp
        simp only [lay, oHL, List.set_cons_succ, List.set_cons_zero, List.foldl, Act.put, List.setIfInBounds_toArray]
        go_wp2_with fail
        go_roundg (gk - 1)
        case measure => have := HKK.out; omega
        case rel => exact ⟨k + 1, by have := HKK.out; omega, by go_num, HK3.out⟩
      · have j1 : ¬ (k : Int) < O.length := by omega
        go_wp2_with fail
        go_ret
        exact ⟨rfl, HKW.out⟩
end Go.Proofs.Qxb6500767a
