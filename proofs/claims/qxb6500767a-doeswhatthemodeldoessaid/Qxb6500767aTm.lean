/- mutatem: makeNode. -/
import Derived.Test.Qxb6500767aTl
import Derived.Deep.RegionLaw
namespace Go.Qm
open Go Go.RowKit
theorem step_of_run {P : Program} {w : World} {ops : Array Oper} {o : Oper} {a : Act} {K : Act → World → Prop} {Q : Exit → Act → World → Prop} {E : Prop} (hgd : o.guard = none) (s x : Operand) (t : TypeId)
    (ho : o.op = .call { callee := .builtin .append, args := #[s, x], argTypes := #[t, t] }) (v xv v' : Value) (w' : World) (hs : a.eval s = v) (hx : a.eval x = xv) (hr : (Builtin.append_ #[t, t] o.type #[v, xv]).run P w = .ok v' w') (h : K (a.put o.dst v') w') :
    if Region.wanted o (yielded ops a.tmps) = true then Oper.wp P o a w K Q else E := by
  have hw : Region.wanted o (yielded ops a.tmps) = true := by simp [Region.wanted, hgd]
  rw [if_pos hw]
  unfold Oper.wp execOp
  simp only [ho, resolve, invoke, builtin, Sem.run_bind, Sem.run_pure, Result.andThen_ok, List.map_toArray, List.map_cons, List.map_nil, hs, hx, hr]
  exact h
end Go.Qm
namespace Go.Proofs.Qxb6500767a
open Go.RowKit Go.Qm
set_option linter.unusedVariables false
set_option linter.unusedSimpArgs false
attribute [local go_sem ↓] Go.wp_at_zero Go.wp_at_succ
def newT (T : List Nd) (d : Nat) (nm key : List UInt8) (x : Nd) : List Nd := (T ++ [x]).set d { at' (T ++ [x]) d with edges := insE ⟨key, nm, T.length⟩ (at' (T ++ [x]) d).edges }
def makeT (T : List Nd) (path : List UInt8) (kind : Nat) (mode : Int) (data : List UInt8) : List Nd × Nat × Int :=
  if (parF T path).2.2.2 ≠ 0 then (T, 0, (parF T path).2.2.2)
  else if (findE (parF T path).2.2.1 (at' T (parF T path).1).edges).isSome = true then (T, 0, 10)
  else if (256 - (usedN T : Int) < 1) ∨ (512 - (usedB T : Int) < (blk data.length : Nat)) then (T, 0, 14)
  else (newT T (parF T path).1 (parF T path).2.1 (parF T path).2.2.1 ⟨kind, mode, 1, 0, (parF T path).1, data, []⟩, T.length, 0)
theorem parF_lt {T : List Nd} (ok : TOK T) (path : List UInt8) : (parF T path).1 < T.length := by
  unfold parF
  have := ok.root
  split; exact this
  split; exact this
  split; exact this
  split; exact this
  split; exact this
  exact walkF_lt ok _ _ _ _ this
theorem parF_key {T : List Nd} (path : List UInt8) : (parF T path).2.2.1.length ≤ 4000 := by
  unfold parF
  split; exact Nat.zero_le _
  split; exact Nat.zero_le _
  split; exact Nat.zero_le _
  split; exact Nat.zero_le _
  split; exact Nat.zero_le _
  rename_i hk
  exact (keyR_ok (by simpa using hk)).2.1
attribute [-go_sem] Builtin.append_
set_option maxRecDepth 3000 in
set_option maxHeartbeats 4000000 in
theorem makeNode_c (B gt kind : Nat) (mode : Int) (path data : List UInt8) (dv : Value) (fp : Nat → Prop) (T : List Nd) (w0 w : World) (h : TreeW B fp w0 gt T) (hk0 : Keep w0 w) (ok : TOK T) (hT : T.length ≤ 90000) (hU : usedB T ≤ 1000000) (hl : path.length ≤ 100000) (hd : Dat w0.heap.size w dv data kind) (hdl : data.length ≤ 2 ^ 22) (hks : ∀ i, i < T.length → ∀ x ∈ (at' T i).edges, x.key.length ≤ 1000000) :
    Calls Try.prog 91 #[.pointer (some ⟨gt, 0, none⟩), str path, .agg #[.int .i64 (kind : Nat), .int .i64 mode, .int .i64 0, .int .i64 0, .int .i64 0, dv, .slice none 0 0]] w fun e w' => RetT B fp w0 gt (makeT T path kind mode data).1 (.returned (.tuple #[.int .i64 ((makeT T path kind mode data).2.1 : Nat), .int .i64 (makeT T path kind mode data).2.2])) e w' := by
  obtain ⟨R, hR⟩ : ∃ R, R = makeT T path kind mode data := ⟨_, rfl⟩
  rw [← hR]
  have HTW := Hid.mk h
  have HOK := Hid.mk ok
  have hp1 := parF_lt ok path
  have hpk := parF_key (T := T) path
  have WP := fun W (hk : Keep w W) => walkParent_c gt T path W (h.tr.keep (hk0.trans hk)) ok hl
  have FC := fun W (hk : Keep w W) => find_c gt (parF T path).1 T (parF T path).2.2.1 W (h.tr.keep (hk0.trans hk)) hp1 (ok.few _ hp1)
  have HR1 : Hid ((parF T path).2.2.2 ≠ 0 → R = (T, 0, (parF T path).2.2.2)) := Hid.mk (fun a => by rw [hR, makeT, if_pos a])
  have HR2 : Hid ((parF T path).2.2.2 = 0 → (findE (parF T path).2.2.1 (at' T (parF T path).1).edges).isSome = true → R = (T, 0, 10)) := Hid.mk (fun a b => by rw [hR, makeT, if_neg (by simpa using a), if_pos b])
  have HR3 : Hid ((parF T path).2.2.2 = 0 → ¬ (findE (parF T path).2.2.1 (at' T (parF T path).1).edges).isSome = true → (256 - (usedN T : Int) < 1) ∨ (512 - (usedB T : Int) < (blk data.length : Nat)) → R = (T, 0, 14)) := Hid.mk (fun a b c => by rw [hR, makeT, if_neg (by simpa using a), if_neg b, if_pos c])
  have HR4 : Hid ((parF T path).2.2.2 = 0 → ¬ (findE (parF T path).2.2.1 (at' T (parF T path).1).edges).isSome = true → ¬ ((256 - (usedN T : Int) < 1) ∨ (512 - (usedB T : Int) < (blk data.length : Nat))) → R = (newT T (parF T path).1 (parF T path).2.1 (parF T path).2.2.1 ⟨kind, mode, 1, 0, (parF T path).1, data, []⟩, T.length, 0)) := Hid.mk (fun a b c => by rw [hR, makeT, if_neg (by simpa using a), if_neg b, if_neg c])
  clear hR
  unfold parV at WP
  obtain ⟨⟨dir, nm, key, er⟩, hpf⟩ : ∃ p, p = parF T path := ⟨_, rfl⟩
  rw [← hpf] at hp1 hpk WP FC HR1 HR2 HR3 HR4
  simp only at hp1 hpk WP FC HR1 HR2 HR3 HR4
  clear hpf
  obtain ⟨da, dc, rfl, hdc, hdm, -⟩ := hd.bs.form
  have HD := Hid.mk hd
  have K0 := (Keep.refl w).alloc (.cells #[.int .i64 (kind : Nat), .int .i64 mode, .int .i64 0, .int .i64 0, .int .i64 0, .slice da data.length dc, .slice none 0 0] 67)
  have A0 : Arr (w.alloc (.cells #[.int .i64 (kind : Nat), .int .i64 mode, .int .i64 0, .int .i64 0, .int .i64 0, .slice da data.length dc, .slice none 0 0] 67)) w.heap.size 67 [.int .i64 (kind : Nat), .int .i64 mode, .int .i64 0, .int .i64 0, .int .i64 0, .slice da data.length dc, .slice none 0 0] := Arr.new w 67 _
  unfold maxLen at hdm
  clear hd h ok
  go_enter Try.func91, Try.ntmps91
  go_wp2_with fail
  refine (WP _ K0).mono ?_
  rintro e w1 ⟨rfl, k1⟩
  have K1 := K0.trans k1
  by_cases her : er = 0
  · subst her
    have HR2' := Hid.mk (HR2.out rfl)
    have HR3' := Hid.mk (HR3.out rfl)
    have HR4' := Hid.mk (HR4.out rfl)
    clear HR1 HR2 HR3 HR4
    go_wp2_with fail
    refine (FC _ K1).mono ?_
    rintro e w2 ⟨rfl, rfl⟩
    cases hfe : findE key (at' T dir).edges with
    | some j =>
      have HF := Hid.mk (HR2'.out (by rw [hfe]; rfl))
      unfold optI
      clear HR2' HR3' HR4' hfe
      go_wp2_with fail
      go_ret2
      rw [HF.out]
      exact ⟨fp, rfl, HTW.out.keep (hk0.trans K1), Stp.keep (hk0.trans K1)⟩
    | none =>
      have HR3 := Hid.mk (HR3'.out (by rw [hfe]; simp))
      have HR4 := Hid.mk (HR4'.out (by rw [hfe]; simp))
      unfold optI
      clear HR2' HR3' HR4' hfe
      have A1 := A0.keep k1
      have FN := fun W (hk : Keep w2 W) => freeNodes_c gt T W (HTW.out.tr.keep ((hk0.trans K1).trans hk)) (by omega)
      have FB := fun W (hk : Keep w2 W) => freeBlocks_c gt T W (HTW.out.tr.keep ((hk0.trans K1).trans hk)) (by omega) hU
      have BC := fun W => blocksOf_c data.length W (by omega)
      have hbl : blk data.length ≤ 2 ^ 22 := by unfold blk; omega
      go_upto_region 6 with fail
      obtain ⟨W0, hW0⟩ : ∃ W0, W0 = w2 := ⟨_, rfl⟩
      subst hW0
      have b5 := A1.cell 5
      simp only [List.getElem?_cons_zero, List.getElem?_cons_succ] at b5
      obtain ⟨cd, hcd⟩ : ∃ cd, cd = decide ((256 - (usedN T : Int) < 1) ∨ (512 - (usedB T : Int) < (blk data.length : Nat))) := ⟨_, rfl⟩
      have HCD := Hid.mk hcd
      clear hcd
      generalize usedN T = uN at *
      generalize usedB T = uB at *
      generalize blk data.length = bL at *
      go_cut [40] from 29 to 40 (fun cv wx => cv = .bool cd ∧ Keep W0 wx)
      case first =>
        by_cases a1 : 256 - (uN : Int) < 1
        · have z1 : decide (256 - (uN : Int) < 1) = true := decide_eq_true a1
          have e : cd = true := by rw [HCD.out]; simp [a1]
          subst e
          have FNq := fun n => FN (W0.drewN n) ((Keep.refl W0).drewN n)
          go_quiet ((go_at_call 19; with_reducible refine Calls.quiet_of_same (FNq _)))
          go_wp2_with fail
          go_meet
          case rel => exact ⟨rfl, (Keep.refl W0).drewN _⟩
        · have z1 : decide (256 - (uN : Int) < 1) = false := decide_eq_false a1
          have FNq := fun n => FN (W0.drewN n) ((Keep.refl W0).drewN n)
          have FBq := fun n => FB (W0.drewN n) ((Keep.refl W0).drewN n)
          have e : cd = decide (512 - (uB : Int) < (bL : Int)) := by rw [HCD.out]; simp [a1]
          have HE := Hid.mk e
          clear e a1
          go_quiet ((first
            | (go_at_call 19; with_reducible refine Calls.quiet_of_same (FNq _))
            | (go_at_call 20; with_reducible refine Calls.quiet_of_same (FBq _))
            | (go_at_call 73; with_reducible refine Calls.quiet_of_same (BC _))))
          go_wp2_with fail
          go_meet
          case rel => rw [HE.out]; exact ⟨rfl, (Keep.refl W0).drewN _⟩
      case rest =>
        obtain ⟨rfl, k3⟩ := hcut
        have K3 := K1.trans k3
        have A3 := A1.keep k3
        obtain ⟨W1, hW1⟩ : ∃ W1, W1 = wc := ⟨_, rfl⟩
        subst hW1
        clear FN FB BC b5
        cases cd with
        | true =>
          have HF := Hid.mk (HR3.out (of_decide_eq_true HCD.out.symm))
          go_wp2_with fail
          go_ret2
          rw [HF.out]
          exact ⟨fp, rfl, HTW.out.keep (hk0.trans K3), Stp.keep (hk0.trans K3)⟩
        | false =>
          have HF := Hid.mk (HR4.out (of_decide_eq_false HCD.out.symm))
          clear HR3 HR4 HCD
          have a2 := A3.cell 2
          have a4 := A3.cell 4
          have f2 := A3.frozen 2
          have f4 := A3.frozen 4
          simp only [List.getElem?_cons_zero, List.getElem?_cons_succ] at a2 a4
          have A4 := (A3.set 2 (.int .i64 1)).set 4 (.int .i64 (dir : Nat))
          have K4 : Keep w ((W1.setCell ⟨w.heap.size, 2, none⟩ (.int .i64 1)).setCell ⟨w.heap.size, 4, none⟩ (.int .i64 (dir : Nat))) := (K3.setCell (p := ⟨w.heap.size, 2, none⟩) (Nat.le_refl _) _).setCell (p := ⟨w.heap.size, 4, none⟩) (Nat.le_refl _) _
          simp only [List.set_cons_succ, List.set_cons_zero] at A4
          go_upto_region 10 with fail
          obtain ⟨W4, hW4⟩ : ∃ W4, W4 = (W1.setCell ⟨w.heap.size, 2, none⟩ (.int .i64 1)).setCell ⟨w.heap.size, 4, none⟩ (.int .i64 (dir : Nat)) := ⟨_, rfl⟩
          rw [← hW4] at A4 K4
          rw [← hW4]
          clear hW4 a2 a4 f2 f4 A3 A1 A0
          obtain ⟨gn, hgn⟩ : ∃ gn, gn = w.heap.size := ⟨_, rfl⟩
          rw [← hgn] at A4
          rw [← hgn]
          clear hgn
          have K04 := hk0.trans K4
          obtain ⟨bn, cap, hc1, hc2, ct, hbn, hBb, hBg, hgl, AP⟩ := HTW.out.app (by omega)
          have KX := ((Keep.refl W4).alloc (.cells (nodC ⟨⟨kind, mode, 1, 0, dir, data, []⟩, .slice da data.length dc, .slice none 0 0⟩).toArray 67)).drew
          have hBw : B ≤ w0.heap.size := by omega
          obtain ⟨a', c', w5, hrun, ct5, ft5, fp', t5, s5⟩ := AP _ (K04.trans KX) W4.heap.size ⟨⟨kind, mode, 1, 0, dir, data, []⟩, .slice da data.length dc, .slice none 0 0⟩ (Go.Qm.Arr.drew (Arr.new W4 67 _)) (by intro u hu; simp [nodC] at hu; rcases hu with rfl | rfl | rfl | rfl | rfl | rfl | rfl <;> rfl) ((HD.out.keep (K4.trans KX)).mono hBw) (OwnS.nil _ _ _ _ _) (fun b q hq => by
            cases b
            · exact (HD.out.lt q hq).1
            · cases hq) (fun q a b => by cases b)
          have ct4 := K04.cell ct
          have ct4' := ((Keep.refl W4).alloc (.cells #[.int .i64 (kind : Nat), .int .i64 mode, .int .i64 1, .int .i64 0, .int .i64 (dir : Nat), .slice da data.length dc, .slice none 0 0] 67)).cell ct4
          have g0 := A4.cell 0
          have g1 := A4.cell 1
          have g2 := A4.cell 2
          have g3 := A4.cell 3
          have g4 := A4.cell 4
          have g5 := A4.cell 5
          have g6 := A4.cell 6
          simp only [List.getElem?_cons_zero, List.getElem?_cons_succ] at g0 g1 g2 g3 g4 g5 g6
          unfold maxLen at hc2
          have HT5 := Hid.mk t5
          have HS5 := Hid.mk s5
          have hrun' : (Builtin.append_ #[61, 61] 61 #[.slice (some ⟨bn, 0, none⟩) T.length cap, .slice (some ⟨W4.heap.size, 0, none⟩) 1 1]).run Try.prog (W4.alloc (.cells #[.int .i64 (kind : Nat), .int .i64 mode, .int .i64 1, .int .i64 0, .int .i64 (dir : Nat), .slice da data.length dc, .slice none 0 0] 67)).drew = .ok (.slice a' (T.length + 1) c') w5 := hrun
          clear hrun AP t5 s5 A4 ct
          obtain ⟨av, hav⟩ : ∃ av, av = some (⟨bn, 0, none⟩ : Addr) := ⟨_, rfl⟩
          rw [← hav] at ct4 ct4' ct5 hrun'
          clear hav
          have HRUN := Hid.mk hrun'
          clear hrun'
          go_cut [51] from 44 to 53 (fun _ wx => wx = w5.setCell ⟨gt, 0, none⟩ (.slice a' (T.length + 1) c'))
          case first =>
            have hrun' := HRUN.out
            clear HRUN HF HT5 HS5 HD HTW HOK K0 K1 K3 K04 KX k1 k3 hk0 FC hks hT hU hl hdl hp1 hpk hBw hbn hBb hBg hgl hdc hdm K4 hbl
            go_region
            go_wp2_with fail
            go_meet
            case rel => rfl
          case rest =>
            have hwc := hcut
            have tw := HT5.out
            have sw := HS5.out
            rw [← hwc] at tw sw
            obtain ⟨W6, hW6⟩ : ∃ W6, W6 = wc := ⟨_, rfl⟩
            subst hW6
            have hl1 : (T ++ [(⟨kind, mode, 1, 0, dir, data, []⟩ : Nd)]).length = T.length + 1 := by simp
            have hat : at' (T ++ [(⟨kind, mode, 1, 0, dir, data, []⟩ : Nd)]) dir = at' T dir := by
              rw [at_get (by rw [hl1]; omega), at_get hp1, List.getElem_append_left hp1]
            have AC := attach_c B gt dir key nm T.length fp' _ W6 tw (by rw [hl1]; omega) (by rw [hat]; exact HOK.out.few _ hp1) (by omega) (by rw [hat]; exact hks _ hp1)
            rw [show (T ++ [(⟨kind, mode, 1, 0, dir, data, []⟩ : Nd)]).set dir { at' (T ++ [(⟨kind, mode, 1, 0, dir, data, []⟩ : Nd)]) dir with edges := insE ⟨key, nm, T.length⟩ (at' (T ++ [(⟨kind, mode, 1, 0, dir, data, []⟩ : Nd)]) dir).edges } = newT T dir nm key ⟨kind, mode, 1, 0, dir, data, []⟩ from rfl] at AC
            obtain ⟨bn6, cap6, d0, d1, d2, -⟩ := tw.tr
            rw [hl1] at d0 d1
            unfold maxLen at d2
            have e6 : IntKind.i64.wrap (((T.length + 1 : Nat) : Int) - 1) = (T.length : Int) := by rw [IntKind.wrap_i64] <;> omega
            have HSW := Hid.mk sw
            generalize newT T dir nm key ⟨kind, mode, 1, 0, dir, data, []⟩ = T2 at *
            clear HT5 HS5 hcut hwc tw sw hl1 hat ct4 ct4' ct5 ft5 g0 g1 g2 g3 g4 g5 g6 HRUN KX
            generalize hn6 : T.length + 1 = n6 at d0 d1 e6
            go_wp2_with fail
            refine AC.mono ?_
            rintro e w7 ⟨fp2, rfl, t7, s7⟩
            go_wp2_with fail
            go_ret2
            rw [HF.out]
            exact ⟨fp2, rfl, t7, HSW.out.trans s7⟩
  · have HF := Hid.mk (HR1.out her)
    have q1 : (er != 0) = true := by simp [her]
    clear HR1 HR2 HR3 HR4
    go_wp2_with fail
    go_ret2
    rw [HF.out]
    exact ⟨fp, rfl, HTW.out.keep (hk0.trans K1), Stp.keep (hk0.trans K1)⟩
end Go.Proofs.Qxb6500767a
