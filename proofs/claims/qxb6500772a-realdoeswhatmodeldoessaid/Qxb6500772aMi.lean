/- blastlaw: agrees. -/
import Derived.Test.Qxb6500772aMh
import Derived.Test.Qxb6500772aMf
import Derived.Test.Qxb6500772aNa
import Derived.Test.Qxb6500772aHi
import Derived.Test.Qxb6500772aIc
import Derived.Test.Qxb6500772aLb
namespace Go.Proofs.Qxb6500772a
open Go Go.RowKit Go.Qm
set_option linter.unusedVariables false
set_option linter.unusedSimpArgs false
attribute [local go_sem ↓] Go.wp_at_zero Go.wp_at_succ
theorem allC_congr {cels : List Cel} {p q : Cel → Nat → Bool} (h : ∀ i (hi : i < cels.length), p cels[i] i = q cels[i] i) : allC cels p cels.length = allC cels q cels.length := by
  have h1 : ∀ n, n ≤ cels.length → allC cels p n = allC cels q n := by
    intro n
    induction n with
    | zero => intro _; simp [allC]
    | succ n ih =>
      intro hn
      rw [allC_next cels p n (by omega), allC_next cels q n (by omega), ih (by omega), h n (by omega)]
  exact h1 _ (Nat.le_refl _)
theorem allC_true {cels : List Cel} {p : Cel → Nat → Bool} (h : ∀ i (hi : i < cels.length), p cels[i] i = true) : allC cels p cels.length = true := by
  rw [allC_congr (q := fun _ _ => true) h]
  simp [allC]
theorem init_eq (cels : List Cel) (S : PS) : (!S.fault && allC cels (fun c i => c.inp || decide (S.at i = c.ini)) cels.length) = sameF cels S ⟨inis cels, false⟩ := by
  unfold sameF
  rw [Bool.and_comm, allC_congr (q := fun c i => c.inp || decide (S.at i = (PS.mk (inis cels) false).at i)) (fun i hi => by simp [PS.at, inis, List.getD_eq_getElem?_getD, hi])]
  congr 1
  cases S.fault <;> rfl
theorem trans_eq (cels : List Cel) (X T : PS) (hl : T.cells.length = cels.length) (lg : Bool) : (lg && (decide (X.fault = (nxOf cels T).fault) && allC cels (fun c i => c.inp || decide (X.at i = (nxOf cels T).at i)) cels.length)) = (lg && sameF cels X T) := by
  unfold sameF
  rw [nx_fault, allC_congr (q := fun c i => c.inp || decide (X.at i = T.at i)) (fun i hi => by
    rw [nxOf, mixK_at _ _ _ _ _ (by omega), inpA_get hi]
    cases cels[i].inp <;> simp [hi]), Bool.and_comm (decide _)]
theorem same_self (cels : List Cel) (X : PS) : sameF cels X X = true := by
  unfold sameF
  rw [allC_true (fun i hi => by simp)]
  simp
set_option maxRecDepth 4000 in
set_option maxHeartbeats 4000000 in
theorem agrees_c {P : Nat → Prop} {w : World} {cels : List Cel} {body : SL} {f : EF} {t : EL} {cv bv kv : Value} (h : PRG P w cels body f t cv bv kv) {B gS gc : Nat} {gv : Value} {G : List Gate} {pv av : Value} {afl : List (Nat × Nat)} {gWc fbc gWn fbn gW3 fb3 b8 b9 b10 b11 : Nat} (sys : SYSW B cels body f t w gS gc gv G pv av afl gWc fbc gWn fbn gW3 fb3 b8 b9 b10 b11) (okp : OKP cels body f t) {sa : Option Addr} {sc : Nat} {S : PS} (hS : Vs w (.slice sa S.cells.length sc) S.cells) (okS : StOK (cels.map (·.w)) S) {ta : Option Addr} {tc : Nat} {T : PS} (hT : Vs w (.slice ta T.cells.length tc) T.cells) (okT : StOK (cels.map (·.w)) T) :
    Calls Try.prog 19 #[.pointer (some ⟨gS, 0, none⟩), prA cv bv f kv, .agg #[.slice sa S.cells.length sc, .bool S.fault], .agg #[.slice ta T.cells.length tc, .bool T.fault]] w fun e w' => e = .returned (.bool true) ∧ Keep w w' := by
  obtain ⟨pa, pc, rfl, pc1, pc2⟩ := h.cs.form
  obtain ⟨ba, bm, bc, rfl⟩ := h.sb
  obtain ⟨ka, km, kc, rfl⟩ := h.sk
  unfold maxLen at pc2
  have HH := Hid.mk h
  simp only [prA]
  obtain ⟨W1, hW1⟩ : ∃ W1, W1 = w.alloc (.cells #[.slice pa cels.length pc, .slice ba bm bc, .int .i64 f.k, .int .i64 f.w, .int .i64 f.o, .int .u64 (f.v : Nat), .int .i64 f.c, .int .i64 f.l, .slice ka km kc] 33) := ⟨_, rfl⟩
  have k1 : Keep w W1 := by rw [hW1]; exact (Keep.refl w).alloc _
  have z1 : W1.heap.size = w.heap.size + 1 := by rw [hW1]; simp
  have b1 : Arr W1 w.heap.size 33 [.slice pa cels.length pc, .slice ba bm bc, .int .i64 f.k, .int .i64 f.w, .int .i64 f.o, .int .u64 (f.v : Nat), .int .i64 f.c, .int .i64 f.l, .slice ka km kc] := by rw [hW1]; exact Arr.new w 33 _
  obtain ⟨W2, hW2⟩ : ∃ W2, W2 = W1.alloc (.cells #[.slice sa S.cells.length sc, .bool S.fault] 37) := ⟨_, rfl⟩
  have k2 : Keep W1 W2 := by rw [hW2]; exact (Keep.refl W1).alloc _
  have z2 : W2.heap.size = w.heap.size + 2 := by rw [hW2]; simp [z1]
  have b2 : Arr W2 (w.heap.size + 1) 37 [.slice sa S.cells.length sc, .bool S.fault] := by rw [← z1, hW2]; exact Arr.new W1 37 _
  obtain ⟨W3, hW3⟩ : ∃ W3, W3 = W2.alloc (.cells #[.slice ta T.cells.length tc, .bool T.fault] 37) := ⟨_, rfl⟩
  have k3 : Keep W2 W3 := by rw [hW3]; exact (Keep.refl W2).alloc _
  have z3 : W3.heap.size = w.heap.size + 3 := by rw [hW3]; simp [z2]
  have b3 : Arr W3 (w.heap.size + 2) 37 [.slice ta T.cells.length tc, .bool T.fault] := by rw [← z2, hW3]; exact Arr.new W2 37 _
  have A1 := ((b1.keep k2).keep k3)
  have A2 := (b2.keep k3)
  have A3 := b3
  have kW := ((k1.trans k2).trans k3)
  have HKW := Hid.mk kW
  clear k1 z1 b1 k2 z2 b2 k3 z3 b3
  have HS := Hid.mk hS
  have HOS := Hid.mk okS
  have HT := Hid.mk hT
  have HOT := Hid.mk okT
  have HSY := Hid.mk sys
  have HOK := Hid.mk okp
  have hl1 := stok_len okS
  have hl2 := stok_len okT
  have HL := Hid.mk (And.intro hl1 hl2)
  have hS0 : S0 cels (inpF ((pinAll (cwOf cels) (cnOf cels)).map (pinB S T))) = S := stIn_cur okS
  have hS1 : S1 cels (inpF ((pinAll (cwOf cels) (cnOf cels)).map (pinB S T))) = nxOf cels T := stIn_next (nx_ok okT) (nx_fault cels T) (nx_at hl2)
  have HS0 := Hid.mk hS0
  have HS1 := Hid.mk hS1
  clear h hS okS hT okT sys okp hl1 hl2 hS0 hS1
  go_enter Try.func19, Try.ntmps19
  go_upto_region 1 with fail
  rw [← hW1, ← hW2, ← hW3]
  clear hW1 hW2 hW3
  obtain ⟨g3, hg3⟩ : ∃ g3, g3 = w.heap.size + 2 := ⟨_, rfl⟩
  obtain ⟨g2, hg2⟩ : ∃ g2, g2 = w.heap.size + 1 := ⟨_, rfl⟩
  obtain ⟨g1, hg1⟩ : ∃ g1, g1 = w.heap.size := ⟨_, rfl⟩
  try simp only [Nat.add_assoc, Nat.reduceAdd]
  rw [← hg3] at A3 ⊢
  rw [← hg2] at A2 ⊢
  rw [← hg1] at A1 ⊢
  have HA3 := Hid.mk A3
  have HA2 := Hid.mk A2
  have HA1 := Hid.mk A1
  clear hg3 hg2 hg1
  have kd := (Keep.refl W3).drew
  have s3 := HSY.out.keep (HKW.out.trans kd)
  have pok := pins_ok HOK.out
  have cw := HOK.out.cw
  refine ag1_c gS gc g2 g3 (.slice sa S.cells.length sc) (.bool S.fault) (.slice ta T.cells.length tc) (.bool T.fault) rfl rfl rfl rfl ((A2.keep kd).cell 0) ((A2.keep kd).cell 1) ((A3.keep kd).cell 0) ((A3.keep kd).cell 1) (s3.ar.cell 0) (fun k u Z => match k with
    | 0 => Sl Z u (((pinAll (cwOf cels) (cnOf cels)).map (pinB S T)).map bval)
    | _ => Vs Z u (ev G (inpF ((pinAll (cwOf cels) (cnOf cels)).map (pinB S T))))) ?_ ?_ ?_ ?_ ?_
  · intro k u Z Z' kz hu
    match k, hu with
    | 0, hu => exact Sl.keep hu kz
    | k + 1, hu => exact Sl.keep hu kz
  · intro Z kz
    have kk := (HKW.out.trans kd).trans kz
    have sZ := s3.keep kz
    refine (ins_c (N := cels.length) (cur := S) (next := T) (sZ.ar.cell 12) sZ.pn (Sl.keep HS.out kk) (Sl.keep HT.out kk) HL.out.1 HL.out.2 (HOS.out.lt64 cw.1) (HOT.out.lt64 cw.1) HH.out.cl pok.1 pok.2).mono ?_
    rintro e w' ⟨a, rfl, hs, k⟩
    exact ⟨_, rfl, hs, k⟩
  · intro Z u kz hu
    have sZ := s3.keep kz
    refine (eval_c sZ.cc sZ.wf (by have := sZ.gl; omega) hu).mono ?_
    rintro e w' ⟨vv, rfl, k, hv⟩
    exact ⟨_, rfl, hv, k⟩
  · intro u Z hu
    exact hu
  · intro vs1 w5 hv hex k5
    obtain ⟨u, e2⟩ := hex 2 (by decide)
    have hV : Vs w5 u (ev G (inpF ((pinAll (cwOf cels) (cnOf cels)).map (pinB S T)))) := hv 2 u e2
    obtain ⟨ua, uc, hu, -, -⟩ := hV.form
    subst hu
    have HK5 := Hid.mk (kd.trans k5)
    have HV := Hid.mk hV
    simp only [Lmx, ag1T, List.filterMap_cons, List.filterMap_nil, ment, Option.map_some, Option.map_none, mval, e2, Option.getD_some, lay, List.foldl_cons, List.foldl_nil]
    simp only [put_litx, List.set_cons_succ, List.set_cons_zero]
    clear hv hex hV e2 k5 s3 kd pok cw
    go_upto_region 2 with fail
    have kd := (Keep.refl w5).drew
    have k9 := HK5.out.trans kd
    have s5 := HSY.out.keep (HKW.out.trans k9)
    refine ag2_c gS g1 g2 g3 b8 b9 b10 b11 (.slice pa cels.length pc) (.slice ba bm bc) (.int .i64 f.k) (.int .i64 f.w) (.int .i64 f.o) (.int .u64 (f.v : Nat)) (.int .i64 f.c) (.int .i64 f.l) (.slice ka km kc) (.slice sa S.cells.length sc) (.bool S.fault) (.slice ta T.cells.length tc) (.bool T.fault) (.slice ua (ev G (inpF ((pinAll (cwOf cels) (cnOf cels)).map (pinB S T)))).length uc) (sameF cels S ⟨inis cels, false⟩) (allC cels (legB S) cels.length) (allC cels (legB S) cels.length && sameF cels (exL (cels.map (·.w)) body S) T) (decide ((evOne f (evL t S) t.ws S).1 = 1)) rfl rfl rfl rfl rfl rfl ((A1.keep k9).cell 0) ((A1.keep k9).cell 1) ((A1.keep k9).cell 2) ((A1.keep k9).cell 3) ((A1.keep k9).cell 4) ((A1.keep k9).cell 5) ((A1.keep k9).cell 6) ((A1.keep k9).cell 7) ((A1.keep k9).cell 8) ((A2.keep k9).cell 0) ((A2.keep k9).cell 1) ((A3.keep k9).cell 0) ((A3.keep k9).cell 1) (s5.ar.cell 8) (s5.ar.cell 9) (s5.ar.cell 10) (s5.ar.cell 11) (fun k u Z => match k with
      | 0 => u = .bool (sameF cels S ⟨inis cels, false⟩)
      | 1 => u = .bool (sameF cels S ⟨inis cels, false⟩)
      | 2 => u = .bool (allC cels (legB S) cels.length)
      | 3 => u = .bool (allC cels (legB S) cels.length)
      | 4 => u = .bool (allC cels (legB S) cels.length && sameF cels (exL (cels.map (·.w)) body S) T)
      | 5 => u = .bool (allC cels (legB S) cels.length && sameF cels (exL (cels.map (·.w)) body S) T)
      | 6 => u = .bool (decide ((evOne f (evL t S) t.ws S).1 = 1))
      | 7 => u = .bool (decide ((evOne f (evL t S) t.ws S).1 = 1))
      | 8 => ∃ a c, u = .agg #[.slice a (exL (cels.map (·.w)) body S).cells.length c, .bool (exL (cels.map (·.w)) body S).fault] ∧ Vs Z (.slice a (exL (cels.map (·.w)) body S).cells.length c) (exL (cels.map (·.w)) body S).cells
      | 9 => ∃ a c, u = .agg #[.slice a (exL (cels.map (·.w)) body S).cells.length c, .bool (exL (cels.map (·.w)) body S).fault] ∧ Vs Z (.slice a (exL (cels.map (·.w)) body S).cells.length c) (exL (cels.map (·.w)) body S).cells
      | _ => u = .bool true) ?_ ?_ ?_ ?_ ?_ ?_ ?_ ?_ ?_ ?_ ?_ ?_ ?_ ?_ ?_ ?_ ?_ ?_ ?_ ?_ ?_ ?_
    · intro k u Z Z' kz hu
      match k, hu with
      | 0, hu => exact hu
      | 1, hu => exact hu
      | 2, hu => exact hu
      | 3, hu => exact hu
      | 4, hu => exact hu
      | 5, hu => exact hu
      | 6, hu => exact hu
      | 7, hu => exact hu
      | 8, ⟨a, c, e, hv⟩ => exact ⟨a, c, e, Sl.keep hv kz⟩
      | 9, ⟨a, c, e, hv⟩ => exact ⟨a, c, e, Sl.keep hv kz⟩
      | k + 10, hu => exact hu
    · intro Z kz
      have h9 := bit_v (w := Z) (Sl.keep HV.out (kd.trans kz)) (by rw [ev_len]; exact HSY.out.ini.1) (HSY.out.ini.2 (inpF ((pinAll (cwOf cels) (cnOf cels)).map (pinB S T))))
      dsimp only at h9
      rw [HS0.out, init_eq] at h9
      refine h9.mono ?_
      rintro e w' ⟨rfl, rfl⟩
      exact ⟨_, rfl, rfl, Keep.refl _⟩
    · intro u Z hu
      exact hu
    · intro Z kz
      have kk := (HKW.out.trans k9).trans kz
      have h9 := init_m (HH.out.keep kk) (Sl.keep HS.out kk) HOS.out
      simp only [prA] at h9
      refine h9.mono ?_
      rintro e w' ⟨rfl, k⟩
      exact ⟨_, rfl, rfl, k⟩
    · intro u Z hu
      exact hu
    · intro Z kz
      have h9 := bit_v (w := Z) (Sl.keep HV.out (kd.trans kz)) (by rw [ev_len]; exact HSY.out.leg.1) (HSY.out.leg.2 (inpF ((pinAll (cwOf cels) (cnOf cels)).map (pinB S T))))
      dsimp only at h9
      rw [HS0.out] at h9
      refine h9.mono ?_
      rintro e w' ⟨rfl, rfl⟩
      exact ⟨_, rfl, rfl, Keep.refl _⟩
    · intro u Z hu
      exact hu
    · intro Z kz
      have kk := (HKW.out.trans k9).trans kz
      have h9 := legal_m (HH.out.keep kk) (Sl.keep HS.out kk) HOS.out
      simp only [prA] at h9
      refine h9.mono ?_
      rintro e w' ⟨rfl, k⟩
      exact ⟨_, rfl, rfl, k⟩
    · intro u Z hu
      exact hu
    · intro Z kz
      have h9 := bit_v (w := Z) (Sl.keep HV.out (kd.trans kz)) (by rw [ev_len]; exact HSY.out.trn.1) (HSY.out.trn.2 (inpF ((pinAll (cwOf cels) (cnOf cels)).map (pinB S T))))
      dsimp only at h9
      rw [HS0.out, HS1.out, trans_eq _ _ _ HL.out.2] at h9
      refine h9.mono ?_
      rintro e w' ⟨rfl, rfl⟩
      exact ⟨_, rfl, rfl, Keep.refl _⟩
    · intro u Z hu
      exact hu
    · intro Z kz
      have kk := (HKW.out.trans k9).trans kz
      have h9 := trans_m (HH.out.keep kk) (Sl.keep HS.out kk) HOS.out (Sl.keep HT.out kk) HOT.out
      simp only [prA] at h9
      refine h9.mono ?_
      rintro e w' ⟨rfl, k⟩
      exact ⟨_, rfl, rfl, k⟩
    · intro u Z hu
      exact hu
    · intro Z kz
      have h9 := bit_v (w := Z) (Sl.keep HV.out (kd.trans kz)) (by rw [ev_len]; exact HSY.out.bad.1) (HSY.out.bad.2 (inpF ((pinAll (cwOf cels) (cnOf cels)).map (pinB S T))))
      dsimp only at h9
      rw [HS0.out] at h9
      refine h9.mono ?_
      rintro e w' ⟨rfl, rfl⟩
      exact ⟨_, rfl, rfl, Keep.refl _⟩
    · intro u Z hu
      exact hu
    · intro Z kz
      have kk := (HKW.out.trans k9).trans kz
      have h9 := bad_m (HH.out.keep kk) (Sl.keep HS.out kk) HOS.out
      simp only [prA] at h9
      refine h9.mono ?_
      rintro e w' ⟨rfl, k⟩
      exact ⟨_, rfl, rfl, k⟩
    · intro u Z hu
      exact hu
    · intro Z kz
      have sZ := s5.keep kz
      have h9 := value_c (inp := (inpF ((pinAll (cwOf cels) (cnOf cels)).map (pinB S T)))) (gF := gS) (oF := 5) sZ.stp sZ.wf (by rw [cwOf_len]; exact sZ.ar.cell 5) (sZ.ar.cell 6) (Sl.keep HV.out (kd.trans kz)) HOK.out.cw.1 (by rw [cwOf_len]; exact HH.out.cl)
      rw [HS0.out] at h9
      refine h9.mono ?_
      rintro e w' ⟨hn, k⟩
      obtain ⟨a, c, rfl, hv, -⟩ := hn.rst k
      exact ⟨_, rfl, ⟨a, c, rfl, hv⟩, k⟩
    · intro Z kz
      have kk := (HKW.out.trans k9).trans kz
      have h9 := step_m (HH.out.keep kk) (Sl.keep HS.out kk) HOS.out
      simp only [prA] at h9
      refine h9.mono ?_
      rintro e w' ⟨a, c, rfl, hv, k⟩
      exact ⟨_, rfl, ⟨a, c, rfl, hv⟩, k⟩
    · rintro Z u8 u9 kz ⟨a, c, rfl, hv⟩ ⟨a', c', rfl, hv'⟩
      have kk := (HKW.out.trans k9).trans kz
      have hWS : WsOK (cels.map (·.w)) := fun x hx => by
        obtain ⟨c, hc, rfl⟩ := List.mem_map.1 hx
        exact HH.out.cw c hc
      have hxl := stok_len (exL_ok hWS HH.out.wb HOS.out)
      have h9 := sameS_c (f := f) HH.out.cl (HH.out.keep kk).cs ⟨ba, bm, bc, rfl⟩ ⟨ka, km, kc, rfl⟩ hv hv' hxl hxl
      rw [same_self] at h9
      simp only [prA] at h9
      refine h9.mono ?_
      rintro e w' ⟨rfl, k⟩
      exact ⟨_, rfl, rfl, k⟩
    · intro u Z hu
      exact hu
    · intro vs2 w' hv hex kz
      have HK9 := Hid.mk ((HKW.out.trans k9).trans kz)
      simp only [Lmx, ag2T, List.filterMap_cons, List.filterMap_nil, ment, Option.map_some, Option.map_none, mval, lay, List.foldl_cons, List.foldl_nil]
      simp only [put_litx, List.set_cons_succ, List.set_cons_zero]
      clear hv hex kz kd k9 s5 A1 A2 A3
      go_wp2_with fail
      go_ret
      exact ⟨rfl, HK9.out⟩
end Go.Proofs.Qxb6500772a
