/- unionvfs: Stat, Lstat. -/
import Derived.Test.Qxb6500767aFe
namespace Go.Qm
open Go Go.RowKit
theorem results_cell_row2 {P : Program} {fn : Func} {p q : Tmp} {ty : TypeId} (h : fn.results = #[.cell p ty, .tmp q]) (tmps : Array Value) (w : World) (g : Nat) (t : TypeId) (cs : Array Value) (fr : Nat × Nat) (d : TypeDesc) (v : Value) (hv : tmps.getD q undef = v)
    (hp : tmps.getD p undef = .pointer (some ⟨g, 0, none⟩)) (hg : w.heap[g]? = some (.cells cs t fr))
    (hu : P.underlying ty = some d) (hd : (match d with | .struct _ | .array _ _ => true | _ => false) = true) (hi : (P.info? ty).map (·.size) = some cs.size) :
    (results fn tmps).run P w = .ok (.tuple #[.agg cs, v]) w := by
  have hp' : tmps[p]?.getD undef = .pointer (some ⟨g, 0, none⟩) := by simpa using hp
  have hv' : tmps[q]?.getD undef = v := by simpa using hv
  simp [results, h, hp', hv', asAddr, run_loadVar_row w g t ty cs fr d hg hu hd hi]
end Go.Qm
namespace Go.Proofs.Qxb6500767a
open Go.RowKit Go.Qm
set_option linter.unusedVariables false
set_option linter.unusedSimpArgs false
attribute [local go_sem ↓] Go.wp_at_zero Go.wp_at_succ
def stpF (T : List Nd) (path : List UInt8) (fl : Bool) : Sta × Int := if (pathF T path fl).2 ≠ 0 then (sta0, (pathF T path fl).2) else (statF T (pathF T path fl).1, 0)
def staV (r : Sta × Int) : Value := .tuple #[.agg #[.int .i64 (r.1.ino : Nat), .int .i64 (r.1.kind : Nat), .int .i64 r.1.mode, .int .i64 (r.1.links : Nat), .int .i64 (r.1.size : Nat)], .int .i64 r.2]
set_option maxRecDepth 3000 in
set_option maxHeartbeats 2000000 in
theorem vStat_c (B gf gt u : Nat) (path : List UInt8) (fp : Nat → Prop) (hs : List Hd) (T : List Nd) (w : World) (h : VW B fp w gf gt u hs T) (ok : TOK T) (hl : path.length ≤ 100000) :
    Calls Try.prog 39 #[.pointer (some ⟨gf, 0, none⟩), str path] w fun e w' => e = .returned (staV (stpF T path true)) ∧ Keep w w' := by
  have K0 := (Keep.refl w).alloc (.cells #[.int .i64 0, .int .i64 0, .int .i64 0, .int .i64 0, .int .i64 0] 31)
  have A0 : Arr (w.alloc (.cells #[.int .i64 0, .int .i64 0, .int .i64 0, .int .i64 0, .int .i64 0] 31)) w.heap.size 31 [.int .i64 0, .int .i64 0, .int .i64 0, .int .i64 0, .int .i64 0] := Arr.new w 31 _
  have HF := Hid.mk (fun W (hk : Keep w W) => (h.fs.keep hk).head.1)
  have c0 := HF.out _ K0
  have WC := walk_c gt T true path _ (h.tree.tr.keep K0) ok hl
  have hn := pathF_lt ok path true
  have SC := fun W (hk : Keep w W) => statL_c gt (pathF T path true).1 T W (h.tree.tr.keep hk) hn
  have HR1 : Hid ((pathF T path true).2 ≠ 0 → stpF T path true = (sta0, (pathF T path true).2)) := Hid.mk (fun a => by unfold stpF; rw [if_pos a])
  have HR2 : Hid ((pathF T path true).2 = 0 → stpF T path true = (⟨(pathF T path true).1, (at' T (pathF T path true).1).kind, (at' T (pathF T path true).1).mode, (at' T (pathF T path true).1).links, (statF T (pathF T path true).1).size⟩, 0)) := Hid.mk (fun a => by unfold stpF; rw [if_neg (by simpa using a)]; rfl)
  generalize stpF T path true = R at *
  obtain ⟨⟨n, er⟩, hp⟩ : ∃ p, p = pathF T path true := ⟨_, rfl⟩
  rw [← hp] at WC hn SC HR1 HR2
  simp only at WC hn SC HR1 HR2
  generalize (statF T n).size = sz at *
  generalize (at' T n).kind = kd at *
  generalize (at' T n).mode = md at *
  generalize (at' T n).links = lk at *
  clear hp h ok
  go_enter Try.func39, Try.ntmps39
  go_wp2_with fail
  refine WC.mono ?_
  rintro e w1 ⟨rfl, k1⟩
  have K1 := K0.trans k1
  have A1 := A0.keep k1
  by_cases her : er = 0
  · subst her
    have HV := Hid.mk (HR2.out rfl)
    replace c0 := HF.out _ K1
    clear HR1 HR2
    go_wp2_with fail
    refine (SC _ K1).mono ?_
    rintro e w2 ⟨rfl, k2⟩
    have A2 := A1.keep k2
    have K2 := K1.trans k2
    have a0 := A2.cell 0
    have a1 := A2.cell 1
    have a2 := A2.cell 2
    have a3 := A2.cell 3
    have a4 := A2.cell 4
    have f0 := A2.frozen 0
    have f1 := A2.frozen 1
    have f2 := A2.frozen 2
    have f3 := A2.frozen 3
    have f4 := A2.frozen 4
    simp only [List.getElem?_cons_zero, List.getElem?_cons_succ] at a0 a1 a2 a3 a4
    have A3 := ((((A2.set 0 (.int .i64 (n : Nat))).set 1 (.int .i64 (kd : Nat))).set 2 (.int .i64 md)).set 3 (.int .i64 (lk : Nat))).set 4 (.int .i64 (sz : Nat))
    have K3 := ((((K2.setCell (p := ⟨w.heap.size, 0, none⟩) (Nat.le_refl _) (.int .i64 (n : Nat))).setCell (p := ⟨w.heap.size, 1, none⟩) (Nat.le_refl _) (.int .i64 (kd : Nat))).setCell (p := ⟨w.heap.size, 2, none⟩) (Nat.le_refl _) (.int .i64 md)).setCell (p := ⟨w.heap.size, 3, none⟩) (Nat.le_refl _) (.int .i64 (lk : Nat))).setCell (p := ⟨w.heap.size, 4, none⟩) (Nat.le_refl _) (.int .i64 (sz : Nat))
    simp only [List.set_cons_zero, List.set_cons_succ] at A3
    have HA3 := Hid.mk A3
    have HK3 := Hid.mk K3
    clear A3 K3 A2 A1 A0
    go_wp2_with fail
    refine bodyPost_ret (v := .tuple #[.agg #[.int .i64 (n : Nat), .int .i64 (kd : Nat), .int .i64 md, .int .i64 (lk : Nat), .int .i64 (sz : Nat)], .int .i64 0]) (results_cell_row2 rfl _ _ w.heap.size 31 _ (0, 0) _ _ rfl rfl HA3.out Try.underlying31 rfl s31) rfl ⟨?_, HK3.out⟩
    rw [HV.out]; rfl
  · have HV := Hid.mk (HR1.out her)
    have q1 : (er != 0) = true := by simp [her]
    have a0 := A1.cell 0
    have a1 := A1.cell 1
    have a2 := A1.cell 2
    have a3 := A1.cell 3
    have a4 := A1.cell 4
    have f0 := A1.frozen 0
    have f1 := A1.frozen 1
    have f2 := A1.frozen 2
    have f3 := A1.frozen 3
    have f4 := A1.frozen 4
    simp only [List.getElem?_cons_zero, List.getElem?_cons_succ] at a0 a1 a2 a3 a4
    have A3 := ((((A1.set 0 (.int .i64 0)).set 1 (.int .i64 0)).set 2 (.int .i64 0)).set 3 (.int .i64 0)).set 4 (.int .i64 0)
    have K3 := ((((K1.setCell (p := ⟨w.heap.size, 0, none⟩) (Nat.le_refl _) (.int .i64 0)).setCell (p := ⟨w.heap.size, 1, none⟩) (Nat.le_refl _) (.int .i64 0)).setCell (p := ⟨w.heap.size, 2, none⟩) (Nat.le_refl _) (.int .i64 0)).setCell (p := ⟨w.heap.size, 3, none⟩) (Nat.le_refl _) (.int .i64 0)).setCell (p := ⟨w.heap.size, 4, none⟩) (Nat.le_refl _) (.int .i64 0)
    simp only [List.set_cons_zero, List.set_cons_succ] at A3
    have HA3 := Hid.mk A3
    have HK3 := Hid.mk K3
    clear A3 K3 A1 A0 HR1 HR2
    go_wp2_with fail
    refine bodyPost_ret (v := .tuple #[.agg #[.int .i64 0, .int .i64 0, .int .i64 0, .int .i64 0, .int .i64 0], .int .i64 er]) (results_cell_row2 rfl _ _ w.heap.size 31 _ (0, 0) _ _ rfl rfl HA3.out Try.underlying31 rfl s31) rfl ⟨?_, HK3.out⟩
    rw [HV.out]; rfl
set_option maxRecDepth 3000 in
set_option maxHeartbeats 2000000 in
theorem vLstat_c (B gf gt u : Nat) (path : List UInt8) (fp : Nat → Prop) (hs : List Hd) (T : List Nd) (w : World) (h : VW B fp w gf gt u hs T) (ok : TOK T) (hl : path.length ≤ 100000) :
    Calls Try.prog 40 #[.pointer (some ⟨gf, 0, none⟩), str path] w fun e w' => e = .returned (staV (stpF T path false)) ∧ Keep w w' := by
  have K0 := (Keep.refl w).alloc (.cells #[.int .i64 0, .int .i64 0, .int .i64 0, .int .i64 0, .int .i64 0] 31)
  have A0 : Arr (w.alloc (.cells #[.int .i64 0, .int .i64 0, .int .i64 0, .int .i64 0, .int .i64 0] 31)) w.heap.size 31 [.int .i64 0, .int .i64 0, .int .i64 0, .int .i64 0, .int .i64 0] := Arr.new w 31 _
  have HF := Hid.mk (fun W (hk : Keep w W) => (h.fs.keep hk).head.1)
  have c0 := HF.out _ K0
  have WC := walk_c gt T false path _ (h.tree.tr.keep K0) ok hl
  have hn := pathF_lt ok path false
  have SC := fun W (hk : Keep w W) => statL_c gt (pathF T path false).1 T W (h.tree.tr.keep hk) hn
  have HR1 : Hid ((pathF T path false).2 ≠ 0 → stpF T path false = (sta0, (pathF T path false).2)) := Hid.mk (fun a => by unfold stpF; rw [if_pos a])
  have HR2 : Hid ((pathF T path false).2 = 0 → stpF T path false = (⟨(pathF T path false).1, (at' T (pathF T path false).1).kind, (at' T (pathF T path false).1).mode, (at' T (pathF T path false).1).links, (statF T (pathF T path false).1).size⟩, 0)) := Hid.mk (fun a => by unfold stpF; rw [if_neg (by simpa using a)]; rfl)
  generalize stpF T path false = R at *
  obtain ⟨⟨n, er⟩, hp⟩ : ∃ p, p = pathF T path false := ⟨_, rfl⟩
  rw [← hp] at WC hn SC HR1 HR2
  simp only at WC hn SC HR1 HR2
  generalize (statF T n).size = sz at *
  generalize (at' T n).kind = kd at *
  generalize (at' T n).mode = md at *
  generalize (at' T n).links = lk at *
  clear hp h ok
  go_enter Try.func40, Try.ntmps40
  go_wp2_with fail
  refine WC.mono ?_
  rintro e w1 ⟨rfl, k1⟩
  have K1 := K0.trans k1
  have A1 := A0.keep k1
  by_cases her : er = 0
  · subst her
    have HV := Hid.mk (HR2.out rfl)
    replace c0 := HF.out _ K1
    clear HR1 HR2
    go_wp2_with fail
    refine (SC _ K1).mono ?_
    rintro e w2 ⟨rfl, k2⟩
    have A2 := A1.keep k2
    have K2 := K1.trans k2
    have a0 := A2.cell 0
    have a1 := A2.cell 1
    have a2 := A2.cell 2
    have a3 := A2.cell 3
    have a4 := A2.cell 4
    have f0 := A2.frozen 0
    have f1 := A2.frozen 1
    have f2 := A2.frozen 2
    have f3 := A2.frozen 3
    have f4 := A2.frozen 4
    simp only [List.getElem?_cons_zero, List.getElem?_cons_succ] at a0 a1 a2 a3 a4
    have A3 := ((((A2.set 0 (.int .i64 (n : Nat))).set 1 (.int .i64 (kd : Nat))).set 2 (.int .i64 md)).set 3 (.int .i64 (lk : Nat))).set 4 (.int .i64 (sz : Nat))
    have K3 := ((((K2.setCell (p := ⟨w.heap.size, 0, none⟩) (Nat.le_refl _) (.int .i64 (n : Nat))).setCell (p := ⟨w.heap.size, 1, none⟩) (Nat.le_refl _) (.int .i64 (kd : Nat))).setCell (p := ⟨w.heap.size, 2, none⟩) (Nat.le_refl _) (.int .i64 md)).setCell (p := ⟨w.heap.size, 3, none⟩) (Nat.le_refl _) (.int .i64 (lk : Nat))).setCell (p := ⟨w.heap.size, 4, none⟩) (Nat.le_refl _) (.int .i64 (sz : Nat))
    simp only [List.set_cons_zero, List.set_cons_succ] at A3
    have HA3 := Hid.mk A3
    have HK3 := Hid.mk K3
    clear A3 K3 A2 A1 A0
    go_wp2_with fail
    refine bodyPost_ret (v := .tuple #[.agg #[.int .i64 (n : Nat), .int .i64 (kd : Nat), .int .i64 md, .int .i64 (lk : Nat), .int .i64 (sz : Nat)], .int .i64 0]) (results_cell_row2 rfl _ _ w.heap.size 31 _ (0, 0) _ _ rfl rfl HA3.out Try.underlying31 rfl s31) rfl ⟨?_, HK3.out⟩
    rw [HV.out]; rfl
  · have HV := Hid.mk (HR1.out her)
    have q1 : (er != 0) = true := by simp [her]
    have a0 := A1.cell 0
    have a1 := A1.cell 1
    have a2 := A1.cell 2
    have a3 := A1.cell 3
    have a4 := A1.cell 4
    have f0 := A1.frozen 0
    have f1 := A1.frozen 1
    have f2 := A1.frozen 2
    have f3 := A1.frozen 3
    have f4 := A1.frozen 4
    simp only [List.getElem?_cons_zero, List.getElem?_cons_succ] at a0 a1 a2 a3 a4
    have A3 := ((((A1.set 0 (.int .i64 0)).set 1 (.int .i64 0)).set 2 (.int .i64 0)).set 3 (.int .i64 0)).set 4 (.int .i64 0)
    have K3 := ((((K1.setCell (p := ⟨w.heap.size, 0, none⟩) (Nat.le_refl _) (.int .i64 0)).setCell (p := ⟨w.heap.size, 1, none⟩) (Nat.le_refl _) (.int .i64 0)).setCell (p := ⟨w.heap.size, 2, none⟩) (Nat.le_refl _) (.int .i64 0)).setCell (p := ⟨w.heap.size, 3, none⟩) (Nat.le_refl _) (.int .i64 0)).setCell (p := ⟨w.heap.size, 4, none⟩) (Nat.le_refl _) (.int .i64 0)
    simp only [List.set_cons_zero, List.set_cons_succ] at A3
    have HA3 := Hid.mk A3
    have HK3 := Hid.mk K3
    clear A3 K3 A1 A0 HR1 HR2
    go_wp2_with fail
    refine bodyPost_ret (v := .tuple #[.agg #[.int .i64 0, .int .i64 0, .int .i64 0, .int .i64 0, .int .i64 0], .int .i64 er]) (results_cell_row2 rfl _ _ w.heap.size 31 _ (0, 0) _ _ rfl rfl HA3.out Try.underlying31 rfl s31) rfl ⟨?_, HK3.out⟩
    rw [HV.out]; rfl
end Go.Proofs.Qxb6500767a
