/- blast: clone. -/
import Derived.Test.Qxb6500772aDo
import Derived.Deep.RegionHeld3
namespace Go.Proofs.Qxb6500772a
open Go.RowKit Go.Qm
set_option linter.unusedVariables false
set_option linter.unusedSimpArgs false
attribute [local go_sem ↓] Go.wp_at_zero Go.wp_at_succ
theorem siz96 : (Try.prog.info? 96).map (·.size) = some 1 := by kernel_rfl
set_option maxRecDepth 4000 in
set_option maxHeartbeats 4000000 in
theorem clone_c {w : World} {gF oF gW ty : Nat} {cs : List Value} {N fb : Nat} {vs : List Value} (af : Arr w gF ty cs) (h0 : cs[oF]? = some (.slice (some ⟨gW, 0, none⟩) N N)) (h1 : cs[oF + 1]? = some (.int .i64 (fb : Nat))) (aw : Arr w gW 96 vs) (hl : vs.length = N) (hv : ∀ v ∈ vs, v.oneCell' = true) (hN : N ≤ 1000000) :
    Calls Try.prog 27 #[.pointer (some ⟨gF, oF, none⟩)] w fun e w' => ∃ gW2, e = .returned (.agg #[.slice (some ⟨gW2, 0, none⟩) N N, .int .i64 (fb : Nat)]) ∧ Keep w w' ∧ Arr w' gW2 96 vs ∧ w.heap.size ≤ gW2 := by
  have hmk := run_make1 (P := Try.prog) Try.underlying45 inf96 rfl (N : Int) (N : Int) (by omega) (by omega) (by omega) (by omega)
  simp only [Int.toNat_natCast] at hmk
  obtain ⟨W, hW⟩ : ∃ W, W = w.alloc (.cells #[.slice none 0 0, .int .i64 0] 48) := ⟨_, rfl⟩
  have kW : Keep w W := by rw [hW]; exact (Keep.refl w).alloc _
  have aR : Arr W w.heap.size 48 [.slice none 0 0, .int .i64 0] := by rw [hW]; exact Arr.new w 48 _
  have f0 : W.cell? ⟨gF, oF, none⟩ = some (.slice (some ⟨gW, 0, none⟩) N N) := ((af.keep kW).cell oF).trans h0
  have f1 : W.cell? ⟨gF, oF + 1, none⟩ = some (.int .i64 (fb : Nat)) := ((af.keep kW).cell (oF + 1)).trans h1
  have HKW := Hid.mk kW
  have HAR := Hid.mk aR
  have HAW := Hid.mk (aw.keep kW)
  have HAF := Hid.mk (af.keep kW)
  have g1 : gF ≠ W.heap.size := fun e => by have := (af.keep kW).lt; omega
  have i1 : (N : Int) ≤ 1000000 := by omega
  clear kW aR af aw
  go_enter Try.func27, Try.ntmps27
  go_upto_region 1 with fail
  rw [← hW]
  generalize hgR : w.heap.size = gR at *
  have HGR := Hid.mk hgR
  clear hgR
  clear hW
  have HFK : Hid (∀ Z, Keep W Z → Z.cell? ⟨gF, oF, none⟩ = some (.slice (some ⟨gW, 0, none⟩) N N) ∧ Z.cell? ⟨gF, oF + 1, none⟩ = some (.int .i64 (fb : Nat))) := Hid.mk (fun Z k => ⟨k.cell f0, k.cell f1⟩)
  go_region_held3 (fun w' => w'.cell? ⟨gF, oF, none⟩ = some (.slice (some ⟨gW, 0, none⟩) N N) ∧ w'.cell? ⟨gF, oF + 1, none⟩ = some (.int .i64 (fb : Nat)))
    (with_reducible first | exact HFK.out _ (Keep.refl W).drew | exact HFK.out _ ((Keep.refl W).alloc _).drew | exact HFK.out _ (((Keep.refl W).alloc _).alloc _).drew) (fail)
  · rename_i hHd
    clear hHd
    have aN0 : Arr ((W.alloc (.cells (rep N (.slice none 0 0)) 96)).alloc (.cells #[.slice (some ⟨W.heap.size, 0, none⟩) N N, .int .i64 (fb : Nat)] 48)) W.heap.size 96 (List.replicate N (.slice none 0 0)) := by
      rw [rep_eq]; exact (Arr.new W 96 _).keep ((Keep.refl _).alloc _)
    have aT0 : Arr ((W.alloc (.cells (rep N (.slice none 0 0)) 96)).alloc (.cells #[.slice (some ⟨W.heap.size, 0, none⟩) N N, .int .i64 (fb : Nat)] 48)) (W.heap.size + 1) 48 [.slice (some ⟨W.heap.size, 0, none⟩) N N, .int .i64 (fb : Nat)] := by
      have h9 := Arr.new (W.alloc (.cells (rep N (.slice none 0 0)) 96)) 48 [.slice (some ⟨W.heap.size, 0, none⟩) N N, .int .i64 (fb : Nat)]
      rw [show (W.alloc (.cells (rep N (.slice none 0 0)) 96)).heap.size = W.heap.size + 1 by simp] at h9
      exact h9
    obtain ⟨V, hV⟩ : ∃ V, V = ((W.alloc (.cells (rep N (.slice none 0 0)) 96)).alloc (.cells #[.slice (some ⟨W.heap.size, 0, none⟩) N N, .int .i64 (fb : Nat)] 48)).drew := ⟨_, rfl⟩
    have kV : Keep W V := by rw [hV]; exact (((Keep.refl W).alloc _).alloc _).drew
    have aN : Arr V (W.heap.size) 96 (List.replicate N (.slice none 0 0)) := by rw [hV]; exact aN0
    have aT : Arr V (W.heap.size + 1) 48 [.slice (some ⟨W.heap.size, 0, none⟩) N N, .int .i64 (fb : Nat)] := by rw [hV]; exact aT0
    rw [← hV]
    clear hV aN0 aT0
    have hszR : gR < W.heap.size := HAR.out.lt
    have hszW : gW < W.heap.size := HAW.out.lt
    have hszF : gF < W.heap.size := HAF.out.lt
    obtain ⟨gN, hgN⟩ : ∃ gN, gN = W.heap.size := ⟨_, rfl⟩
    obtain ⟨gT, hgT⟩ : ∃ gT, gT = W.heap.size + 1 := ⟨_, rfl⟩
    rw [← hgT] at aT ⊢
    rw [← hgN] at aN aT ⊢
    have n1 : gN ≠ gT := by omega
    have n2 : gN ≠ gF := by omega
    have n3 : gN ≠ gW := by omega
    have n4 : gN ≠ gR := by omega
    have n5 : gT ≠ gF := by omega
    have n6 : gT ≠ gR := by omega
    have n7 : W.heap.size ≤ gN := by omega
    have hcp := run_copy1 (P := Try.prog) (dT := 45) (sT := 45) (ty := 3) Try.underlying45 siz96 (dLen := N) (dCap := N) (o := 0) (w := V) (show V.heap[gN]? = some (.cells (List.replicate N (.slice none 0 0)).toArray 96 (0, 0)) from aN) rfl (v := .slice (some ⟨gW, 0, none⟩) N N) (xs := vs) ⟨some ⟨gW, 0, none⟩, N, by rw [hl], by omega, by simp only [maxLen]; omega, fun j u hu => ⟨gW, 0, rfl, by rw [Nat.zero_add, (HAW.out.keep kV).cell]; exact hu⟩⟩ hv (by simp [hl])
    rw [hl, Nat.min_self, List.take_zero, List.nil_append, List.take_of_length_le (by omega), Nat.zero_add, List.drop_of_length_le (by simp), List.append_nil] at hcp
    obtain ⟨Z, hZ⟩ : ∃ Z, Z = V.setRow gN vs.toArray := ⟨_, rfl⟩
    have kZ : Keep W Z := by rw [hZ]; exact kV.setRow n7 _
    have aZ : Arr Z gN 96 vs := by rw [hZ]; exact aN.row vs
    have aZT : Arr Z gT 48 [.slice (some ⟨gN, 0, none⟩) N N, .int .i64 (fb : Nat)] := by rw [hZ]; exact aT.kept (grown_setRow (grown_refl V (some gN)) vs.toArray) (Ne.symm n1)
    rw [← hZ] at hcp
    have hcpd : (Builtin.copy_ #[45, 45] 3 #[.slice (some ⟨gN, 0, none⟩) N N, .slice (some ⟨gW, 0, none⟩) N N]).run Try.prog V.drew = .ok (.int .i64 (N : Nat)) Z.drew := by
      rw [hZ]
      have h9 := run_copy1 (P := Try.prog) (dT := 45) (sT := 45) (ty := 3) Try.underlying45 siz96 (dLen := N) (dCap := N) (o := 0) (w := V.drew) (show V.drew.heap[gN]? = some (.cells (List.replicate N (.slice none 0 0)).toArray 96 (0, 0)) from aN) rfl (v := .slice (some ⟨gW, 0, none⟩) N N) (xs := vs) ⟨some ⟨gW, 0, none⟩, N, by rw [hl], by omega, by simp only [maxLen]; omega, fun j u hu => ⟨gW, 0, rfl, by rw [Nat.zero_add, (HAW.out.keep kV.drew).cell]; exact hu⟩⟩ hv (by simp [hl])
      rw [hl, Nat.min_self, List.take_zero, List.nil_append, List.take_of_length_le (by omega), Nat.zero_add, List.drop_of_length_le (by simp), List.append_nil] at h9
      exact h9
    have HKZ := Hid.mk kZ
    have HAZ := Hid.mk aZ
    have HAZT := Hid.mk aZT
    have sd : V.drew.cell? ⟨gT, 0, none⟩ = some (.slice (some ⟨gN, 0, none⟩) N N) ∧ V.drew.cell? ⟨gF, oF, none⟩ = some (.slice (some ⟨gW, 0, none⟩) N N) := ⟨aT.cell 0, (HFK.out _ kV).1⟩
    have sz : Z.drew.cell? ⟨gT, 0, none⟩ = some (.slice (some ⟨gN, 0, none⟩) N N) ∧ Z.drew.cell? ⟨gF, oF, none⟩ = some (.slice (some ⟨gW, 0, none⟩) N N) := ⟨aZT.cell 0, (HFK.out _ kZ).1⟩
    clear hmk hcp kV aN aT hZ kZ aZ aZT f0 f1 hszR hszW hszF hgN hgT
    go_wp2_with fail
    go_region_held3 (fun w' => w'.cell? ⟨gT, 0, none⟩ = some (.slice (some ⟨gN, 0, none⟩) N N) ∧ w'.cell? ⟨gF, oF, none⟩ = some (.slice (some ⟨gW, 0, none⟩) N N)) (with_reducible first | exact sd | exact sz) (fail)
    rename_i hHd
    clear hHd sd sz hcpd
    have z0 : Z.drew.cell? ⟨gT, 0, none⟩ = some (.slice (some ⟨gN, 0, none⟩) N N) := HAZT.out.cell 0
    have z1 : Z.drew.cell? ⟨gT, 1, none⟩ = some (.int .i64 (fb : Nat)) := HAZT.out.cell 1
    have aR2 : Arr Z.drew gR 48 [.slice none 0 0, .int .i64 0] := HAR.out.keep HKZ.out.drew
    have r0 := aR2.cell 0
    have r1 := aR2.cell 1
    have rf0 := aR2.frozen 0
    have rf1 := aR2.frozen 1
    simp only [List.getElem?_cons_zero, List.getElem?_cons_succ] at r0 r1
    have HAR2 := Hid.mk aR2
    have HKD : Hid (Keep W Z.drew) := Hid.mk HKZ.out.drew
    have HAD : Hid (Arr Z.drew gN 96 vs) := Hid.mk HAZ.out
    clear aR2
    generalize Z.drew = Y at *
    go_wp2_with fail
    have aF := (HAR2.out.set 0 (.slice (some ⟨gN, 0, none⟩) N N)).set 1 (.int .i64 (fb : Nat))
    have q0 := aF.cell 0
    have q1 := aF.cell 1
    simp only [List.set_cons_zero, List.set_cons_succ, List.getElem?_cons_zero, List.getElem?_cons_succ] at q0 q1
    refine bodyPost_ret (v := .agg #[.slice (some ⟨gN, 0, none⟩) N N, .int .i64 (fb : Nat)]) (by simp [results, Try.results27, go_sem, q0, q1]) rfl ?_
    refine ⟨gN, rfl, ((HKW.out.trans HKD.out).setCell (p := ⟨gR, 0, none⟩) (by rw [HGR.out]; exact Nat.le_refl _) _).setCell (p := ⟨gR, 1, none⟩) (by rw [HGR.out]; exact Nat.le_refl _) _, ?_, by have := HKW.out.size; omega⟩
    exact HAD.out.kept (grown_set (grown_set (grown_refl Y (some gR)) 0 _) 1 _) n4
  · rename_i hHd
    clear hHd
    have aN0 : Arr ((W.alloc (.cells #[.slice (some ⟨W.heap.size + 1, 0, none⟩) N N, .int .i64 (fb : Nat)] 48)).alloc (.cells (rep N (.slice none 0 0)) 96)) (W.heap.size + 1) 96 (List.replicate N (.slice none 0 0)) := by
      rw [rep_eq]
      have h9 := Arr.new (W.alloc (.cells #[.slice (some ⟨W.heap.size + 1, 0, none⟩) N N, .int .i64 (fb : Nat)] 48)) 96 (List.replicate N (.slice none 0 0))
      rw [show (W.alloc (.cells #[.slice (some ⟨W.heap.size + 1, 0, none⟩) N N, .int .i64 (fb : Nat)] 48)).heap.size = W.heap.size + 1 by simp] at h9
      exact h9
    have aT0 : Arr ((W.alloc (.cells #[.slice (some ⟨W.heap.size + 1, 0, none⟩) N N, .int .i64 (fb : Nat)] 48)).alloc (.cells (rep N (.slice none 0 0)) 96)) W.heap.size 48 [.slice (some ⟨W.heap.size + 1, 0, none⟩) N N, .int .i64 (fb : Nat)] := (Arr.new W 48 _).keep ((Keep.refl _).alloc _)
    obtain ⟨V, hV⟩ : ∃ V, V = ((W.alloc (.cells #[.slice (some ⟨W.heap.size + 1, 0, none⟩) N N, .int .i64 (fb : Nat)] 48)).alloc (.cells (rep N (.slice none 0 0)) 96)).drew := ⟨_, rfl⟩
    have kV : Keep W V := by rw [hV]; exact (((Keep.refl W).alloc _).alloc _).drew
    have aN : Arr V (W.heap.size + 1) 96 (List.replicate N (.slice none 0 0)) := by rw [hV]; exact aN0
    have aT : Arr V (W.heap.size) 48 [.slice (some ⟨W.heap.size + 1, 0, none⟩) N N, .int .i64 (fb : Nat)] := by rw [hV]; exact aT0
    rw [← hV]
    clear hV aN0 aT0
    have hszR : gR < W.heap.size := HAR.out.lt
    have hszW : gW < W.heap.size := HAW.out.lt
    have hszF : gF < W.heap.size := HAF.out.lt
    obtain ⟨gN, hgN⟩ : ∃ gN, gN = W.heap.size + 1 := ⟨_, rfl⟩
    obtain ⟨gT, hgT⟩ : ∃ gT, gT = W.heap.size := ⟨_, rfl⟩
    rw [← hgN] at aN aT ⊢
    rw [← hgT] at aT ⊢
    have n1 : gN ≠ gT := by omega
    have n2 : gN ≠ gF := by omega
    have n3 : gN ≠ gW := by omega
    have n4 : gN ≠ gR := by omega
    have n5 : gT ≠ gF := by omega
    have n6 : gT ≠ gR := by omega
    have n7 : W.heap.size ≤ gN := by omega
    have hcp := run_copy1 (P := Try.prog) (dT := 45) (sT := 45) (ty := 3) Try.underlying45 siz96 (dLen := N) (dCap := N) (o := 0) (w := V) (show V.heap[gN]? = some (.cells (List.replicate N (.slice none 0 0)).toArray 96 (0, 0)) from aN) rfl (v := .slice (some ⟨gW, 0, none⟩) N N) (xs := vs) ⟨some ⟨gW, 0, none⟩, N, by rw [hl], by omega, by simp only [maxLen]; omega, fun j u hu => ⟨gW, 0, rfl, by rw [Nat.zero_add, (HAW.out.keep kV).cell]; exact hu⟩⟩ hv (by simp [hl])
    rw [hl, Nat.min_self, List.take_zero, List.nil_append, List.take_of_length_le (by omega), Nat.zero_add, List.drop_of_length_le (by simp), List.append_nil] at hcp
    obtain ⟨Z, hZ⟩ : ∃ Z, Z = V.setRow gN vs.toArray := ⟨_, rfl⟩
    have kZ : Keep W Z := by rw [hZ]; exact kV.setRow n7 _
    have aZ : Arr Z gN 96 vs := by rw [hZ]; exact aN.row vs
    have aZT : Arr Z gT 48 [.slice (some ⟨gN, 0, none⟩) N N, .int .i64 (fb : Nat)] := by rw [hZ]; exact aT.kept (grown_setRow (grown_refl V (some gN)) vs.toArray) (Ne.symm n1)
    rw [← hZ] at hcp
    have hcpd : (Builtin.copy_ #[45, 45] 3 #[.slice (some ⟨gN, 0, none⟩) N N, .slice (some ⟨gW, 0, none⟩) N N]).run Try.prog V.drew = .ok (.int .i64 (N : Nat)) Z.drew := by
      rw [hZ]
      have h9 := run_copy1 (P := Try.prog) (dT := 45) (sT := 45) (ty := 3) Try.underlying45 siz96 (dLen := N) (dCap := N) (o := 0) (w := V.drew) (show V.drew.heap[gN]? = some (.cells (List.replicate N (.slice none 0 0)).toArray 96 (0, 0)) from aN) rfl (v := .slice (some ⟨gW, 0, none⟩) N N) (xs := vs) ⟨some ⟨gW, 0, none⟩, N, by rw [hl], by omega, by simp only [maxLen]; omega, fun j u hu => ⟨gW, 0, rfl, by rw [Nat.zero_add, (HAW.out.keep kV.drew).cell]; exact hu⟩⟩ hv (by simp [hl])
      rw [hl, Nat.min_self, List.take_zero, List.nil_append, List.take_of_length_le (by omega), Nat.zero_add, List.drop_of_length_le (by simp), List.append_nil] at h9
      exact h9
    have HKZ := Hid.mk kZ
    have HAZ := Hid.mk aZ
    have HAZT := Hid.mk aZT
    have sd : V.drew.cell? ⟨gT, 0, none⟩ = some (.slice (some ⟨gN, 0, none⟩) N N) ∧ V.drew.cell? ⟨gF, oF, none⟩ = some (.slice (some ⟨gW, 0, none⟩) N N) := ⟨aT.cell 0, (HFK.out _ kV).1⟩
    have sz : Z.drew.cell? ⟨gT, 0, none⟩ = some (.slice (some ⟨gN, 0, none⟩) N N) ∧ Z.drew.cell? ⟨gF, oF, none⟩ = some (.slice (some ⟨gW, 0, none⟩) N N) := ⟨aZT.cell 0, (HFK.out _ kZ).1⟩
    clear hmk hcp kV aN aT hZ kZ aZ aZT f0 f1 hszR hszW hszF hgN hgT
    go_wp2_with fail
    go_region_held3 (fun w' => w'.cell? ⟨gT, 0, none⟩ = some (.slice (some ⟨gN, 0, none⟩) N N) ∧ w'.cell? ⟨gF, oF, none⟩ = some (.slice (some ⟨gW, 0, none⟩) N N)) (with_reducible first | exact sd | exact sz) (fail)
    rename_i hHd
    clear hHd sd sz hcpd
    have z0 : Z.drew.cell? ⟨gT, 0, none⟩ = some (.slice (some ⟨gN, 0, none⟩) N N) := HAZT.out.cell 0
    have z1 : Z.drew.cell? ⟨gT, 1, none⟩ = some (.int .i64 (fb : Nat)) := HAZT.out.cell 1
    have aR2 : Arr Z.drew gR 48 [.slice none 0 0, .int .i64 0] := HAR.out.keep HKZ.out.drew
    have r0 := aR2.cell 0
    have r1 := aR2.cell 1
    have rf0 := aR2.frozen 0
    have rf1 := aR2.frozen 1
    simp only [List.getElem?_cons_zero, List.getElem?_cons_succ] at r0 r1
    have HAR2 := Hid.mk aR2
    have HKD : Hid (Keep W Z.drew) := Hid.mk HKZ.out.drew
    have HAD : Hid (Arr Z.drew gN 96 vs) := Hid.mk HAZ.out
    clear aR2
    generalize Z.drew = Y at *
    go_wp2_with fail
    have aF := (HAR2.out.set 0 (.slice (some ⟨gN, 0, none⟩) N N)).set 1 (.int .i64 (fb : Nat))
    have q0 := aF.cell 0
    have q1 := aF.cell 1
    simp only [List.set_cons_zero, List.set_cons_succ, List.getElem?_cons_zero, List.getElem?_cons_succ] at q0 q1
    refine bodyPost_ret (v := .agg #[.slice (some ⟨gN, 0, none⟩) N N, .int .i64 (fb : Nat)]) (by simp [results, Try.results27, go_sem, q0, q1]) rfl ?_
    refine ⟨gN, rfl, ((HKW.out.trans HKD.out).setCell (p := ⟨gR, 0, none⟩) (by rw [HGR.out]; exact Nat.le_refl _) _).setCell (p := ⟨gR, 1, none⟩) (by rw [HGR.out]; exact Nat.le_refl _) _, ?_, by have := HKW.out.size; omega⟩
    exact HAD.out.kept (grown_set (grown_set (grown_refl Y (some gR)) 0 _) 1 _) n4
end Go.Proofs.Qxb6500772a
