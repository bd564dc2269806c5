/- unionvfsm: open. -/
import Derived.Test.Qxb6500767aNn
namespace Go.Proofs.Qxb6500767a
open Go.RowKit Go.Qm
set_option linter.unusedVariables false
set_option linter.unusedSimpArgs false
attribute [local go_sem ↓] Go.wp_at_zero Go.wp_at_succ
/-- The answer of an open. -/
def opW (R : Nat × List Hd × List Nd × Int × Int) : AnsV := if R.2.2.2.2 = 0 then ⟨0, R.2.2.2.1, [], sta0, []⟩ else ⟨R.2.2.2.2, 0, [], sta0, []⟩
theorem opW_no {u : Nat} {hs : List Hd} {T : List Nd} {n er : Int} (h : er ≠ 0) : opW (u, hs, T, n, er) = ⟨er, 0, [], sta0, []⟩ := by unfold opW; rw [if_neg h]
theorem opW_ok {u : Nat} {hs : List Hd} {T : List Nd} {n : Int} : opW (u, hs, T, n, 0) = ⟨0, n, [], sta0, []⟩ := by unfold opW; rw [if_pos rfl]
theorem hasB_c {f : Int} (h0 : 0 ≤ f) (h1 : f ≤ 511) (b : Int) (hb : 0 < b) (e : hsB f b = bt f b) (w : World) : Calls Try.prog 88 #[.int .i64 f, .int .i64 b] w fun x w' => x = .returned (.bool (bt f b)) ∧ w' = w := by
  rw [← e]
  exact has_c f b hb (by omega) (by omega) w
set_option maxRecDepth 8000 in
set_option maxHeartbeats 16000000 in
theorem mOpenBad_c {B gm gt k : Nat} {fp : Nat → Prop} {w : World} {s : Stt} {O : List Nat} {ov : Value} (o : OpV) (h : MW B fp w gm gt s O ov) (si : SI k s.u s.hs s.T) (hk : k ≤ 70000) (hp : o.path.length ≤ 100000) (hp2 : o.path2.length ≤ 100000) (hdt : o.data.length ≤ 100000) (hfx : o.flags < 0 ∨ 127 < o.flags) :
    Calls Try.prog 50 #[.pointer (some ⟨gm, 0, none⟩), .agg (opC o).toArray] w fun e w' => MP B fp w gm gt ov ⟨2, 0, [], sta0, []⟩ s e w' := by
  have HH := Hid.mk h
  obtain ⟨ok, oh, ofl, omo, on, oo, owh, op, op2, od⟩ := o
  simp only at hp hp2 hdt hfx ⊢
  clear h si
  by_cases hf0 : ofl < 0
  · clear hfx
    go_enter Try.func50, Try.ntmps50
    go_upto_region 1 with fail
    obtain ⟨w1, hw1⟩ : ∃ w1, w1 = (w.alloc (.cells (opC ⟨ok, oh, ofl, omo, on, oo, owh, op, op2, od⟩).toArray 37)).alloc (.cells #[.int .i64 0, .int .i64 0, str [], .int .i64 0, .int .i64 0, .int .i64 0, .int .i64 0, .int .i64 0, .slice none 0 0] 34) := ⟨_, rfl⟩
    rw [← hw1]
    have TWO : Two w w1 ⟨ok, oh, ofl, omo, on, oo, owh, op, op2, od⟩ := by rw [hw1]; exact Two.mk' w _
    obtain ⟨gA, hgA⟩ : ∃ g, g = w.heap.size := ⟨_, rfl⟩
    obtain ⟨gB, hgB⟩ : ∃ g, g = w.heap.size + 1 := ⟨_, rfl⟩
    have HGB : Hid (w.heap.size ≤ gB ∧ gB < w1.heap.size) := Hid.mk ⟨by omega, by rw [TWO.sz]; omega⟩
    have HAB : Hid (Arr w1 gB 34 zeroC) := Hid.mk (by rw [hgB]; exact TWO.b)
    have HAA : Hid (Arr w1 gA 37 (opC ⟨ok, oh, ofl, omo, on, oo, owh, op, op2, od⟩)) := Hid.mk (by rw [hgA]; exact TWO.a)
    have K1 := TWO.k
    have HK1 := Hid.mk K1
    have HNF : Hid (¬ fpM fp gm ov gA ∧ ¬ fpM fp gm ov gB ∧ gA ≠ gB ∧ gm ≠ gB ∧ gm ≠ gA) := Hid.mk ⟨fun a => by have := HH.out.flt a; omega, fun a => by have := HH.out.flt a; omega, by omega, fun e => by have := HH.out.flt (Or.inr (Or.inl rfl) : fpM fp gm ov gm); omega, fun e => by have := HH.out.flt (Or.inr (Or.inl rfl) : fpM fp gm ov gm); omega⟩
    rw [← hgB, ← hgA]
    clear hw1 TWO hgA hgB
    have a0 := HAA.out.cell 0
    have a1 := HAA.out.cell 1
    have a2 := HAA.out.cell 2
    have a3 := HAA.out.cell 3
    have a4 := HAA.out.cell 4
    have a5 := HAA.out.cell 5
    have a6 := HAA.out.cell 6
    have a7 := HAA.out.cell 7
    have a8 := HAA.out.cell 8
    have a9 := HAA.out.cell 9
    simp only [opC, List.getElem?_cons_zero, List.getElem?_cons_succ] at a0 a1 a2 a3 a4 a5 a6 a7 a8 a9
    obtain ⟨x0, x1⟩ := (HH.out.keep K1).cells
    go_wp2_with fail
    refine (refuse_c 2 _).mono ?_
    rintro e y2 ⟨rfl, q2⟩
    obtain ⟨b0, b1, b2, b3, b4, b5, b6, b7, b8, z0, z1, z2, z3, z4, z5, z6, z7, z8⟩ := z9 (HAB.out.keep ((Keep.refl w1).trans q2))
    have HE := Hid.mk (MP.fin (a := ⟨2, 0, [], sta0, []⟩) (v := (.slice none 0 0)) HH.out HK1.out (HH.out.keep (HK1.out.trans ((Keep.refl w1).trans q2))) (Stp.keep ((Keep.refl w1).trans q2)) HGB.out (OwnS.nil _ _ _ _ _) (fr9 (.int .i64 2) (.int .i64 0) (str []) (.int .i64 0) (.int .i64 0) (.int .i64 0) (.int .i64 0) (.int .i64 0) (.slice none 0 0)))
    have HAZ := Hid.mk (arr9 (HAB.out.keep ((Keep.refl w1).trans q2)) (.int .i64 2) (.int .i64 0) (str []) (.int .i64 0) (.int .i64 0) (.int .i64 0) (.int .i64 0) (.int .i64 0) (.slice none 0 0))
    clear q2
    go_wp2_with fail
    refine bodyPost_ret (v := .agg (ansC ⟨2, 0, [], sta0, []⟩ (.slice none 0 0)).toArray) (results_cell_row1 rfl _ _ gB 34 _ (0, 0) _ rfl HAZ.out Try.underlying34 rfl s34) rfl ?_
    exact HE.out
  · have hf1 : 127 < ofl := by omega
    clear hfx
    go_enter Try.func50, Try.ntmps50
    go_upto_region 1 with fail
    obtain ⟨w1, hw1⟩ : ∃ w1, w1 = (w.alloc (.cells (opC ⟨ok, oh, ofl, omo, on, oo, owh, op, op2, od⟩).toArray 37)).alloc (.cells #[.int .i64 0, .int .i64 0, str [], .int .i64 0, .int .i64 0, .int .i64 0, .int .i64 0, .int .i64 0, .slice none 0 0] 34) := ⟨_, rfl⟩
    rw [← hw1]
    have TWO : Two w w1 ⟨ok, oh, ofl, omo, on, oo, owh, op, op2, od⟩ := by rw [hw1]; exact Two.mk' w _
    obtain ⟨gA, hgA⟩ : ∃ g, g = w.heap.size := ⟨_, rfl⟩
    obtain ⟨gB, hgB⟩ : ∃ g, g = w.heap.size + 1 := ⟨_, rfl⟩
    have HGB : Hid (w.heap.size ≤ gB ∧ gB < w1.heap.size) := Hid.mk ⟨by omega, by rw [TWO.sz]; omega⟩
    have HAB : Hid (Arr w1 gB 34 zeroC) := Hid.mk (by rw [hgB]; exact TWO.b)
    have HAA : Hid (Arr w1 gA 37 (opC ⟨ok, oh, ofl, omo, on, oo, owh, op, op2, od⟩)) := Hid.mk (by rw [hgA]; exact TWO.a)
    have K1 := TWO.k
    have HK1 := Hid.mk K1
    have HNF : Hid (¬ fpM fp gm ov gA ∧ ¬ fpM fp gm ov gB ∧ gA ≠ gB ∧ gm ≠ gB ∧ gm ≠ gA) := Hid.mk ⟨fun a => by have := HH.out.flt a; omega, fun a => by have := HH.out.flt a; omega, by omega, fun e => by have := HH.out.flt (Or.inr (Or.inl rfl) : fpM fp gm ov gm); omega, fun e => by have := HH.out.flt (Or.inr (Or.inl rfl) : fpM fp gm ov gm); omega⟩
    rw [← hgB, ← hgA]
    clear hw1 TWO hgA hgB
    have a0 := HAA.out.cell 0
    have a1 := HAA.out.cell 1
    have a2 := HAA.out.cell 2
    have a3 := HAA.out.cell 3
    have a4 := HAA.out.cell 4
    have a5 := HAA.out.cell 5
    have a6 := HAA.out.cell 6
    have a7 := HAA.out.cell 7
    have a8 := HAA.out.cell 8
    have a9 := HAA.out.cell 9
    simp only [opC, List.getElem?_cons_zero, List.getElem?_cons_succ] at a0 a1 a2 a3 a4 a5 a6 a7 a8 a9
    obtain ⟨x0, x1⟩ := (HH.out.keep K1).cells
    go_wp2_with fail
    refine (refuse_c 2 _).mono ?_
    rintro e y2 ⟨rfl, q2⟩
    obtain ⟨b0, b1, b2, b3, b4, b5, b6, b7, b8, z0, z1, z2, z3, z4, z5, z6, z7, z8⟩ := z9 (HAB.out.keep ((Keep.refl w1).trans q2))
    have HE := Hid.mk (MP.fin (a := ⟨2, 0, [], sta0, []⟩) (v := (.slice none 0 0)) HH.out HK1.out (HH.out.keep (HK1.out.trans ((Keep.refl w1).trans q2))) (Stp.keep ((Keep.refl w1).trans q2)) HGB.out (OwnS.nil _ _ _ _ _) (fr9 (.int .i64 2) (.int .i64 0) (str []) (.int .i64 0) (.int .i64 0) (.int .i64 0) (.int .i64 0) (.int .i64 0) (.slice none 0 0)))
    have HAZ := Hid.mk (arr9 (HAB.out.keep ((Keep.refl w1).trans q2)) (.int .i64 2) (.int .i64 0) (str []) (.int .i64 0) (.int .i64 0) (.int .i64 0) (.int .i64 0) (.int .i64 0) (.slice none 0 0))
    clear q2
    go_wp2_with fail
    refine bodyPost_ret (v := .agg (ansC ⟨2, 0, [], sta0, []⟩ (.slice none 0 0)).toArray) (results_cell_row1 rfl _ _ gB 34 _ (0, 0) _ rfl HAZ.out Try.underlying34 rfl s34) rfl ?_
    exact HE.out
set_option maxRecDepth 8000 in
set_option maxHeartbeats 32000000 in
theorem mOpen_c {B gm gt k : Nat} {fp : Nat → Prop} {w : World} {s : Stt} {O : List Nat} {ov : Value} (o : OpV) (h : MW B fp w gm gt s O ov) (si : SI k s.u s.hs s.T) (hk : k ≤ 70000) (hp : o.path.length ≤ 100000) (hp2 : o.path2.length ≤ 100000) (hdt : o.data.length ≤ 100000) (md : Md.SPM s.T) (f0 : 0 ≤ o.flags) (f1 : o.flags ≤ 127) (hmr : -9223372036854775808 ≤ o.mode ∧ o.mode ≤ 9223372036854775807) :
    Calls Try.prog 50 #[.pointer (some ⟨gm, 0, none⟩), .agg (opC o).toArray] w fun e w' => MP B fp w gm gt ov (opW (opF s.u s.hs s.T o.path o.flags o.mode)) ⟨(opF s.u s.hs s.T o.path o.flags o.mode).1, (opF s.u s.hs s.T o.path o.flags o.mode).2.1, (opF s.u s.hs s.T o.path o.flags o.mode).2.2.1⟩ e w' := by
  have HH := Hid.mk h
  obtain ⟨ok, oh, ofl, omo, on, oo, owh, op, op2, od⟩ := o
  simp only at hp hp2 hdt f0 f1 hmr ⊢
  have HTP := Hid.mk (fun (hc : chkF ofl omo = 0) hN (hl : lowN s.u = some hN) (h0 : (pathF s.T op true).2 = 0) ha => tail_path si (path := op) hc hl h0 ha)
  have HTM := Hid.mk (fun (hc : chkF ofl omo = 0) hN (hl : lowN s.u = some hN) (h0 : (pathF s.T op true).2 = 6) ha => tail_make si (path := op) hc hl h0 ha)
  have HOP := Hid.mk (fun (hc : chkF ofl omo = 0) hN (hl : lowN s.u = some hN) h0 h6 => op_path (u := s.u) (hs := s.hs) (T := s.T) (path := op) hc hl h0 h6)
  have HOA := Hid.mk (fun (hc : chkF ofl omo = 0) hN (hl : lowN s.u = some hN) h0 ha => op_adm (u := s.u) (hs := s.hs) (T := s.T) (path := op) hc hl h0 ha)
  have HOC := Hid.mk (fun (hc : chkB ofl omo = true) => op_chk (u := s.u) (hs := s.hs) (T := s.T) (path := op) hc)
  have HOF := Hid.mk (fun (hc : chkF ofl omo = 0) (hl : lowN s.u = none) => op_full (hs := s.hs) (T := s.T) (path := op) hc hl)
  have FR := flR f0 f1
  have HCB := Hid.mk (chk_bt f0 f1 hmr.1 hmr.2)
  have G1 := Hid.mk (fun W => hasB_c f0 (by omega) 1 (by omega) FR.h1 W)
  have G2 := Hid.mk (fun W => hasB_c f0 (by omega) 2 (by omega) FR.h2 W)
  have G4 := Hid.mk (fun W => hasB_c f0 (by omega) 4 (by omega) FR.h4 W)
  have G8 := Hid.mk (fun W => hasB_c f0 (by omega) 8 (by omega) FR.h8 W)
  have G16 := Hid.mk (fun W => hasB_c f0 (by omega) 16 (by omega) FR.h16 W)
  have G32 := Hid.mk (fun W => hasB_c f0 (by omega) 32 (by omega) FR.h32 W)
  have G64 := Hid.mk (fun W => hasB_c f0 (by omega) 64 (by omega) FR.h64 W)
  have HMO := Hid.mk (fun n nd d => mop_open f0 f1 n nd d)
  have HREL := Hid.mk h.rel
  have lim := si.lim (by omega)
  have HWC := Hid.mk (fun W (kk : Keep w W) => walk_c gt s.T true op W (h.keep kk).tree.tr lim.ok hp)
  have HCC := Hid.mk (fun W (kk : Keep w W) => create_c B gt omo op fp s.T W (h.keep kk).tree lim (by have := si.t.ub; omega) hp)
  have hi := si.t.lt (path_live si.t op true).1
  have HKC := Hid.mk (fun W (kk : Keep w W) => kindOf_c (h.keep kk) hi)
  have HTR := Hid.mk (fun W (kk : Keep w W) => (h.keep kk).tree.tr)
  have hm := (md (pathF s.T op true).1).mode
  have hmR := mdR hm.1 hm.2
  have HM256 := Hid.mk (fun W => hasB_c hm.1 hm.2 256 (by omega) hmR.1 W)
  have HM128 := Hid.mk (fun W => hasB_c hm.1 hm.2 128 (by omega) hmR.2 W)
  have HMD := Hid.mk (fun W => modeOK_c omo W)
  obtain ⟨oa, oc, hov, o1, o2⟩ := h.form
  have HO32 : Hid (O.length ≤ 32) := Hid.mk (by
    have h1 := List.Nodup.length_le_of_subset (l₂ := List.range 32) h.rel.nd (fun n hn => List.mem_range.2 ((h.rel.mem n).1 hn).1)
    rwa [List.length_range] at h1)
  obtain ⟨br, hbr⟩ : ∃ b, b = bt ofl 1 := ⟨_, rfl⟩
  obtain ⟨bw, hbw⟩ : ∃ b, b = bt ofl 2 := ⟨_, rfl⟩
  obtain ⟨bc, hbc⟩ : ∃ b, b = bt ofl 4 := ⟨_, rfl⟩
  obtain ⟨be, hbe⟩ : ∃ b, b = bt ofl 8 := ⟨_, rfl⟩
  obtain ⟨bq, hbq⟩ : ∃ b, b = bt ofl 16 := ⟨_, rfl⟩
  obtain ⟨ba, hba⟩ : ∃ b, b = bt ofl 32 := ⟨_, rfl⟩
  obtain ⟨bd, hbd⟩ : ∃ b, b = bt ofl 64 := ⟨_, rfl⟩
  obtain ⟨bm, hbm⟩ : ∃ b, b = mdB omo := ⟨_, rfl⟩
  obtain ⟨R, hR⟩ : ∃ R, R = opF s.u s.hs s.T op ofl omo := ⟨_, rfl⟩
  obtain ⟨PF, hPF⟩ : ∃ PF, PF = pathF s.T op true := ⟨_, rfl⟩
  obtain ⟨MK, hMK⟩ : ∃ MK, MK = makeT s.T op 1 omo [] := ⟨_, rfl⟩
  have HAD := Hid.mk (adm_bt (at' s.T (pathF s.T op true).1) ofl)
  unfold admB at HAD
  rw [← hbr, ← hbw, ← hbc, ← hbe, ← hbq, ← hba, ← hbd, ← hbm] at HCB
  rw [← hbr] at G1 HAD
  rw [← hbw] at G2 HAD
  rw [← hbc] at G4 HOP HTM
  rw [← hbe] at G8 HAD
  rw [← hbq] at G16 HTP
  rw [← hba] at G32
  rw [← hbd] at G64 HAD
  rw [← hbr, ← hbw, ← hba] at HMO
  rw [← hbm] at HMD
  rw [← hR] at HOC HOF HOA HOP ⊢
  unfold Tail at HTP HTM
  rw [← hR] at HTP HTM
  rw [← hPF] at HTP HTM HOP HOA HWC HKC HAD HM256 HM128 hi
  rw [← hMK] at HTM HCC
  obtain ⟨nd, er⟩ := PF
  obtain ⟨mT, mn, me⟩ := MK
  simp only at HTP HTM HOP HOA HWC HKC HAD HM256 HM128 hi HCC
  have HFL : Hid (FlR ofl) := Hid.mk FR
  clear FR hbr hbw hbc hbe hbq hba hbd hbm hR hPF hMK lim si md hm hmR h
  subst hov
  unfold maxLen at o2
  go_enter Try.func50, Try.ntmps50
  go_upto_region 1 with fail
  obtain ⟨w1, hw1⟩ : ∃ w1, w1 = (w.alloc (.cells (opC ⟨ok, oh, ofl, omo, on, oo, owh, op, op2, od⟩).toArray 37)).alloc (.cells #[.int .i64 0, .int .i64 0, str [], .int .i64 0, .int .i64 0, .int .i64 0, .int .i64 0, .int .i64 0, .slice none 0 0] 34) := ⟨_, rfl⟩
  rw [← hw1]
  have TWO : Two w w1 ⟨ok, oh, ofl, omo, on, oo, owh, op, op2, od⟩ := by rw [hw1]; exact Two.mk' w _
  obtain ⟨gA, hgA⟩ : ∃ g, g = w.heap.size := ⟨_, rfl⟩
  obtain ⟨gB, hgB⟩ : ∃ g, g = w.heap.size + 1 := ⟨_, rfl⟩
  have HGB : Hid (w.heap.size ≤ gB ∧ gB < w1.heap.size) := Hid.mk ⟨by omega, by rw [TWO.sz]; omega⟩
  have HAB : Hid (Arr w1 gB 34 zeroC) := Hid.mk (by rw [hgB]; exact TWO.b)
  have HAA : Hid (Arr w1 gA 37 (opC ⟨ok, oh, ofl, omo, on, oo, owh, op, op2, od⟩)) := Hid.mk (by rw [hgA]; exact TWO.a)
  have K1 := TWO.k
  have HK1 := Hid.mk K1
  have HNF : Hid (¬ fpM fp gm (.slice oa O.length oc) gA ∧ ¬ fpM fp gm (.slice oa O.length oc) gB ∧ gA ≠ gB ∧ gm ≠ gB ∧ gm ≠ gA) := Hid.mk ⟨fun a => by have := HH.out.flt a; omega, fun a => by have := HH.out.flt a; omega, by omega, fun e => by have := HH.out.flt (Or.inr (Or.inl rfl) : fpM fp gm (.slice oa O.length oc) gm); omega, fun e => by have := HH.out.flt (Or.inr (Or.inl rfl) : fpM fp gm (.slice oa O.length oc) gm); omega⟩
  rw [← hgB, ← hgA]
  clear hw1 TWO hgA hgB
  have a0 := HAA.out.cell 0
  have a1 := HAA.out.cell 1
  have a2 := HAA.out.cell 2
  have a3 := HAA.out.cell 3
  have a4 := HAA.out.cell 4
  have a5 := HAA.out.cell 5
  have a6 := HAA.out.cell 6
  have a7 := HAA.out.cell 7
  have a8 := HAA.out.cell 8
  have a9 := HAA.out.cell 9
  simp only [opC, List.getElem?_cons_zero, List.getElem?_cons_succ] at a0 a1 a2 a3 a4 a5 a6 a7 a8 a9
  obtain ⟨x0, x1⟩ := (HH.out.keep K1).cells
  go_upto_region 3 with fail
  go_cut [5, 6] from 26 to 31 (fun v5 v6 wx => v5 = .bool br ∧ v6 = .bool bw ∧ Keep w1 wx)
  case first =>
    go_quiet (first | (go_at_call 88; with_reducible refine Calls.quiet_of_same (G1.out _)) | (go_at_call 88; with_reducible refine Calls.quiet_of_same (G2.out _)))
    go_wp2_with fail
    go_meet
    case rel => exact ⟨rfl, rfl, (Keep.refl _).drewN _⟩
  case rest =>
    obtain ⟨rfl, rfl, q3⟩ := hcut
    obtain ⟨y3, hy3⟩ : ∃ y3, y3 = wc := ⟨_, rfl⟩
    subst hy3
    replace x0 := q3.cell x0
    replace x1 := q3.cell x1
    replace a2 := q3.cell a2
    replace a3 := q3.cell a3
    replace a7 := q3.cell a7
    have HQ3 := Hid.mk q3
    clear q3 a0 a1 a4 a5 a6 a8 a9
    go_upto_region 4 with fail
    go_cut [7, 8] from 32 to 37 (fun v7 v8 wx => v7 = .bool bc ∧ v8 = .bool be ∧ Keep y3 wx)
    case first =>
      go_quiet (first | (go_at_call 88; with_reducible refine Calls.quiet_of_same (G4.out _)) | (go_at_call 88; with_reducible refine Calls.quiet_of_same (G8.out _)))
      go_wp2_with fail
      go_meet
      case rel => exact ⟨rfl, rfl, (Keep.refl _).drewN _⟩
    case rest =>
      obtain ⟨rfl, rfl, q4⟩ := hcut
      obtain ⟨y4, hy4⟩ : ∃ y4, y4 = wc := ⟨_, rfl⟩
      subst hy4
      replace x0 := q4.cell x0
      replace x1 := q4.cell x1
      replace a2 := q4.cell a2
      replace a3 := q4.cell a3
      replace a7 := q4.cell a7
      have HQ4 := Hid.mk (HQ3.out.trans q4)
      clear q4
      go_upto_region 5 with fail
      go_cut [9, 10, 11] from 38 to 46 (fun v9 v10 v11 wx => v9 = .bool bq ∧ v10 = .bool ba ∧ v11 = .bool bd ∧ Keep y4 wx)
      case first =>
        go_quiet (first | (go_at_call 88; with_reducible refine Calls.quiet_of_same (G16.out _)) | (go_at_call 88; with_reducible refine Calls.quiet_of_same (G32.out _)) | (go_at_call 88; with_reducible refine Calls.quiet_of_same (G64.out _)))
        go_wp2_with fail
        go_meet
        case rel => exact ⟨rfl, rfl, rfl, (Keep.refl _).drewN _⟩
      case rest =>
        obtain ⟨rfl, rfl, rfl, q5⟩ := hcut
        obtain ⟨y5, hy5⟩ : ∃ y5, y5 = wc := ⟨_, rfl⟩
        subst hy5
        replace x0 := q5.cell x0
        replace x1 := q5.cell x1
        replace a3 := q5.cell a3
        replace a7 := q5.cell a7
        have HQ5 := Hid.mk (HQ4.out.trans q5)
        clear q5 a2
        obtain ⟨b52, hb52⟩ : ∃ b, b = (!br && !bw) := ⟨_, rfl⟩
        have HC52 := Hid.mk hb52
        clear hb52
        go_upto_region 6 with fail
        go_cut [52] from 47 to 51 (fun v wx => v = .bool b52 ∧ wx = y5)
        case first =>
          cases br <;> cases bw <;> (go_wp2_with fail; go_meet; (case rel => exact ⟨by rw [HC52.out]; rfl, rfl⟩))
        case rest =>
          obtain ⟨rfl, hwc⟩ := hcut
          subst hwc
          cases b52 with
          | true =>
            go_wp2_with fail
            have HV := Hid.mk (HOC.out (by rw [HCB.out, ← HC52.out]; simp))
            refine (refuse_c 2 _).mono ?_
            rintro e y2 ⟨rfl, q2⟩
            obtain ⟨b0, b1, b2, b3, b4, b5, b6, b7, b8, z0, z1, z2, z3, z4, z5, z6, z7, z8⟩ := z9 (HAB.out.keep (HQ5.out.trans q2))
            have HE := Hid.mk (MP.fin (a := ⟨2, 0, [], sta0, []⟩) (v := (.slice none 0 0)) HH.out HK1.out (HH.out.keep (HK1.out.trans (HQ5.out.trans q2))) (Stp.keep (HQ5.out.trans q2)) HGB.out (OwnS.nil _ _ _ _ _) (fr9 (.int .i64 2) (.int .i64 0) (str []) (.int .i64 0) (.int .i64 0) (.int .i64 0) (.int .i64 0) (.int .i64 0) (.slice none 0 0)))
            have HAZ := Hid.mk (arr9 (HAB.out.keep (HQ5.out.trans q2)) (.int .i64 2) (.int .i64 0) (str []) (.int .i64 0) (.int .i64 0) (.int .i64 0) (.int .i64 0) (.int .i64 0) (.slice none 0 0))
            clear q2
            go_wp2_with fail
            refine bodyPost_ret (v := .agg (ansC ⟨2, 0, [], sta0, []⟩ (.slice none 0 0)).toArray) (results_cell_row1 rfl _ _ gB 34 _ (0, 0) _ rfl HAZ.out Try.underlying34 rfl s34) rfl ?_
            rw [HV.out, opW_no (by decide)]
            exact HE.out
          | false =>
            obtain ⟨b58, hb58⟩ : ∃ b, b = (be && !bc) := ⟨_, rfl⟩
            have HC58 := Hid.mk hb58
            clear hb58
            go_upto_region 8 with fail
            go_cut [58] from 54 to 57 (fun v wx => v = .bool b58 ∧ wx = wc)
            case first =>
              cases be <;> cases bc <;> (go_wp2_with fail; go_meet; (case rel => exact ⟨by rw [HC58.out]; rfl, rfl⟩))
            case rest =>
              obtain ⟨rfl, hwc⟩ := hcut
              subst hwc
              cases b58 with
              | true =>
                go_wp2_with fail
                have HV := Hid.mk (HOC.out (by rw [HCB.out, ← HC52.out, ← HC58.out]; simp))
                refine (refuse_c 2 _).mono ?_
                rintro e y2 ⟨rfl, q2⟩
                obtain ⟨b0, b1, b2, b3, b4, b5, b6, b7, b8, z0, z1, z2, z3, z4, z5, z6, z7, z8⟩ := z9 (HAB.out.keep (HQ5.out.trans q2))
                have HE := Hid.mk (MP.fin (a := ⟨2, 0, [], sta0, []⟩) (v := (.slice none 0 0)) HH.out HK1.out (HH.out.keep (HK1.out.trans (HQ5.out.trans q2))) (Stp.keep (HQ5.out.trans q2)) HGB.out (OwnS.nil _ _ _ _ _) (fr9 (.int .i64 2) (.int .i64 0) (str []) (.int .i64 0) (.int .i64 0) (.int .i64 0) (.int .i64 0) (.int .i64 0) (.slice none 0 0)))
                have HAZ := Hid.mk (arr9 (HAB.out.keep (HQ5.out.trans q2)) (.int .i64 2) (.int .i64 0) (str []) (.int .i64 0) (.int .i64 0) (.int .i64 0) (.int .i64 0) (.int .i64 0) (.slice none 0 0))
                clear q2
                go_wp2_with fail
                refine bodyPost_ret (v := .agg (ansC ⟨2, 0, [], sta0, []⟩ (.slice none 0 0)).toArray) (results_cell_row1 rfl _ _ gB 34 _ (0, 0) _ rfl HAZ.out Try.underlying34 rfl s34) rfl ?_
                rw [HV.out, opW_no (by decide)]
                exact HE.out
              | false =>
                obtain ⟨b67, hb67⟩ : ∃ b, b = ((bq || ba) && !bw) := ⟨_, rfl⟩
                have HC67 := Hid.mk hb67
                clear hb67
                go_upto_region 10 with fail
                go_cut [67] from 60 to 66 (fun v wx => v = .bool b67 ∧ wx = wc)
                case first =>
                  cases bq <;> cases ba <;> cases bw <;> (go_wp2_with fail; go_meet; (case rel => exact ⟨by rw [HC67.out]; rfl, rfl⟩))
                case rest =>
                  obtain ⟨rfl, hwc⟩ := hcut
                  subst hwc
                  cases b67 with
                  | true =>
                    go_wp2_with fail
                    have HV := Hid.mk (HOC.out (by rw [HCB.out, ← HC52.out, ← HC58.out, ← HC67.out]; simp))
                    refine (refuse_c 2 _).mono ?_
                    rintro e y2 ⟨rfl, q2⟩
                    obtain ⟨b0, b1, b2, b3, b4, b5, b6, b7, b8, z0, z1, z2, z3, z4, z5, z6, z7, z8⟩ := z9 (HAB.out.keep (HQ5.out.trans q2))
                    have HE := Hid.mk (MP.fin (a := ⟨2, 0, [], sta0, []⟩) (v := (.slice none 0 0)) HH.out HK1.out (HH.out.keep (HK1.out.trans (HQ5.out.trans q2))) (Stp.keep (HQ5.out.trans q2)) HGB.out (OwnS.nil _ _ _ _ _) (fr9 (.int .i64 2) (.int .i64 0) (str []) (.int .i64 0) (.int .i64 0) (.int .i64 0) (.int .i64 0) (.int .i64 0) (.slice none 0 0)))
                    have HAZ := Hid.mk (arr9 (HAB.out.keep (HQ5.out.trans q2)) (.int .i64 2) (.int .i64 0) (str []) (.int .i64 0) (.int .i64 0) (.int .i64 0) (.int .i64 0) (.int .i64 0) (.slice none 0 0))
                    clear q2
                    go_wp2_with fail
                    refine bodyPost_ret (v := .agg (ansC ⟨2, 0, [], sta0, []⟩ (.slice none 0 0)).toArray) (results_cell_row1 rfl _ _ gB 34 _ (0, 0) _ rfl HAZ.out Try.underlying34 rfl s34) rfl ?_
                    rw [HV.out, opW_no (by decide)]
                    exact HE.out
                  | false =>
                    obtain ⟨b75, hb75⟩ : ∃ b, b = (bd && (bw || bc)) := ⟨_, rfl⟩
                    have HC75 := Hid.mk hb75
                    clear hb75
                    go_upto_region 12 with fail
                    go_cut [75] from 69 to 74 (fun v wx => v = .bool b75 ∧ wx = wc)
                    case first =>
                      cases bd <;> cases bw <;> cases bc <;> (go_wp2_with fail; go_meet; (case rel => exact ⟨by rw [HC75.out]; rfl, rfl⟩))
                    case rest =>
                      obtain ⟨rfl, hwc⟩ := hcut
                      subst hwc
                      cases b75 with
                      | true =>
                        go_wp2_with fail
                        have HV := Hid.mk (HOC.out (by rw [HCB.out, ← HC52.out, ← HC58.out, ← HC67.out, ← HC75.out]; simp))
                        refine (refuse_c 2 _).mono ?_
                        rintro e y2 ⟨rfl, q2⟩
                        obtain ⟨b0, b1, b2, b3, b4, b5, b6, b7, b8, z0, z1, z2, z3, z4, z5, z6, z7, z8⟩ := z9 (HAB.out.keep (HQ5.out.trans q2))
                        have HE := Hid.mk (MP.fin (a := ⟨2, 0, [], sta0, []⟩) (v := (.slice none 0 0)) HH.out HK1.out (HH.out.keep (HK1.out.trans (HQ5.out.trans q2))) (Stp.keep (HQ5.out.trans q2)) HGB.out (OwnS.nil _ _ _ _ _) (fr9 (.int .i64 2) (.int .i64 0) (str []) (.int .i64 0) (.int .i64 0) (.int .i64 0) (.int .i64 0) (.int .i64 0) (.slice none 0 0)))
                        have HAZ := Hid.mk (arr9 (HAB.out.keep (HQ5.out.trans q2)) (.int .i64 2) (.int .i64 0) (str []) (.int .i64 0) (.int .i64 0) (.int .i64 0) (.int .i64 0) (.int .i64 0) (.slice none 0 0))
                        clear q2
                        go_wp2_with fail
                        refine bodyPost_ret (v := .agg (ansC ⟨2, 0, [], sta0, []⟩ (.slice none 0 0)).toArray) (results_cell_row1 rfl _ _ gB 34 _ (0, 0) _ rfl HAZ.out Try.underlying34 rfl s34) rfl ?_
                        rw [HV.out, opW_no (by decide)]
                        exact HE.out
                      | false =>
                        obtain ⟨b83, hb83⟩ : ∃ b, b = (bc && !bm) := ⟨_, rfl⟩
                        have HC83 := Hid.mk hb83
                        clear hb83
                        go_upto_region 14 with fail
                        go_cut [83] from 77 to 82 (fun v wx => v = .bool b83 ∧ wx = wc)
                        case first =>
                          cases bc with
                          | false => go_wp2_with fail; go_meet; (case rel => exact ⟨by rw [HC83.out]; rfl, rfl⟩)
                          | true =>
                            go_wp2_with fail
                            refine (HMD.out _).mono ?_
                            rintro e y ⟨rfl, hy⟩
                            subst hy
                            go_wp2_with fail
                            go_meet
                            case rel => exact ⟨by rw [HC83.out]; rfl, rfl⟩
                        case rest =>
                          obtain ⟨rfl, hwc⟩ := hcut
                          subst hwc
                          cases b83 with
                          | true =>
                            go_wp2_with fail
                            have HV := Hid.mk (HOC.out (by rw [HCB.out, ← HC52.out, ← HC58.out, ← HC67.out, ← HC75.out, ← HC83.out]; simp))
                            refine (refuse_c 2 _).mono ?_
                            rintro e y2 ⟨rfl, q2⟩
                            obtain ⟨b0, b1, b2, b3, b4, b5, b6, b7, b8, z0, z1, z2, z3, z4, z5, z6, z7, z8⟩ := z9 (HAB.out.keep (HQ5.out.trans q2))
                            have HE := Hid.mk (MP.fin (a := ⟨2, 0, [], sta0, []⟩) (v := (.slice none 0 0)) HH.out HK1.out (HH.out.keep (HK1.out.trans (HQ5.out.trans q2))) (Stp.keep (HQ5.out.trans q2)) HGB.out (OwnS.nil _ _ _ _ _) (fr9 (.int .i64 2) (.int .i64 0) (str []) (.int .i64 0) (.int .i64 0) (.int .i64 0) (.int .i64 0) (.int .i64 0) (.slice none 0 0)))
                            have HAZ := Hid.mk (arr9 (HAB.out.keep (HQ5.out.trans q2)) (.int .i64 2) (.int .i64 0) (str []) (.int .i64 0) (.int .i64 0) (.int .i64 0) (.int .i64 0) (.int .i64 0) (.slice none 0 0))
                            clear q2
                            go_wp2_with fail
                            refine bodyPost_ret (v := .agg (ansC ⟨2, 0, [], sta0, []⟩ (.slice none 0 0)).toArray) (results_cell_row1 rfl _ _ gB 34 _ (0, 0) _ rfl HAZ.out Try.underlying34 rfl s34) rfl ?_
                            rw [HV.out, opW_no (by decide)]
                            exact HE.out
                          | false =>
                            have hcF : chkF ofl omo = 0 := by
                              unfold chkF
                              rw [if_neg (by rw [HCB.out, ← HC52.out, ← HC58.out, ← HC67.out, ← HC75.out, ← HC83.out]; decide)]
                            have HCF := Hid.mk hcF
                            clear hcF
                            obtain ⟨y6, hy6⟩ : ∃ y6, y6 = wc := ⟨_, rfl⟩
                            subst hy6
                            cases hl : lowN s.u with
                            | none =>
                              have e32 := HREL.out.full hl
                              have q32 : ((O.length : Int) == 32) = true := by rw [e32]; rfl
                              have HV := Hid.mk (HOF.out HCF.out hl)
                              clear e32 hl
                              go_wp2_with fail
                              refine (refuse_c 3 _).mono ?_
                              rintro e y2 ⟨rfl, q2⟩
                              obtain ⟨b0, b1, b2, b3, b4, b5, b6, b7, b8, z0, z1, z2, z3, z4, z5, z6, z7, z8⟩ := z9 (HAB.out.keep (HQ5.out.trans q2))
                              have HE := Hid.mk (MP.fin (a := ⟨3, 0, [], sta0, []⟩) (v := (.slice none 0 0)) HH.out HK1.out (HH.out.keep (HK1.out.trans (HQ5.out.trans q2))) (Stp.keep (HQ5.out.trans q2)) HGB.out (OwnS.nil _ _ _ _ _) (fr9 (.int .i64 3) (.int .i64 0) (str []) (.int .i64 0) (.int .i64 0) (.int .i64 0) (.int .i64 0) (.int .i64 0) (.slice none 0 0)))
                              have HAZ := Hid.mk (arr9 (HAB.out.keep (HQ5.out.trans q2)) (.int .i64 3) (.int .i64 0) (str []) (.int .i64 0) (.int .i64 0) (.int .i64 0) (.int .i64 0) (.int .i64 0) (.slice none 0 0))
                              clear q2
                              go_wp2_with fail
                              refine bodyPost_ret (v := .agg (ansC ⟨3, 0, [], sta0, []⟩ (.slice none 0 0)).toArray) (results_cell_row1 rfl _ _ gB 34 _ (0, 0) _ rfl HAZ.out Try.underlying34 rfl s34) rfl ?_
                              rw [HV.out, opW_no (by decide)]
                              exact HE.out
                            | some hN =>
                              obtain ⟨hlt, hN32, hbit, hnO, hbel⟩ := HREL.out.part hl
                              have q32 : ((O.length : Int) == 32) = false := by simp; omega
                              have HL := Hid.mk hl
                              have HB := Hid.mk (And.intro hbit (And.intro hnO hbel))
                              clear hl hlt hbit hnO hbel
                              go_upto_region 18 with fail
                              go_cut [12, 13] from 92 to 101 (fun v12 v13 wx => v12 = .int .i64 (nd : Nat) ∧ v13 = .int .i64 er ∧ Keep y6 wx)
                              case first =>
                                have HSK : Hid (∀ W : World, Keep y6 W → W.cell? ⟨gm, 0, none⟩ = some (.pointer (some ⟨gt, 0, none⟩)) ∧ W.cell? ⟨gA, 7, none⟩ = some (str op)) := Hid.mk (fun W kk => ⟨kk.cell x0, kk.cell a7⟩)
                                go_region_held3 (fun W : World => W.cell? ⟨gm, 0, none⟩ = some (.pointer (some ⟨gt, 0, none⟩)) ∧ W.cell? ⟨gA, 7, none⟩ = some (str op))
                                  (with_reducible first | assumption | exact ⟨x0, a7⟩ | exact HSK.out _ (Keep.refl y6).drew | exact HSK.out _ Q2)
                                  ((go_at_call 63; refine (HWC.out _ ((HK1.out.trans HQ5.out).trans (Keep.refl y6).drew)).mono ?_; rintro x y ⟨rfl, q2⟩; have Q2 := (Keep.refl y6).drew.trans q2))
                                go_wp2_with fail
                                go_meet
                                case rel => exact ⟨rfl, rfl, Q2⟩
                              case rest =>
                                obtain ⟨rfl, rfl, q7⟩ := hcut
                                obtain ⟨y7, hy7⟩ : ∃ y7, y7 = wc := ⟨_, rfl⟩
                                subst hy7
                                have HQ7 := Hid.mk (HQ5.out.trans q7)
                                replace x0 := q7.cell x0
                                replace x1 := q7.cell x1
                                replace a3 := q7.cell a3
                                replace a7 := q7.cell a7
                                clear q7 q32
                                obtain ⟨b111, hb111⟩ : ∃ b, b = (decide (er ≠ 0) && !(decide (er = 6) && bc)) := ⟨_, rfl⟩
                                have HC111 := Hid.mk hb111
                                clear hb111
                                go_upto_region 19 with fail
                                go_cut [111] from 102 to 110 (fun v wx => v = .bool b111 ∧ wx = y7)
                                case first =>
                                  by_cases he : er = 0
                                  · have e1 : (er != 0) = false := by simpa using he
                                    go_wp2_with fail
                                    go_meet
                                    case rel => exact ⟨by rw [HC111.out, he]; rfl, rfl⟩
                                  · have e1 : (er != 0) = true := by simpa using he
                                    by_cases h6 : er = 6
                                    · have e2 : (er == 6) = true := by simpa using h6
                                      go_wp2_with fail
                                      go_meet
                                      case rel => exact ⟨by rw [HC111.out, h6]; cases bc <;> rfl, rfl⟩
                                    · have e2 : (er == 6) = false := by simpa using h6
                                      go_wp2_with fail
                                      go_meet
                                      case rel => exact ⟨by rw [HC111.out, decide_eq_true he, decide_eq_false h6]; rfl, rfl⟩
                                case rest =>
                                  obtain ⟨rfl, hwc⟩ := hcut
                                  subst hwc
                                  cases b111 with
                                  | true =>
                                    go_wp2_with fail
                                    have hno : er ≠ 0 ∧ ¬ (er = 6 ∧ bc = true) := by
                                      have := HC111.out
                                      simp only [Bool.true_eq, Bool.and_eq_true, decide_eq_true_eq, Bool.not_eq_true', Bool.and_eq_false_iff, decide_eq_false_iff_not] at this
                                      refine ⟨this.1, fun a => ?_⟩
                                      rcases this.2 with b | b
                                      · exact b a.1
                                      · rw [a.2] at b; simp at b
                                    have HV := Hid.mk (HOP.out HCF.out hN HL.out hno.1 hno.2)
                                    have HNO := Hid.mk hno.1
                                    clear hno
                                    refine (refuse_c er _).mono ?_
                                    rintro e y2 ⟨rfl, q2⟩
                                    obtain ⟨b0, b1, b2, b3, b4, b5, b6, b7, b8, z0, z1, z2, z3, z4, z5, z6, z7, z8⟩ := z9 (HAB.out.keep (HQ7.out.trans q2))
                                    have HE := Hid.mk (MP.fin (a := ⟨er, 0, [], sta0, []⟩) (v := (.slice none 0 0)) HH.out HK1.out (HH.out.keep (HK1.out.trans (HQ7.out.trans q2))) (Stp.keep (HQ7.out.trans q2)) HGB.out (OwnS.nil _ _ _ _ _) (fr9 (.int .i64 er) (.int .i64 0) (str []) (.int .i64 0) (.int .i64 0) (.int .i64 0) (.int .i64 0) (.int .i64 0) (.slice none 0 0)))
                                    have HAZ := Hid.mk (arr9 (HAB.out.keep (HQ7.out.trans q2)) (.int .i64 er) (.int .i64 0) (str []) (.int .i64 0) (.int .i64 0) (.int .i64 0) (.int .i64 0) (.int .i64 0) (.slice none 0 0))
                                    clear q2
                                    go_wp2_with fail
                                    refine bodyPost_ret (v := .agg (ansC ⟨er, 0, [], sta0, []⟩ (.slice none 0 0)).toArray) (results_cell_row1 rfl _ _ gB 34 _ (0, 0) _ rfl HAZ.out Try.underlying34 rfl s34) rfl ?_
                                    rw [HV.out, opW_no HNO.out]
                                    exact HE.out
                                  | false =>
                                    have hER : er = 0 ∨ (er = 6 ∧ bc = true) := by
                                      have := HC111.out
                                      by_cases he : er = 0
                                      · exact Or.inl he
                                      · right
                                        by_cases h6 : er = 6
                                        · refine ⟨h6, ?_⟩
                                          rw [decide_eq_true he, decide_eq_true h6] at this
                                          cases bc
                                          · simp at this
                                          · rfl
                                        · rw [decide_eq_true he, decide_eq_false h6] at this; simp at this
                                    have HER := Hid.mk hER
                                    clear hER
                                    obtain ⟨y7, hy7⟩ : ∃ y7, y7 = wc := ⟨_, rfl⟩
                                    subst hy7
                                    go_upto_if 115 with fail
                                    go_cut [12, 13, 14, 15] from 116 to 184 (fun v12 v13 v14 v15 wx => ∃ (nd2 : Nat) (fp1 : Nat → Prop) (T2 : List Nd), v12 = .int .i64 (nd2 : Nat) ∧ MW B fp1 wx gm gt ⟨s.u, s.hs, T2⟩ O (.slice oa O.length oc) ∧ Stp (fpM fp gm (.slice oa O.length oc)) (fpM fp1 gm (.slice oa O.length oc)) y7 wx ∧ R = finO s.u s.hs hN ofl T2 nd2 ∧ nd2 < T2.length ∧ (at' T2 nd2).opens ≤ 1000)
                                    case first =>
                                      by_cases he : er = 0
                                      · subst he
                                        obtain ⟨kd, hkd⟩ : ∃ b, b = decide ((at' s.T nd).kind = 2) := ⟨_, rfl⟩
                                        obtain ⟨m2, hm2⟩ : ∃ b, b = bt (at' s.T nd).mode 256 := ⟨_, rfl⟩
                                        obtain ⟨m1, hm1⟩ : ∃ b, b = bt (at' s.T nd).mode 128 := ⟨_, rfl⟩
                                        have hk2 : (((at' s.T nd).kind : Int) == 2) = kd := by
                                          rw [hkd]
                                          by_cases e : (at' s.T nd).kind = 2
                                          · rw [e]; rfl
                                          · rw [decide_eq_false e]; simp; omega
                                        rw [← hkd, ← hm2, ← hm1] at HAD
                                        rw [← hm2] at HM256
                                        rw [← hm1] at HM128
                                        obtain ⟨bn, cap, c0, t1, t2, nodes⟩ := HTR.out _ (HK1.out.trans HQ7.out)
                                        obtain ⟨dv, ev, -, md1, -⟩ := nodes nd hi
                                        unfold maxLen at t2
                                        have i1 : (nd : Int) < s.T.length := by omega
                                        have i2 : (0 : Int) ≤ nd := by omega
                                        clear nodes hkd hm2 hm1
                                        go_wp2_with fail
                                        refine (HKC.out _ (HK1.out.trans HQ7.out)).mono ?_
                                        rintro e y8 ⟨rfl, hy8⟩
                                        subst hy8
                                        go_upto_if 131 with fail
                                        cases be with
                                        | true =>
                                          go_wp2_with fail
                                          have HV := Hid.mk (by have hA : admF (at' s.T nd) ofl = 10 := (by rw [HAD.out, if_pos (by first | rfl | trivial)]); have := HOA.out HCF.out hN HL.out (by first | rfl | trivial) (by rw [hA]; decide); rw [hA] at this; exact this : R = (s.u, s.hs, s.T, -1, 10))
                                          refine (refuse_c 10 _).mono ?_
                                          rintro e y2 ⟨rfl, q2⟩
                                          obtain ⟨b0, b1, b2, b3, b4, b5, b6, b7, b8, z0, z1, z2, z3, z4, z5, z6, z7, z8⟩ := z9 (HAB.out.keep (HQ7.out.trans q2))
                                          have HE := Hid.mk (MP.fin (a := ⟨10, 0, [], sta0, []⟩) (v := (.slice none 0 0)) HH.out HK1.out (HH.out.keep (HK1.out.trans (HQ7.out.trans q2))) (Stp.keep (HQ7.out.trans q2)) HGB.out (OwnS.nil _ _ _ _ _) (fr9 (.int .i64 10) (.int .i64 0) (str []) (.int .i64 0) (.int .i64 0) (.int .i64 0) (.int .i64 0) (.int .i64 0) (.slice none 0 0)))
                                          have HAZ := Hid.mk (arr9 (HAB.out.keep (HQ7.out.trans q2)) (.int .i64 10) (.int .i64 0) (str []) (.int .i64 0) (.int .i64 0) (.int .i64 0) (.int .i64 0) (.int .i64 0) (.slice none 0 0))
                                          clear q2
                                          go_wp2_with fail
                                          refine bodyPost_ret (v := .agg (ansC ⟨10, 0, [], sta0, []⟩ (.slice none 0 0)).toArray) (results_cell_row1 rfl _ _ gB 34 _ (0, 0) _ rfl HAZ.out Try.underlying34 rfl s34) rfl ?_
                                          rw [HV.out, opW_no (by decide)]
                                          exact HE.out
                                        | false =>
                                            obtain ⟨b136, hb136⟩ : ∃ b, b = (kd && bw) := ⟨_, rfl⟩
                                            have HC136 := Hid.mk hb136
                                            clear hb136
                                            go_upto_region 26 with fail
                                            go_cut [136] from 133 to 135 (fun v wx => v = .bool b136 ∧ wx = y8)
                                            case first =>
                                              cases kd <;> cases bw <;> (go_wp2_with fail; go_meet; (case rel => exact ⟨by rw [HC136.out]; rfl, rfl⟩))
                                            case rest =>
                                              obtain ⟨rfl, hwc⟩ := hcut
                                              subst hwc
                                              cases b136 with
                                              | true =>
                                                go_wp2_with fail
                                                have HV := Hid.mk (by have hA : admF (at' s.T nd) ofl = 8 := (by rw [HAD.out, if_neg (by decide), if_pos HC136.out.symm]); have := HOA.out HCF.out hN HL.out (by first | rfl | trivial) (by rw [hA]; decide); rw [hA] at this; exact this : R = (s.u, s.hs, s.T, -1, 8))
                                                refine (refuse_c 8 _).mono ?_
                                                rintro e y2 ⟨rfl, q2⟩
                                                obtain ⟨b0, b1, b2, b3, b4, b5, b6, b7, b8, z0, z1, z2, z3, z4, z5, z6, z7, z8⟩ := z9 (HAB.out.keep (HQ7.out.trans q2))
                                                have HE := Hid.mk (MP.fin (a := ⟨8, 0, [], sta0, []⟩) (v := (.slice none 0 0)) HH.out HK1.out (HH.out.keep (HK1.out.trans (HQ7.out.trans q2))) (Stp.keep (HQ7.out.trans q2)) HGB.out (OwnS.nil _ _ _ _ _) (fr9 (.int .i64 8) (.int .i64 0) (str []) (.int .i64 0) (.int .i64 0) (.int .i64 0) (.int .i64 0) (.int .i64 0) (.slice none 0 0)))
                                                have HAZ := Hid.mk (arr9 (HAB.out.keep (HQ7.out.trans q2)) (.int .i64 8) (.int .i64 0) (str []) (.int .i64 0) (.int .i64 0) (.int .i64 0) (.int .i64 0) (.int .i64 0) (.slice none 0 0))
                                                clear q2
                                                go_wp2_with fail
                                                refine bodyPost_ret (v := .agg (ansC ⟨8, 0, [], sta0, []⟩ (.slice none 0 0)).toArray) (results_cell_row1 rfl _ _ gB 34 _ (0, 0) _ rfl HAZ.out Try.underlying34 rfl s34) rfl ?_
                                                rw [HV.out, opW_no (by decide)]
                                                exact HE.out
                                              | false =>
                                                obtain ⟨b142, hb142⟩ : ∃ b, b = (!kd && bd) := ⟨_, rfl⟩
                                                have HC142 := Hid.mk hb142
                                                clear hb142
                                                go_upto_region 28 with fail
                                                go_cut [142] from 138 to 141 (fun v wx => v = .bool b142 ∧ wx = wc)
                                                case first =>
                                                  cases kd <;> cases bd <;> (go_wp2_with fail; go_meet; (case rel => exact ⟨by rw [HC142.out]; rfl, rfl⟩))
                                                case rest =>
                                                  obtain ⟨rfl, hwc⟩ := hcut
                                                  subst hwc
                                                  cases b142 with
                                                  | true =>
                                                    go_wp2_with fail
                                                    have HV := Hid.mk (by have hA : admF (at' s.T nd) ofl = 7 := (by rw [HAD.out, if_neg (by decide), if_neg (by rw [← HC136.out]; decide), if_pos HC142.out.symm]); have := HOA.out HCF.out hN HL.out (by first | rfl | trivial) (by rw [hA]; decide); rw [hA] at this; exact this : R = (s.u, s.hs, s.T, -1, 7))
                                                    refine (refuse_c 7 _).mono ?_
                                                    rintro e y2 ⟨rfl, q2⟩
                                                    obtain ⟨b0, b1, b2, b3, b4, b5, b6, b7, b8, z0, z1, z2, z3, z4, z5, z6, z7, z8⟩ := z9 (HAB.out.keep (HQ7.out.trans q2))
                                                    have HE := Hid.mk (MP.fin (a := ⟨7, 0, [], sta0, []⟩) (v := (.slice none 0 0)) HH.out HK1.out (HH.out.keep (HK1.out.trans (HQ7.out.trans q2))) (Stp.keep (HQ7.out.trans q2)) HGB.out (OwnS.nil _ _ _ _ _) (fr9 (.int .i64 7) (.int .i64 0) (str []) (.int .i64 0) (.int .i64 0) (.int .i64 0) (.int .i64 0) (.int .i64 0) (.slice none 0 0)))
                                                    have HAZ := Hid.mk (arr9 (HAB.out.keep (HQ7.out.trans q2)) (.int .i64 7) (.int .i64 0) (str []) (.int .i64 0) (.int .i64 0) (.int .i64 0) (.int .i64 0) (.int .i64 0) (.slice none 0 0))
                                                    clear q2
                                                    go_wp2_with fail
                                                    refine bodyPost_ret (v := .agg (ansC ⟨7, 0, [], sta0, []⟩ (.slice none 0 0)).toArray) (results_cell_row1 rfl _ _ gB 34 _ (0, 0) _ rfl HAZ.out Try.underlying34 rfl s34) rfl ?_
                                                    rw [HV.out, opW_no (by decide)]
                                                    exact HE.out
                                                  | false =>
                                                    obtain ⟨b149, hb149⟩ : ∃ b, b = (br && !m2) := ⟨_, rfl⟩
                                                    have HC149 := Hid.mk hb149
                                                    clear hb149
                                                    go_upto_region 30 with fail
                                                    go_cut [149] from 144 to 148 (fun v wx => v = .bool b149 ∧ wx = wc)
                                                    case first =>
                                                      cases br with
                                                      | false => go_wp2_with fail; go_meet; (case rel => exact ⟨by rw [HC149.out]; rfl, rfl⟩)
                                                      | true =>
                                                        go_wp2_with fail
                                                        refine (HM256.out _).mono ?_
                                                        rintro e y ⟨rfl, hy⟩
                                                        subst hy
                                                        go_wp2_with fail
                                                        go_meet
                                                        case rel => exact ⟨by rw [HC149.out]; rfl, rfl⟩
                                                    case rest =>
                                                      obtain ⟨rfl, hwc⟩ := hcut
                                                      subst hwc
                                                      cases b149 with
                                                      | true =>
                                                        go_wp2_with fail
                                                        have HV := Hid.mk (by have hA : admF (at' s.T nd) ofl = 11 := (by rw [HAD.out, if_neg (by decide), if_neg (by rw [← HC136.out]; decide), if_neg (by rw [← HC142.out]; decide), if_pos HC149.out.symm]); have := HOA.out HCF.out hN HL.out (by first | rfl | trivial) (by rw [hA]; decide); rw [hA] at this; exact this : R = (s.u, s.hs, s.T, -1, 11))
                                                        refine (refuse_c 11 _).mono ?_
                                                        rintro e y2 ⟨rfl, q2⟩
                                                        obtain ⟨b0, b1, b2, b3, b4, b5, b6, b7, b8, z0, z1, z2, z3, z4, z5, z6, z7, z8⟩ := z9 (HAB.out.keep (HQ7.out.trans q2))
                                                        have HE := Hid.mk (MP.fin (a := ⟨11, 0, [], sta0, []⟩) (v := (.slice none 0 0)) HH.out HK1.out (HH.out.keep (HK1.out.trans (HQ7.out.trans q2))) (Stp.keep (HQ7.out.trans q2)) HGB.out (OwnS.nil _ _ _ _ _) (fr9 (.int .i64 11) (.int .i64 0) (str []) (.int .i64 0) (.int .i64 0) (.int .i64 0) (.int .i64 0) (.int .i64 0) (.slice none 0 0)))
                                                        have HAZ := Hid.mk (arr9 (HAB.out.keep (HQ7.out.trans q2)) (.int .i64 11) (.int .i64 0) (str []) (.int .i64 0) (.int .i64 0) (.int .i64 0) (.int .i64 0) (.int .i64 0) (.slice none 0 0))
                                                        clear q2
                                                        go_wp2_with fail
                                                        refine bodyPost_ret (v := .agg (ansC ⟨11, 0, [], sta0, []⟩ (.slice none 0 0)).toArray) (results_cell_row1 rfl _ _ gB 34 _ (0, 0) _ rfl HAZ.out Try.underlying34 rfl s34) rfl ?_
                                                        rw [HV.out, opW_no (by decide)]
                                                        exact HE.out
                                                      | false =>
                                                        obtain ⟨b156, hb156⟩ : ∃ b, b = (bw && !m1) := ⟨_, rfl⟩
                                                        have HC156 := Hid.mk hb156
                                                        clear hb156
                                                        go_upto_region 32 with fail
                                                        go_cut [156] from 151 to 155 (fun v wx => v = .bool b156 ∧ wx = wc)
                                                        case first =>
                                                          cases bw with
                                                          | false => go_wp2_with fail; go_meet; (case rel => exact ⟨by rw [HC156.out]; rfl, rfl⟩)
                                                          | true =>
                                                            go_wp2_with fail
                                                            refine (HM128.out _).mono ?_
                                                            rintro e y ⟨rfl, hy⟩
                                                            subst hy
                                                            go_wp2_with fail
                                                            go_meet
                                                            case rel => exact ⟨by rw [HC156.out]; rfl, rfl⟩
                                                        case rest =>
                                                          obtain ⟨rfl, hwc⟩ := hcut
                                                          subst hwc
                                                          cases b156 with
                                                          | true =>
                                                            go_wp2_with fail
                                                            have HV := Hid.mk (by have hA : admF (at' s.T nd) ofl = 11 := (by rw [HAD.out, if_neg (by decide), if_neg (by rw [← HC136.out]; decide), if_neg (by rw [← HC142.out]; decide), if_neg (by rw [← HC149.out]; decide), if_pos HC156.out.symm]); have := HOA.out HCF.out hN HL.out (by first | rfl | trivial) (by rw [hA]; decide); rw [hA] at this; exact this : R = (s.u, s.hs, s.T, -1, 11))
                                                            refine (refuse_c 11 _).mono ?_
                                                            rintro e y2 ⟨rfl, q2⟩
                                                            obtain ⟨b0, b1, b2, b3, b4, b5, b6, b7, b8, z0, z1, z2, z3, z4, z5, z6, z7, z8⟩ := z9 (HAB.out.keep (HQ7.out.trans q2))
                                                            have HE := Hid.mk (MP.fin (a := ⟨11, 0, [], sta0, []⟩) (v := (.slice none 0 0)) HH.out HK1.out (HH.out.keep (HK1.out.trans (HQ7.out.trans q2))) (Stp.keep (HQ7.out.trans q2)) HGB.out (OwnS.nil _ _ _ _ _) (fr9 (.int .i64 11) (.int .i64 0) (str []) (.int .i64 0) (.int .i64 0) (.int .i64 0) (.int .i64 0) (.int .i64 0) (.slice none 0 0)))
                                                            have HAZ := Hid.mk (arr9 (HAB.out.keep (HQ7.out.trans q2)) (.int .i64 11) (.int .i64 0) (str []) (.int .i64 0) (.int .i64 0) (.int .i64 0) (.int .i64 0) (.int .i64 0) (.slice none 0 0))
                                                            clear q2
                                                            go_wp2_with fail
                                                            refine bodyPost_ret (v := .agg (ansC ⟨11, 0, [], sta0, []⟩ (.slice none 0 0)).toArray) (results_cell_row1 rfl _ _ gB 34 _ (0, 0) _ rfl HAZ.out Try.underlying34 rfl s34) rfl ?_
                                                            rw [HV.out, opW_no (by decide)]
                                                            exact HE.out
                                                          | false =>
                                                            obtain ⟨y9, hy9⟩ : ∃ y9, y9 = wc := ⟨_, rfl⟩
                                                            subst hy9
                                                            have hA0 : admF (at' s.T nd) ofl = 0 := by rw [HAD.out, if_neg (by decide), if_neg (by rw [← HC136.out]; decide), if_neg (by rw [← HC142.out]; decide), if_neg (by rw [← HC149.out]; decide), if_neg (by rw [← HC156.out]; decide)]
                                                            have HTL := Hid.mk (HTP.out HCF.out hN HL.out (by first | rfl | trivial) hA0)
                                                            have MK0 := HH.out.keep (HK1.out.trans HQ7.out)
                                                            cases bq with
                                                            | false =>
                                                              have HM9 := Hid.mk MK0
                                                              clear hA0 MK0
                                                              go_wp2_with fail
                                                              go_meet
                                                              case rel => exact ⟨nd, fp, s.T, rfl, HM9.out, Stp.keep (Keep.refl _), HTL.out⟩
                                                            | true =>
                                                              obtain ⟨bn', cap', dv', ev', c0', l1', l2', c5', -, -, -, fz', -, -, fd⟩ := MK0.tree.fresh hi
                                                              obtain ⟨fp2, t2', s2'⟩ := fd y9 [] (.slice none 0 0) (Keep.refl _) (World.ownsRow_nil _ _ _ _)
                                                              obtain ⟨M9, s9⟩ := MK0.step t2' s2'
                                                              have HM9 := Hid.mk M9
                                                              have HS9 := Hid.mk s9
                                                              rw [c0] at c0'
                                                              injection c0' with c0'
                                                              injection c0' with g1 g2 g3
                                                              injection g1 with g1
                                                              injection g1 with g1
                                                              subst g1 g3
                                                              have fz5 := fz' (nd * 7 + 5)
                                                              clear hA0 MK0 fd t2' s2' M9 s9 fz'
                                                              go_wp2_with fail
                                                              go_meet
                                                              case rel => exact ⟨nd, fp2, _, rfl, HM9.out, HS9.out, HTL.out⟩
                                      · have hEB : er = 6 ∧ bc = true := by
                                          rcases HER.out with a | a
                                          · exact absurd a he
                                          · exact a
                                        obtain ⟨rfl, rfl⟩ := hEB
                                        have HTM2 := Hid.mk (HTM.out HCF.out hN HL.out (by first | rfl | trivial) (by first | rfl | trivial))
                                        go_upto_region 36 with fail
                                        go_cut [12, 13] from 169 to 180 (fun v12 v13 wx => v12 = .int .i64 (mn : Nat) ∧ v13 = .int .i64 me ∧ ∃ fp1, MW B fp1 wx gm gt ⟨s.u, s.hs, mT⟩ O (.slice oa O.length oc) ∧ Stp (fpM fp gm (.slice oa O.length oc)) (fpM fp1 gm (.slice oa O.length oc)) y7 wx)
                                        case first =>
                                          have HSK : Hid (∀ W : World, Keep y7 W → W.cell? ⟨gm, 0, none⟩ = some (.pointer (some ⟨gt, 0, none⟩)) ∧ W.cell? ⟨gA, 7, none⟩ = some (str op) ∧ W.cell? ⟨gA, 3, none⟩ = some (.int .i64 omo)) := Hid.mk (fun W kk => ⟨kk.cell x0, kk.cell a7, kk.cell a3⟩)
                                          have HMW := Hid.mk (HH.out.keep (HK1.out.trans HQ7.out))
                                          have HAAW := Hid.mk (HAA.out.keep HQ7.out)
                                          go_region_held3 (fun W : World => W.cell? ⟨gm, 0, none⟩ = some (.pointer (some ⟨gt, 0, none⟩)) ∧ W.cell? ⟨gA, 7, none⟩ = some (str op) ∧ W.cell? ⟨gA, 3, none⟩ = some (.int .i64 omo))
                                            (with_reducible first | assumption | exact ⟨x0, a7, a3⟩ | exact HSK.out _ (Keep.refl y7).drew | exact S2)
                                            ((go_at_call 80; refine (HCC.out _ ((HK1.out.trans HQ7.out).trans (Keep.refl y7).drew)).mono ?_; rintro x y ⟨fp1, rfl, t1, s1⟩
                                              obtain ⟨M1, s2⟩ := (HMW.out.keep (Keep.refl y7).drew).step t1 s1
                                              have AA1 := s2.1.arr HNF.out.1 (HAAW.out.keep (Keep.refl y7).drew)
                                              have S2 : (fun W : World => W.cell? ⟨gm, 0, none⟩ = some (.pointer (some ⟨gt, 0, none⟩)) ∧ W.cell? ⟨gA, 7, none⟩ = some (str op) ∧ W.cell? ⟨gA, 3, none⟩ = some (.int .i64 omo)) y := ⟨M1.cells.1, AA1.cell 7, AA1.cell 3⟩
                                              have HM1 := Hid.mk M1
                                              have HS1 := Hid.mk ((Stp.keep (Keep.refl y7).drew).trans s2)
                                              clear M1 s1 s2 t1 AA1))
                                          go_wp2_with fail
                                          go_meet
                                          case rel => exact ⟨rfl, rfl, fp1, HM1.out, HS1.out⟩
                                        case rest =>
                                          obtain ⟨rfl, rfl, fp1, M1, s1⟩ := hcut
                                          obtain ⟨y8, hy8⟩ : ∃ y8, y8 = wc := ⟨_, rfl⟩
                                          subst hy8
                                          have HM1 := Hid.mk M1
                                          have HS1 := Hid.mk s1
                                          have HAB1 := Hid.mk (s1.1.arr HNF.out.2.1 (HAB.out.keep HQ7.out))
                                          clear M1 s1
                                          by_cases hme : me = 0
                                          · subst hme
                                            have HTL := Hid.mk (HTM2.out.2 rfl)
                                            go_wp2_with fail
                                            go_meet
                                            case rel => exact ⟨mn, fp1, mT, rfl, HM1.out, HS1.out, HTL.out⟩
                                          · have HV := Hid.mk (HTM2.out.1 hme)
                                            have HNO := Hid.mk hme
                                            have n1 : (me != 0) = true := by simpa using hme
                                            clear hme
                                            go_wp2_with fail
                                            refine (refuse_c me _).mono ?_
                                            rintro e y9 ⟨rfl, q2⟩
                                            obtain ⟨b0, b1, b2, b3, b4, b5, b6, b7, b8, z0, z1, z2, z3, z4, z5, z6, z7, z8⟩ := z9 (HAB1.out.keep q2)
                                            have HE := Hid.mk (MP.fin (a := ⟨me, 0, [], sta0, []⟩) (v := (.slice none 0 0)) HH.out HK1.out (HM1.out.keep q2) ((Stp.keep HQ7.out).trans (HS1.out.trans (Stp.keep q2))) HGB.out (OwnS.nil _ _ _ _ _) (fr9 (.int .i64 me) (.int .i64 0) (str []) (.int .i64 0) (.int .i64 0) (.int .i64 0) (.int .i64 0) (.int .i64 0) (.slice none 0 0)))
                                            have HAZ := Hid.mk (arr9 (HAB1.out.keep q2) (.int .i64 me) (.int .i64 0) (str []) (.int .i64 0) (.int .i64 0) (.int .i64 0) (.int .i64 0) (.int .i64 0) (.slice none 0 0))
                                            clear q2
                                            go_wp2_with fail
                                            refine bodyPost_ret (v := .agg (ansC ⟨me, 0, [], sta0, []⟩ (.slice none 0 0)).toArray) (results_cell_row1 rfl _ _ gB 34 _ (0, 0) _ rfl HAZ.out Try.underlying34 rfl s34) rfl ?_
                                            rw [HV.out, opW_no HNO.out]
                                            exact HE.out
                                    case rest =>
                                      obtain ⟨nd2, fp1, T2, rfl, M1, s1, hRf, hn2, ho2⟩ := hcut
                                      obtain ⟨y9, hy9⟩ : ∃ y9, y9 = wc := ⟨_, rfl⟩
                                      subst hy9
                                      have HV := Hid.mk hRf
                                      have HAB1 := Hid.mk (s1.1.arr HNF.out.2.1 (HAB.out.keep HQ7.out))
                                      have HS1 := Hid.mk ((Stp.keep HQ7.out).trans s1)
                                      have HM1 := Hid.mk M1
                                      have HW1 : Hid (∀ k2 : Nat, k2 < hN → ∃ i2 : Nat, Calls Try.prog 55 #[.pointer (some ⟨gm, 0, none⟩), .int .i64 (k2 : Nat)] y9 fun e w' => e = .returned (.int .i64 i2) ∧ w' = y9) := Hid.mk (fun k2 hk2 => by
                                        obtain ⟨i2, hi2, e1, -⟩ := M1.rel.idx (x := (k2 : Int)) (by unfold opn; simp only [Int.toNat_natCast]; rw [HB.out.2.2 k2 hk2, decide_eq_true (by omega), decide_eq_true (by omega)]; rfl)
                                        exact ⟨i2, by rw [e1]; exact where_t M1 hi2⟩)
                                      have HW2 : Hid (Calls Try.prog 55 #[.pointer (some ⟨gm, 0, none⟩), .int .i64 (hN : Nat)] y9 fun e w' => e = .returned (.int .i64 (-1)) ∧ w' = y9) := Hid.mk (where_f M1 (by unfold opn; simp only [Int.toNat_natCast]; rw [HB.out.1, Bool.and_false]))
                                      obtain ⟨bn, cap, c0, l1, l2, ⟨-, -, -, n3, -⟩, fz, -, -, no, -⟩ := M1.tree.num hn2
                                      obtain ⟨fp2, t2, s2⟩ := no ((at' T2 nd2).opens + 1)
                                      obtain ⟨M2, s3⟩ := M1.step t2 s2
                                      have HM2 := Hid.mk M2
                                      have HS2 := Hid.mk (HS1.out.trans s3)
                                      have nB : ¬ fpM fp1 gm (.slice oa O.length oc) gB := fun a => by
                                        rcases HS1.out.2 gB a with b | b
                                        · exact HNF.out.2.1 b
                                        · have := HGB.out.2; omega
                                      have HAB2 := Hid.mk (s3.1.arr nB HAB1.out)
                                      obtain ⟨u0, -⟩ := M1.cells
                                      have f3 := fz (nd2 * 7 + 3)
                                      have i1 : (nd2 : Int) < T2.length := by omega
                                      have i2 : (0 : Int) ≤ nd2 := by omega
                                      have i3 : ((at' T2 nd2).opens : Int) ≤ 1000 := by omega
                                      have i4 : (hN : Int) ≤ 32 := by omega
                                      unfold maxLen at l2
                                      have HNO : hN ∉ O := HB.out.2.1
                                      have HOP2 := Hid.mk (HREL.out.open hN32 HNO ⟨nd2, bits .and .i64 ofl 35, decide ((at' T2 nd2).kind = 2), 0, []⟩)
                                      have HRO := Hid.mk (rows_open (O := O) (hs := s.hs) (by rw [HREL.out.hl]; exact hN32) HNO ⟨nd2, bits .and .i64 ofl 35, decide ((at' T2 nd2).kind = 2), 0, []⟩)
                                      have HMO2 := Hid.mk (HMO.out hN nd2 (decide ((at' T2 nd2).kind = 2)))
                                      have HMO3 : Hid (∀ u ∈ mopC (hN, ⟨nd2, bits .and .i64 ofl 35, decide ((at' T2 nd2).kind = 2), 0, []⟩), u.oneCell' = true) := Hid.mk (mopC_one _)
                                      generalize hND : (⟨nd2, bits .and .i64 ofl 35, decide ((at' T2 nd2).kind = 2), 0, []⟩ : Hd) = newH at *
                                      have HND := Hid.mk hND
                                      clear hND M1 s1 hRf M2 s3 t2 s2 no fz nB x0 x1 a3 a7 HNO hn2 ho2 hi
                                      go_wp2_with fail
                                      go_loopg [16] hN (fun gk v16 wr => ∃ k2 : Nat, k2 + gk = hN ∧ v16 = .int .i64 k2 ∧ wr = y9)
                                      case atStart => exact ⟨0, by omega, rfl, rfl⟩
                                      case round =>
                                        obtain ⟨k2, hk2, rfl, hwr⟩ := hrel
                                        subst hwr
                                        by_cases hlt : k2 < hN
                                        · obtain ⟨i5, WC⟩ := HW1.out k2 hlt
                                          have j1 : (k2 : Int) < hN := by omega
                                          have j2 : (0 : Int) ≤ i5 := by omega
                                          go_wp2_with fail
                                          refine WC.mono ?_
                                          rintro e y ⟨rfl, hy⟩
                                          subst hy
                                          go_wp2_with fail
                                          go_roundg (gk - 1)
                                          case measure => omega
                                          case rel => exact ⟨k2 + 1, by omega, by go_num, rfl⟩
                                        · have hkN : k2 = hN := by omega
                                          subst hkN
                                          clear hlt hk2
                                          go_wp2_with fail
                                          refine HW2.out.mono ?_
                                          rintro e y ⟨rfl, hy⟩
                                          subst hy
                                          go_upto_region 43 with fail
                                          rw [show ((at' T2 nd2).opens : Int) + 1 = (((at' T2 nd2).opens + 1 : Nat) : Int) by omega]
                                          generalize y.setCell ⟨bn, nd2 * 7 + 3, none⟩ (.int .i64 (((at' T2 nd2).opens + 1 : Nat) : Int)) = y10 at *
                                          obtain ⟨v0, v1⟩ := HM2.out.cells
                                          have hB10 : B ≤ y10.heap.size := Nat.le_of_lt (Nat.lt_of_le_of_lt HM2.out.lo HM2.out.arr.lt)
                                          clear u0 c0 n3 f3
                                          go_upto_region 44 with
                                             (at_builtin; refine wpList_appS (by rfl) _ _ _ (by rfl) mopC Try.underlying44 inf91 rfl (by omega) mopC_len B (by rfl) (HM2.out.own.alloc _) y10.heap.size (k2, newH) (by rfl) (by rw [HMO2.out]; exact Arr.new y10 91 _) HMO3.out (by have := HO32.out; rw [rowsOf_len]; simp [maxLen]; omega) (by have := HO32.out; rw [rowsOf_len]; omega) (by simp; omega) ?_; intro v' w' hown' hgr hob
                                              obtain ⟨va, vn, vc, hvs⟩ : ∃ a n c, v' = .slice a n c := (by
                                                rcases hown'.form with ⟨e, -⟩ | ⟨g', cap', cur', e, -⟩
                                                · exact ⟨_, _, _, e⟩
                                                · exact ⟨_, _, _, e⟩)
                                              subst hvs
                                              have FRW : Fr (fun q => Value.ownBlock (.slice oa O.length oc) = some q) y10 w' := (((Fr.refl (fun q => Value.ownBlock (.slice oa O.length oc) = some q) y10).alloc _)).trans (Fr.grown hgr (fun q hq => hq))
                                              have ARW := FRW.arr (fun e => (HM2.out.nov gm e).2 rfl) HM2.out.arr
                                              have x1w := ARW.cell 1
                                              have f1w := ARW.frozen 1
                                              have HSWP := HM2.out.swap (rv := .slice va vn vc) (hs' := s.hs.set k2 newH) (u' := s.u ||| 2 ^ k2) (O' := O ++ [k2]) FRW (by rw [HRO.out]; exact hown') (fun q hq => by
                                                rcases hob with e | e
                                                · exact Or.inl (e ▸ hq)
                                                · rw [e] at hq
                                                  have := Option.some.inj hq
                                                  refine Or.inr ?_
                                                  rw [← this]
                                                  simp) HOP2.out
                                              have HM3 := Hid.mk HSWP.1
                                              have HS3 := Hid.mk (HS2.out.trans HSWP.2)
                                              have nB2 : ¬ fpM fp2 gm (.slice oa O.length oc) gB := (fun a => by
                                                rcases HS2.out.2 gB a with b | b
                                                · exact HNF.out.2.1 b
                                                · have := HGB.out.2; omega)
                                              have HAB3 := Hid.mk (HSWP.2.1.arr nB2 HAB2.out)
                                              clear FRW ARW HSWP nB2 hown' hgr hob)
                                          generalize w'.setCell ⟨gm, 1, none⟩ (.slice va vn vc) = y12 at *
                                          obtain ⟨b0, b1, b2, b3, b4, b5, b6, b7, b8, z0, z1, z2, z3, z4, z5, z6, z7, z8⟩ := z9 HAB3.out
                                          have HE := Hid.mk (MP.fin (a := ⟨0, (k2 : Nat), [], sta0, []⟩) (v := (.slice none 0 0)) HH.out HK1.out HM3.out HS3.out HGB.out (OwnS.nil _ _ _ _ _) (fr9 (.int .i64 0) (.int .i64 (k2 : Nat)) (str []) (.int .i64 0) (.int .i64 0) (.int .i64 0) (.int .i64 0) (.int .i64 0) (.slice none 0 0)))
                                          have HAZ := Hid.mk (arr9 HAB3.out (.int .i64 0) (.int .i64 (k2 : Nat)) (str []) (.int .i64 0) (.int .i64 0) (.int .i64 0) (.int .i64 0) (.int .i64 0) (.slice none 0 0))
                                          go_wp2_with fail
                                          refine bodyPost_ret (v := .agg (ansC ⟨0, (k2 : Nat), [], sta0, []⟩ (.slice none 0 0)).toArray) (results_cell_row1 rfl _ _ gB 34 _ (0, 0) _ rfl HAZ.out Try.underlying34 rfl s34) rfl ?_
                                          rw [HV.out]
                                          unfold finO
                                          rw [opW_ok, HND.out]
                                          exact HE.out
end Go.Proofs.Qxb6500767a
