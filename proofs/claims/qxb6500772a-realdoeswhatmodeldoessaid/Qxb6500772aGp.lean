/- blastlaw: takeStmts. -/
import Derived.Test.Qxb6500772aGg
import Derived.Test.Qxb6500772aRa
import Derived.Deep.LoopGhost
import Derived.Deep.CutRange
namespace Go.Proofs.Qxb6500772a
open Go Go.RowKit Go.Qm
set_option linter.unusedVariables false
set_option linter.unusedSimpArgs false
attribute [local go_sem ↓] Go.wp_at_zero Go.wp_at_succ
/-- What takeStmts leaves. -/
def Took (B : Nat) (P : Nat → Prop) (w : World) (gb : Nat) (cv xv sv pv nv : Value) (cels : List Cel) (es : List NE) (s1 s2 : List NS) (bad : NE) (cu nx : List (Int × Nat)) (cf : Bool) (nf : Int) (e : Ending) (w' : World) : Prop := ∃ sv' ua uc, e = .returned (.slice ua s2.length uc) ∧ sv'.ownBlock = sv.ownBlock ∧ (∀ q, (Value.slice ua s2.length uc).ownBlock = some q → w.heap.size ≤ q) ∧ Fr (fun q => q = gb) w w' ∧ BB B (fun q => P q ∨ (Value.slice ua s2.length uc).ownBlock = some q) w' gb cv xv sv' pv nv cels es s1 bad cu nx cf nf ∧ Rows (fun q => P q ∨ (Value.slice ua s2.length uc).ownBlock = some q) w' (.slice ua s2.length uc) 8 (s2.map nsC) ∧ SLW (fun q => P q ∨ (Value.slice ua s2.length uc).ownBlock = some q) w' (mkS s2) (s2.map nsC)
section
variable {B : Nat} {P : Nat → Prop} {w w1 w2 : World} {gb : Nat} {cv xv sv pv nv : Value} {cels : List Cel} {es : List NE} {s1 s2 : List NS} {bad : NE} {cu nx : List (Int × Nat)} {cf : Bool} {nf : Int}
theorem OwnS.len {α : Type} {f : α → List Value} {sz : Nat} {e : TypeId} {v : Value} {l : List α} (h : OwnS f sz e B w v l) : ∃ a c, v = .slice a l.length c := by
  rcases h.form with ⟨rfl, rfl⟩ | ⟨g, cap, cur, rfl, -⟩
  · exact ⟨none, 0, rfl⟩
  · exact ⟨_, _, rfl⟩
/-- The end: the list lies there, the header is cut. -/
theorem Took.of (h : BB B P w gb cv xv sv pv nv cels es (s1 ++ s2) bad cu nx cf nf) (k : Keep w w1) {ua : Option Addr} {uc : Nat} (ho : OwnS nsC 8 109 w.heap.size w1 (.slice ua s2.length uc) s2) {sv' : Value} (hw2 : w2 = w1.setCell ⟨gb, 2, none⟩ sv') (hob : sv'.ownBlock = sv.ownBlock) (hs1 : OwnS nsC 8 109 B w1 sv' s1) : Took B P w gb cv xv sv pv nv cels es s1 s2 bad cu nx cf nf (.returned (.slice ua s2.length uc)) w2 := by
  have f1 : Fr (fun q => q = gb) w1 w2 := by rw [hw2]; exact Fr.setCell (P := fun q => q = gb) (p := ⟨gb, 2, none⟩) (Fr.refl _ w1) (Or.inl rfl) _
  have b1 := h.keep k
  have hlt : ∀ q, (Value.slice ua s2.length uc).ownBlock = some q → w.heap.size ≤ q ∧ q < w1.heap.size := ho.lt
  have hgl := h.ar.lt
  have a2 : Arr w2 gb 78 (bbL cv xv sv' bad pv nv cf nf) := by rw [hw2]; exact b1.ar.set 2 sv'
  have F := focS (P := P) (cv := cv) (xv := xv) (pv := pv) (nv := nv) (cels := cels) (es := es) (bad := bad) (cu := cu) (nx := nx) (cf := cf) (nf := nf) h.lo
  have r2 := F.upd b1.r b1.ar f1 (fun q e => Or.inr (Or.inr e)) (hs1.fr f1 (fun q hq e => OwnS.neA hs1 b1.ar (by decide) (by rw [← show q = gb from e]; exact hq))) (fun x hx => b1.hs x (List.mem_append_left _ hx)) (fun q a => Or.inl (by rw [← hob]; exact a))
  have b2 := BBr.b (cf := cf) r2 a2
  have hfp : ∀ q, fpB gb cv xv sv' pv nv q → q < w.heap.size := fun q a => by
    refine h.low q ?_
    rcases a with a | a | a | a | a
    · exact Or.inl a
    · exact Or.inr (Or.inl a)
    · exact Or.inr (Or.inr (Or.inl a))
    · exact Or.inr (Or.inr (Or.inr (Or.inl (by rw [← hob]; exact a))))
    · exact Or.inr (Or.inr (Or.inr (Or.inr a)))
  have hne : ∀ q, (Value.slice ua s2.length uc).ownBlock = some q → ∀ v : Value, (∀ q, v.ownBlock = some q → fpB gb cv xv sv' pv nv q) → v.ownBlock ≠ some q := fun q hq v hv e => by
    have := hfp q (hv q e)
    have := (hlt q hq).1
    omega
  have ho2 := ho.fr f1 (fun q hq e => by have := (hlt q hq).1; have : q = gb := e; omega)
  have kp : KP P w w2 := KP.fr ((Fr.keep k).trans f1) (fun q a e => (h.sp q a).2.2.1 e)
  refine ⟨sv', ua, uc, rfl, hob, fun q hq => (hlt q hq).1, (Fr.keep k).trans f1, b2.more (fun q a => Or.inl a) (fun q a => ?_), OwnS.rows ho2 nsC_len (fun q a => Or.inr a), mkS_ok (fun x hx => ((h.hs x (List.mem_append_right _ hx)).step kp).weak (fun q a => Or.inl a))⟩
  rcases a with a | a
  · exact Or.inl a
  · have h1 := hlt q a
    refine Or.inr ⟨?_, Nat.lt_of_lt_of_le h1.2 f1.size, by omega, hne q a _ (fun q e => Or.inr (Or.inl e)), hne q a _ (fun q e => Or.inr (Or.inr (Or.inl e))), hne q a _ (fun q e => Or.inr (Or.inr (Or.inr (Or.inl e)))), hne q a _ (fun q e => Or.inr (Or.inr (Or.inr (Or.inr (Or.inl e))))), hne q a _ (fun q e => Or.inr (Or.inr (Or.inr (Or.inr (Or.inr e)))))⟩
    have := h.lo
    omega
end
set_option maxRecDepth 4000 in
set_option maxHeartbeats 4000000 in
theorem takeStmts_c {B : Nat} {P : Nat → Prop} {w : World} {gb : Nat} {cv xv sv pv nv : Value} {cels : List Cel} {es : List NE} {s1 s2 : List NS} {bad : NE} {cu nx : List (Int × Nat)} {cf : Bool} {nf : Int} (h : BB B P w gb cv xv sv pv nv cels es (s1 ++ s2) bad cu nx cf nf) (hl : (s1 ++ s2).length ≤ 90000) :
    Calls Try.prog 53 #[.pointer (some ⟨gb, 0, none⟩), .int .i64 ((s2.length : Nat) : Int)] w (Took B P w gb cv xv sv pv nv cels es s1 s2 bad cu nx cf nf) := by
  obtain ⟨W, hW⟩ : ∃ W, W = w.alloc (.cells #[] 109) := ⟨_, rfl⟩
  have kW : Keep w W := by rw [hW]; exact (Keep.refl w).alloc _
  have HL0 : Hid (OwnS nsC 8 109 w.heap.size W (.slice (some ⟨w.heap.size, 0, none⟩) 0 0) (s2.take 0)) := Hid.mk (by
    have h9 := OwnS.of (f := nsC) (sz := 8) (e := 109) (B := w.heap.size) (w := W) (l := []) (g := w.heap.size) (cap := 0) (cur := []) nsC_len (Nat.le_refl _) (by rw [hW]; exact Arr.new w 109 []) (by simp) (by simp [maxLen]) (by simp) (by simp)
    simpa using h9)
  have HKW := Hid.mk kW
  have HH := Hid.mk h
  have hz : (s1 ++ s2).length = s1.length + s2.length := List.length_append
  obtain ⟨m, hm⟩ : ∃ m, m = s2.length := ⟨_, rfl⟩
  obtain ⟨C, hC⟩ : ∃ C, C = s1.length := ⟨_, rfl⟩
  have HM := Hid.mk hm
  have HC := Hid.mk hC
  have HM2 : Hid (m ≤ 90000) := Hid.mk (by omega)
  have c2 : w.cell? ⟨gb, 2, none⟩ = some sv := h.ar.cell 2
  have c2' : W.cell? ⟨gb, 2, none⟩ = some sv := kW.cell c2
  rw [← hm]
  rcases h.os.form with ⟨e1, e2⟩ | ⟨g, cap, cur, e1, hB, hA, h1, h2, h3, h4⟩
  · have HS1 : Hid (s1 = []) := Hid.mk (List.append_eq_nil_iff.1 e2).1
    have es2 : s2 = [] := (List.append_eq_nil_iff.1 e2).2
    have hm0 : m = 0 := by rw [hm, es2]; rfl
    have hc0 : C = 0 := by rw [hC, HS1.out]; rfl
    have HM0 := Hid.mk hm0
    subst e1
    clear h hz hC e2 es2 kW hc0 hl hm
    subst hm0
    go_enter Try.func53, Try.ntmps53
    go_upto_region 3 with fail
    rw [← hW]
    clear hW c2
    go_wp2_with fail
    clear c2'
    go_loopg [6, 24] 0 (fun gk v6 v24 wr => ∃ (k : Nat) (lv : Value), k + gk = 0 ∧ v24 = .int .i64 k ∧ v6 = lv ∧ OwnS nsC 8 109 w.heap.size wr lv (s2.take k) ∧ Keep w wr)
    case atStart => exact ⟨0, _, by omega, rfl, rfl, HL0.out, HKW.out⟩
    case round =>
      obtain ⟨k, lv, hk, rfl, rfl, ow, kp⟩ := hrel
      have HKK := Hid.mk hk
      have HOW := Hid.mk ow
      have HKP := Hid.mk kp
      obtain ⟨xa, xc, hxv⟩ := OwnS.len ow
      have hlt0 : (s2.take k).length = k := by have := HM.out; rw [List.length_take]; omega
      rw [hlt0] at hxv
      have HXV := Hid.mk hxv
      have HKL := Hid.mk hlt0
      clear hk ow hlt0
      by_cases hlt : k < 0
      · have := HM0.out
        omega
      · have j1 : ¬ (k : Int) < 0 := by omega
        obtain rfl : k = 0 := by have := HKK.out; omega
        subst hxv
        have ab := HH.out.ar.keep kp
        have y2 : wr.cell? ⟨gb, 2, none⟩ = some (.slice none 0 0) := ab.cell 2
        have z2 := ab.frozen 2
        clear ab
        go_wp2_with fail
        go_ret
        have how := HOW.out
        have hm := HM.out
        have htk : s2.take 0 = s2 := by rw [List.eq_nil_of_length_eq_zero hm.symm]; rfl
        rw [htk, hm] at how
        have tk := Took.of (w2 := wr.setCell ⟨gb, 2, none⟩ (.slice none 0 0)) HH.out HKP.out how (sv' := .slice none 0 0) rfl rfl ?_
        · rw [← hm] at tk
          exact tk
        rw [HS1.out]
        exact OwnS.nil nsC 8 109 B _
  · have ne1 : gb ≠ g := fun e => OwnS.neA h.os h.ar (by decide) (by rw [e1, e]; rfl)
    have HB := Hid.mk hB
    have HA := Hid.mk hA
    have H4 := Hid.mk h4
    have HCC : Hid (cap ≤ maxLen ∧ cur.length = cap * 8 ∧ s1.length + s2.length ≤ cap) := Hid.mk ⟨h2, h3, by omega⟩
    obtain ⟨n, hn⟩ : ∃ n, n = (s1 ++ s2).length := ⟨_, rfl⟩
    rw [← hn] at e1
    subst e1
    have wn : IntKind.i64.wrap ((n : Int) - (m : Int)) = (C : Int) := by rw [IntKind.wrap_i64]; omega
    have i1 : (0 : Int) ≤ C := by omega
    have i2 : (C : Int) ≤ n := by omega
    have i3 : (C : Int) ≤ cap := by omega
    unfold maxLen at h2
    have hcap : (cap : Int) ≤ 9223372036854775807 := by omega
    have hnc : (n : Int) ≤ cap := by omega
    have hsub : ((n : Int) - (C : Int)).toNat = m := by omega
    have HNM : Hid (n = C + m) := Hid.mk (by omega)
    by_cases hcc : cap = C
    · have hm0 : m = 0 := by omega
      have HM0 := Hid.mk hm0
      subst hcc
      clear h hz hm hC kW hm0 hl hB hA h1 h2 h3 h4 hn
      go_enter Try.func53, Try.ntmps53
      go_upto_region 3 with fail
      rw [← hW]
      clear hW c2
      go_wp2_with fail
      clear c2'
      go_loopg [6, 24] m (fun gk v6 v24 wr => ∃ (k : Nat) (lv : Value), k + gk = m ∧ v24 = .int .i64 k ∧ v6 = lv ∧ OwnS nsC 8 109 w.heap.size wr lv (s2.take k) ∧ Keep w wr)
      case atStart => exact ⟨0, _, by omega, rfl, rfl, HL0.out, HKW.out⟩
      case round =>
        obtain ⟨k, lv, hk, rfl, rfl, ow, kp⟩ := hrel
        have HKK := Hid.mk hk
        have HOW := Hid.mk ow
        have HKP := Hid.mk kp
        obtain ⟨xa, xc, hxv⟩ := OwnS.len ow
        have hlt0 : (s2.take k).length = k := by have := HM.out; rw [List.length_take]; omega
        rw [hlt0] at hxv
        have HXV := Hid.mk hxv
        have HKL := Hid.mk hlt0
        clear hk ow hlt0
        by_cases hlt : k < m
        · have := HM0.out
          omega
        · have j1 : ¬ (k : Int) < m := by omega
          obtain rfl : k = m := by have := HKK.out; omega
          subst hxv
          have ab := HH.out.ar.keep kp
          have y2 : wr.cell? ⟨gb, 2, none⟩ = some (.slice (some ⟨g, 0, none⟩) n cap) := ab.cell 2
          have z2 := ab.frozen 2
          clear ab
          go_wp2_with fail
          go_ret
          have how := HOW.out
          have hm := HM.out
          have htk : s2.take k = s2 := by rw [hm]; exact List.take_length
          rw [htk, hm] at how
          rw [hm]
          refine Took.of HH.out HKP.out how (sv' := .slice (some ⟨g, 0, none⟩) cap cap) rfl rfl ?_
          have hos := OwnS.of (f := nsC) (l := s1) nsC_len HB.out (HA.out.keep HKP.out) (by have := HCC.out; omega) (HCC.out).1 (HCC.out).2.1 ?_
          · rw [← HC.out] at hos
            exact hos
          have h9 := congrArg (List.take (s1.length * 8)) H4.out
          rw [List.take_take, List.flatMap_append, Nat.min_eq_left (by simp; omega)] at h9
          rw [h9]
          have hfl := flat_length nsC 8 nsC_len s1
          rw [← hfl, List.take_left]
    · have HCN : Hid (¬ cap = C) := Hid.mk hcc
      clear h hz hm hC kW hl hB hA h1 h2 h3 h4 hn
      go_enter Try.func53, Try.ntmps53
      go_upto_region 3 with fail
      rw [← hW]
      clear hW c2
      go_wp2_with fail
      clear c2'
      go_loopg [6, 24] m (fun gk v6 v24 wr => ∃ (k : Nat) (lv : Value), k + gk = m ∧ v24 = .int .i64 k ∧ v6 = lv ∧ OwnS nsC 8 109 w.heap.size wr lv (s2.take k) ∧ Keep w wr)
      case atStart => exact ⟨0, _, by omega, rfl, rfl, HL0.out, HKW.out⟩
      case round =>
        obtain ⟨k, lv, hk, rfl, rfl, ow, kp⟩ := hrel
        have HKK := Hid.mk hk
        have HOW := Hid.mk ow
        have HKP := Hid.mk kp
        obtain ⟨xa, xc, hxv⟩ := OwnS.len ow
        have hlt0 : (s2.take k).length = k := by have := HM.out; rw [List.length_take]; omega
        rw [hlt0] at hxv
        have HXV := Hid.mk hxv
        have HKL := Hid.mk hlt0
        clear hk ow hlt0
        by_cases hlt : k < m
        · have j1 : (k : Int) < m := by omega
          have j2 : (0 : Int) ≤ k := by omega
          have hks : k < s2.length := by have := HM.out; omega
          have hb := HH.out.keep kp
          obtain ⟨x, hx⟩ : ∃ x, x = s2[k] := ⟨_, rfl⟩
          have hxm : x ∈ s1 ++ s2 := by rw [hx]; exact List.mem_append_right _ (List.getElem_mem hks)
          have hxo := hb.hs x hxm
          obtain ⟨ka, kc, hk1, -, -⟩ := hxo.2.1.form
          obtain ⟨ta, tc, hk2, -, -⟩ := hxo.2.2.2.1.form
          obtain ⟨la, lc, hk3, -, -⟩ := hxo.2.2.2.2.2.1.form
          have hcs : ∀ j, j < 8 → wr.cell? ⟨g, C * 8 + k * 8 + j, none⟩ = (nsC x)[j]? := fun j hj => by
            have hA := HA.out
            have h4 := H4.out
            have e1 := flat_take_get nsC_len h4 (C + k) j (by rw [List.length_append]; have := HC.out; have := HM.out; omega) hj
            have e2 := (hA.keep kp).cell ((C + k) * 8 + j)
            rw [e1] at e2
            have e3 : (s1 ++ s2)[C + k]'(by rw [List.length_append]; have := HC.out; omega) = x := by
              rw [hx, List.getElem_append_right (by have := HC.out; omega)]
              congr 1
              have := HC.out
              omega
            rw [e3] at e2
            rw [show C * 8 + k * 8 + j = (C + k) * 8 + j by omega]
            exact e2
          have c0 := hcs 0 (by decide)
          have c1 := hcs 1 (by decide)
          have c2 := hcs 2 (by decide)
          have c3 := hcs 3 (by decide)
          have c4 := hcs 4 (by decide)
          have c5 := hcs 5 (by decide)
          have c6 := hcs 6 (by decide)
          have c7 := hcs 7 (by decide)
          simp only [nsC, sfC, List.getElem?_cons_zero, List.getElem?_cons_succ, Nat.add_zero, hk1, hk2, hk3] at c0 c1 c2 c3 c4 c5 c6 c7
          have HX : Hid (nsC x = [.int .i64 x.f.k, .int .i64 x.f.c, .int .i64 x.f.l, .int .i64 x.f.a, .int .i64 x.f.b, .slice ka x.er.length kc, .slice ta x.tr.length tc, .slice la x.lr.length lc]) := Hid.mk (by rw [nsC, sfC, hk1, hk2, hk3])
          have HXO : Hid (∀ Z, Keep wr Z → ∀ u ∈ nsC x, u.oneCell' = true) := Hid.mk (fun Z kz => hxo.one)
          have HTK : Hid (s2.take (k + 1) = s2.take k ++ [x]) := Hid.mk (by rw [List.take_succ_eq_append_getElem hks, hx])
          obtain ⟨W5, hW5⟩ : ∃ W5, W5 = wr.alloc (.cells #[.int .i64 x.f.k, .int .i64 x.f.c, .int .i64 x.f.l, .int .i64 x.f.a, .int .i64 x.f.b, .slice ka x.er.length kc, .slice ta x.tr.length tc, .slice la x.lr.length lc] 109) := ⟨_, rfl⟩
          have k5 : Keep wr W5 := by rw [hW5]; exact (Keep.refl wr).alloc _
          have a5 : Arr W5 wr.heap.size 109 [.int .i64 x.f.k, .int .i64 x.f.c, .int .i64 x.f.l, .int .i64 x.f.a, .int .i64 x.f.b, .slice ka x.er.length kc, .slice ta x.tr.length tc, .slice la x.lr.length lc] := by rw [hW5]; exact Arr.new wr 109 _
          have r0 : W5.cell? ⟨wr.heap.size, 0, none⟩ = some (.int .i64 x.f.k) := a5.cell 0
          have r1 : W5.cell? ⟨wr.heap.size, 1, none⟩ = some (.int .i64 x.f.c) := a5.cell 1
          have r2 : W5.cell? ⟨wr.heap.size, 2, none⟩ = some (.int .i64 x.f.l) := a5.cell 2
          have r3 : W5.cell? ⟨wr.heap.size, 3, none⟩ = some (.int .i64 x.f.a) := a5.cell 3
          have r4 : W5.cell? ⟨wr.heap.size, 4, none⟩ = some (.int .i64 x.f.b) := a5.cell 4
          have r5 : W5.cell? ⟨wr.heap.size, 5, none⟩ = some (.slice ka x.er.length kc) := a5.cell 5
          have r6 : W5.cell? ⟨wr.heap.size, 6, none⟩ = some (.slice ta x.tr.length tc) := a5.cell 6
          have r7 : W5.cell? ⟨wr.heap.size, 7, none⟩ = some (.slice la x.lr.length lc) := a5.cell 7
          have HK5 := Hid.mk k5
          have hsz5 := Nat.le_trans HKP.out.size k5.size
          have HSZ5 := Hid.mk hsz5
          clear hb hcs hxo hxm hk1 hk2 hk3 hx kp hxv k5 a5 hsz5
          go_upto_region 6 with fail
          rw [← hW5]
          clear c0 c1 c2 c3 c4 c5 c6 c7 hW5
          go_wp2_with (at_builtin; refine wpList_appS (by rfl) _ _ _ (by rfl) nsC Try.underlying25 inf109 rfl (by omega) nsC_len w.heap.size (by rfl) ((HOW.out.keep HK5.out).alloc _) W5.heap.size x (by rfl) (by rw [HX.out]; exact Arr.new W5 109 _) (HXO.out wr (Keep.refl wr)) (by have := HKL.out; have := HM2.out; simp only [maxLen]; omega) (by have := HKL.out; have := HM2.out; omega) (by have := HSZ5.out; simp; omega) ?_; intro v' w7 ho7 hg7 hb7; have HO7 := Hid.mk ho7; have HG7 := Hid.mk hg7; clear ho7 hg7 hb7)
          have hob := (HOW.out.keep HK5.out).lt
          have HK7 : Hid (Keep w w7) := Hid.mk (((HKP.out.trans HK5.out).alloc _).grown HG7.out (fun q e => (hob q e).1))
          clear hob
          go_roundg (gk - 1)
          case measure => have := HKK.out; omega
          case rel => exact ⟨k + 1, v', by have := HKK.out; omega, by go_num, rfl, by rw [HTK.out]; exact HO7.out, HK7.out⟩
        · have j1 : ¬ (k : Int) < m := by omega
          obtain rfl : k = m := by have := HKK.out; omega
          subst hxv
          have ab := HH.out.ar.keep kp
          have y2 : wr.cell? ⟨gb, 2, none⟩ = some (.slice (some ⟨g, 0, none⟩) n cap) := ab.cell 2
          have z2 := ab.frozen 2
          clear ab
          go_wp2_with fail
          go_ret
          have how := HOW.out
          have hm := HM.out
          have htk : s2.take k = s2 := by rw [hm]; exact List.take_length
          rw [htk, hm] at how
          rw [hm]
          refine Took.of HH.out HKP.out how (sv' := .slice (some ⟨g, 0, none⟩) C cap) rfl rfl ?_
          have hos := OwnS.of (f := nsC) (l := s1) nsC_len HB.out (HA.out.keep HKP.out) (by have := HCC.out; omega) (HCC.out).1 (HCC.out).2.1 ?_
          · rw [← HC.out] at hos
            exact hos
          have h9 := congrArg (List.take (s1.length * 8)) H4.out
          rw [List.take_take, List.flatMap_append, Nat.min_eq_left (by simp; omega)] at h9
          rw [h9]
          have hfl := flat_length nsC 8 nsC_len s1
          rw [← hfl, List.take_left]
end Go.Proofs.Qxb6500772a
