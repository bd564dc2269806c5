/- mergem: Page. -/
import Derived.Test.Qxb6500767aTf
import Derived.Test.Qxb6500767aTc
namespace Go.Proofs.Qxb6500767a
open Go.RowKit Go.Qm
set_option linter.unusedVariables false
set_option linter.unusedSimpArgs false
attribute [local go_sem ↓] Go.wp_at_zero Go.wp_at_succ
structure Dir where
  key : List UInt8
  name : List UInt8
  kind : Nat
  ino : Nat
def dirC (e : Dir) : List Value := [str e.key, str e.name, .int .i64 (e.kind : Nat), .int .i64 (e.ino : Nat)]
theorem dirC_length (e : Dir) : (dirC e).length = 4 := rfl
theorem dirC_one (e : Dir) : ∀ u ∈ dirC e, u.oneCell' = true := by intro u hu; simp [dirC] at hu; rcases hu with rfl | rfl | rfl | rfl <;> rfl
theorem inf74 : (Try.prog.info? 74).map (fun i => (i.zero, i.size, i.bytes)) = some (some (.agg (dirC ⟨[], [], 0, 0⟩).toArray), 4, 48) := by kernel_rfl
abbrev DirO (B : Nat) (w : World) (v : Value) (l : List Dir) : Prop := OwnS dirC 4 74 B w v l
def dirOf (T : List Nd) (e : Edg) : Dir := ⟨e.key, e.spl, (at' T e.node).kind, e.node⟩
def pageF (T : List Nd) (es : List Edg) (after : List UInt8) (n : Nat) : List Dir := ((es.filter fun e => lessB after e.key).map (dirOf T)).take n
theorem app_dir {w : World} {B : Nat} {v : Value} {l : List Dir} (h : DirO B w v l) (g : Nat) (x : Dir) (hg : Arr w g 74 (dirC x)) (hB : B ≤ w.heap.size) (hl : l.length ≤ 2000000) :
    ∃ v' w', (Builtin.append_ #[32, 32] 32 #[v, .slice (some ⟨g, 0, none⟩) 1 1]).run Try.prog w = .ok v' w' ∧ DirO B w' v' (l ++ [x]) ∧ w.grownBy w' v.ownBlock := by
  obtain ⟨i, hi', hz', hs', hby⟩ := info_parts inf74
  have hnews : ∀ j u, (dirC x)[j]? = some u → w.cell? ((⟨g, 0, none⟩ : Addr).add j) = some u := fun j u hu => by
    have e : (⟨g, 0, none⟩ : Addr).add j = ⟨g, j, none⟩ := by unfold Addr.add; split <;> simp_all
    rw [e, Arr.cell hg, hu]
  obtain ⟨v', w', r1, r2, r3, _, r4⟩ := run_append_own_at (P := Try.prog) w B 32 32 74 i _ 4 48 Try.underlying32 hi' hz' hs' hby rfl (by omega) v l.length (l.flatMap dirC) h ⟨g, 0, none⟩ 1 1 (dirC x) rfl hnews (dirC_one x) (by simp only [maxLen]; omega) (by omega) hB
  refine ⟨v', w', r1, ?_, r3⟩
  unfold DirO OwnS
  rw [List.length_append, List.flatMap_append]
  simpa using r2
theorem DirO.slice {B : Nat} {w : World} {v : Value} {l : List Dir} (h : DirO B w v l) : ∃ a c, v = .slice a l.length c ∧ l.length ≤ c ∧ c ≤ maxLen := by
  rcases h.form with ⟨rfl, rfl⟩ | ⟨g, cap, cur, e, hB, hA, h1, h2, _⟩
  · exact ⟨none, 0, rfl, Nat.le_refl _, by simp [maxLen]⟩
  · exact ⟨_, cap, e, h1, h2⟩
theorem filt_step {T : List Nd} {es : List Edg} {after : List UInt8} {k : Nat} (h : k < es.length) : ((es.take (k + 1)).filter fun e => lessB after e.key).map (dirOf T) = ((es.take k).filter fun e => lessB after e.key).map (dirOf T) ++ if lessB after es[k].key = true then [dirOf T es[k]] else [] := by
  rw [List.take_succ_eq_append_getElem h, List.filter_append, List.map_append]
  by_cases e : lessB after es[k].key = true
  · rw [if_pos e]; simp [e]
  · rw [if_neg e]; simp [e]
attribute [-go_sem] Go.Builtin.append_
set_option maxRecDepth 3000 in
set_option maxHeartbeats 4000000 in
theorem page_c (gt d : Nat) (after : List UInt8) (m : Int) (T : List Nd) (w : World) (h : TR w gt T) (ok : TOK T) (hd : d < T.length) (hm : 0 ≤ m) (ha : after.length ≤ 1000000) (hks : ∀ x ∈ (at' T d).edges, x.key.length ≤ 1000000) :
    Calls Try.prog 83 #[.pointer (some ⟨gt, 0, none⟩), .int .i64 d, str after, .int .i64 m] w fun e w' => ∃ v, e = .returned v ∧ DirO w.heap.size w' v (pageF T (at' T d).edges after m.toNat) ∧ Keep w w' := by
  obtain ⟨R, hR⟩ : ∃ R, R = pageF T (at' T d).edges after m.toNat := ⟨_, rfl⟩
  rw [← hR]
  have HTR := Hid.mk h
  have hfew := ok.few d hd
  have hedg := ok.edg d hd
  obtain ⟨bn, cap, c0, h1, h2, h3⟩ := h
  obtain ⟨dv, ev, -, -, -, -, -, -, n6, -, ea, ec, rfl, x1, x2, x3⟩ := h3 d hd
  have i1 : (d : Int) < T.length := by omega
  have i0 : (0 : Int) ≤ d := by omega
  unfold maxLen at h2 x2
  obtain ⟨es, hes⟩ : ∃ es, es = (at' T d).edges := ⟨_, rfl⟩
  rw [← hes] at x1 x3 hfew hedg hks n6 hR
  clear hes ok
  go_enter Try.func83, Try.ntmps83
  go_wp2_with fail
  go_loopg [9, 10] es.length (fun gk ov iv wr => ∃ (k : Nat) (out : List Dir), k + gk = es.length ∧ iv = .int .i64 k ∧ out = ((es.take k).filter fun e => lessB after e.key).map (dirOf T) ∧ out.length ≤ k ∧ (out.length : Int) ≤ m ∧ DirO w.heap.size wr ov out ∧ Keep w wr)
  case atStart => exact ⟨0, [], Nat.zero_add _, rfl, rfl, Nat.le_refl _, hm, OwnS.nil _ _ _ _ _, Keep.refl _⟩
  case round =>
    obtain ⟨k, out, hk, rfl, hout, hol, hom, oo, kw⟩ := hrel
    obtain ⟨oa, oc, hov, hoc, hom2⟩ := oo.slice
    subst hov
    unfold maxLen at hom2
    replace c0 := kw.cell c0
    replace n6 := kw.cell n6
    have hw := kw.size
    obtain ⟨W0, hW0⟩ : ∃ W0, W0 = wr := ⟨_, rfl⟩
    subst hW0
    by_cases hlt : k < es.length
    · have j1 : (k : Int) < es.length := by omega
      have j0 : (0 : Int) ≤ k := by omega
      by_cases hlm : (out.length : Int) < m
      · obtain ⟨g, rfl, y0, y1, y2⟩ := x3 k hlt
        replace y0 := kw.cell y0
        replace y1 := kw.cell y1
        replace y2 := kw.cell y2
        have ST := filt_step (T := T) (after := after) hlt
        rw [← hout] at ST
        have hkl := hks _ (List.getElem_mem hlt)
        have hnl := hedg _ (List.getElem_mem hlt)
        obtain ⟨ne1, ne2, m0, -⟩ := (h3 es[k].node hnl).keep kw
        have HST := Hid.mk ST
        have HOUT := Hid.mk hout
        clear ST hout x3 h3
        generalize hE : es[k] = E at *
        clear hE
        obtain ⟨ek, esl, en⟩ := E
        simp only [dirOf] at y0 y1 y2 HST hkl hnl m0
        have LC := fun W => less_c after ek W ha hkl
        have A0 : Arr (W0.alloc (.cells #[str ek, str esl, .int .i64 (en : Nat)] 102)) W0.heap.size 102 [str ek, str esl, .int .i64 (en : Nat)] := Arr.new W0 102 _
        have K0 := (Keep.refl W0).alloc (.cells #[str ek, str esl, .int .i64 (en : Nat)] 102)
        have e1 : (en : Int) < T.length := by omega
        have e0 : (0 : Int) ≤ en := by omega
        generalize hkd : (at' T en).kind = kd at *
        clear hkd
        go_wp2_with fail
        refine (LC _).mono ?_
        rintro e w1 ⟨rfl, k1⟩
        have K1 := K0.trans k1
        have A1 := A0.keep k1
        have b0 := A1.cell 0
        have b1 := A1.cell 1
        have b2 := A1.cell 2
        simp only [List.getElem?_cons_zero, List.getElem?_cons_succ] at b0 b1 b2
        cases hls : lessB after ek with
        | false =>
          rw [hls] at HST
          have HS2 : Hid (((es.take (k + 1)).filter fun e => lessB after e.key).map (dirOf T) = out) := Hid.mk (by have := HST.out; simpa using this)
          clear HST hls
          go_wp2_with fail
          go_roundg (gk - 1)
          case measure => omega
          case rel => exact ⟨k + 1, out, by omega, by go_num, HS2.out.symm, by omega, hom, oo.keep K1, kw.trans K1⟩
        | true =>
          rw [hls] at HST
          have HS2 : Hid (((es.take (k + 1)).filter fun e => lessB after e.key).map (dirOf T) = out ++ [⟨ek, esl, kd, en⟩]) := Hid.mk (by have := HST.out; simpa using this)
          have KX := ((Keep.refl w1).alloc (.cells #[str ek, str esl, .int .i64 (kd : Nat), .int .i64 (en : Nat)] 74)).drew
          obtain ⟨v', w5, hrun, own5, gr5⟩ := app_dir (oo.keep (K1.trans KX)) w1.heap.size ⟨ek, esl, kd, en⟩ (Go.Qm.Arr.drew (Arr.new w1 74 _)) (Nat.le_trans (kw.trans (K1.trans KX)).size (Nat.le_refl _)) (by omega)
          obtain ⟨va, vc, hv', -, -⟩ := own5.slice
          subst hv'
          have c1 := K1.cell c0
          have c1' := ((Keep.refl w1).alloc (.cells #[str ek, str esl, .int .i64 (kd : Nat), .int .i64 (en : Nat)] 74)).cell c1
          have m1 := K1.cell m0
          have hrun' : (Builtin.append_ #[32, 32] 32 #[.slice oa out.length oc, .slice (some ⟨w1.heap.size, 0, none⟩) 1 1]).run Try.prog (w1.alloc (.cells #[str ek, str esl, .int .i64 (kd : Nat), .int .i64 (en : Nat)] 74)).drew = .ok (.slice va (out ++ [(⟨ek, esl, kd, en⟩ : Dir)]).length vc) w5 := hrun
          rw [List.length_append, List.length_singleton] at hrun'
          have HO5 := Hid.mk own5
          have HK5 := Hid.mk ((kw.trans (K1.trans KX)).grown gr5 (fun q hq => (oo.lt q hq).1))
          clear HST hls hrun own5 gr5 KX c0 m0 n6 y0 y1 y2
          go_wp2_with fail
          go_region
          go_wp2_with fail
          go_roundg (gk - 1)
          case measure => omega
          case rel => exact ⟨k + 1, out ++ [⟨ek, esl, kd, en⟩], by omega, by go_num, HS2.out.symm, by simp; omega, by simp; omega, by have := HO5.out; rwa [List.length_append, List.length_singleton] at this, HK5.out⟩
      · have hlm' : ¬ (out.length : Int) < m := hlm
        have HF : Hid (R = out) := Hid.mk (by
          rw [hR, pageF]
          have h1 : m.toNat = out.length := by omega
          have h2 : (es.filter fun e => lessB after e.key).map (dirOf T) = out ++ ((es.drop k).filter fun e => lessB after e.key).map (dirOf T) := by
            rw [hout, ← List.map_append, ← List.filter_append, List.take_append_drop]
          rw [h2, h1, List.take_left])
        clear hout x3 h3 hR
        go_wp2_with fail
        go_ret
        exact ⟨_, rfl, by rw [HF.out]; exact oo, kw⟩
    · have j1 : ¬ (k : Int) < es.length := by omega
      have HF : Hid (R = out) := Hid.mk (by
        rw [List.take_of_length_le (by omega)] at hout
        rw [hR, pageF, ← hout, List.take_of_length_le (by omega)])
      clear hout x3 h3 hR
      go_wp2_with fail
      go_ret
      exact ⟨_, rfl, by rw [HF.out]; exact oo, kw⟩
end Go.Proofs.Qxb6500767a
