/- foldindex: build. -/
import Derived.Test.Qxb6500766aDd
import Derived.Test.Qxb6500766aDf
import Derived.Deep.RegionWith
namespace Go.Proofs.Qxb6500766a
open Go.RowKit Go.Qm
set_option linter.unusedVariables false
set_option linter.unusedSimpArgs false
attribute [local go_sem ↓] Go.wp_at_zero Go.wp_at_succ
def BldP (w : World) (gc : Nat) (src : Value) (sh : List Shelf) (ck : Int) (D : Dir) (e : Ending) (w' : World) : Prop :=
  ∃ b ss tl', e = .returned (.agg #[.slice (some ⟨b, 0, none⟩) ss.length ss.length, .int .i64 ((LiveL ss).length : Nat), .int .i64 (deadN ss : Nat)]) ∧ TabW w.heap.size w' b ss D ∧ Arr w' gc 75 (cacheL src sh tl') ∧ TlOK ck tl' ∧ w.grownBy w' (some gc)
/-- The lists of the layers, as far as they are read. -/
def LsI (w : World) (D : Dir) (k : Nat) (vl : List Value) (W : World) : Prop := vl.length = 8 ∧ ∀ l, l < k → ∃ v, vl[l]? = some v ∧ RawO w.heap.size W v (D l)
theorem LsI.set {w W W' : World} {D : Dir} {k gL : Nat} {vl : List Value} {t : TypeId} {cs : List Value} (h : LsI w D k vl W) (kp : Keep W W') (hk : k < 8) {v : Value} (hv : RawO w.heap.size W' v (D k)) (A : Arr W' gL 93 cs) : LsI w D (k + 1) (vl.set k v) (W'.setCell ⟨gL, k, none⟩ v) := by
  have tr : ∀ u rs, RawO w.heap.size W' u rs → RawO w.heap.size (W'.setCell ⟨gL, k, none⟩ v) u rs := fun u rs r => by
    refine r.fr (P := fun q => q = gL) ((Fr.refl (fun q => q = gL) W').setCell (p := ⟨gL, k, none⟩) (Or.inl rfl) v) (fun q hq e => ?_)
    subst e
    obtain ⟨cur, hc⟩ := r.arr hq
    exact absurd (hc.ty A) (by decide)
  refine ⟨by rw [List.length_set]; exact h.1, fun l hl => ?_⟩
  by_cases e : l = k
  · subst e
    exact ⟨v, List.getElem?_set_self (by rw [h.1]; exact hk), tr _ _ hv⟩
  · obtain ⟨u, hu, r⟩ := h.2 l (by omega)
    exact ⟨u, by rw [List.getElem?_set_ne (fun a => e a.symm)]; exact hu, tr _ _ (r.keep kp)⟩
theorem LsI.keep {w W W' : World} {D : Dir} {k : Nat} {vl : List Value} (h : LsI w D k vl W) (kp : Keep W W') : LsI w D k vl W' :=
  ⟨h.1, fun l hl => by obtain ⟨u, hu, r⟩ := h.2 l hl; exact ⟨u, hu, r.keep kp⟩⟩
theorem grown_setNew {a b : World} {row : Option Nat} {g : Nat} (h : a.grownBy b row) (hp : a.heap.size ≤ g) (i : Nat) (u : Value) : a.grownBy (b.setCell ⟨g, i, none⟩ u) row :=
  ⟨h.os, h.tape, h.output, by simpa using h.size, fun k hk hne => by rw [heap_setCell_other b ⟨g, i, none⟩ k u (by show k ≠ g; omega)]; exact h.block k hk hne⟩
set_option maxRecDepth 4000 in
set_option maxHeartbeats 4000000 in
theorem build_c (B gs gc d ck : Nat) (vs : List Value) (sh : List Shelf) (tl : List Value) (R : Sys) (w : World) (SW : StkW B w gs vs R) (hA : Arr w gc 75 (cacheL (.pointer (some ⟨gs, 0, none⟩)) sh tl)) (hl : sh.length = 16) (ht : TlOK ck tl) (hd : d < 24) :
    Calls Try.prog 61 #[.pointer (some ⟨gc, 0, none⟩), .int .i64 d] w fun e w' => BldP w gc (.pointer (some ⟨gs, 0, none⟩)) sh ck (R d) e w' := by
  have gcl := hA.lt
  have DK := SW.ok d hd
  have HL := Hid.mk hl
  have HT := Hid.mk ht
  have HDK := Hid.mk DK
  have LC := fun (l : Nat) (hl8 : l < 8) (W : World) (k : Keep w W) => (by
    obtain ⟨v, hv, r⟩ := SW.raw d l hd hl8
    exact list_c B gs d l v (R d l) W (k.cell ((SW.A.cell _).trans hv)) (r.keep k) hd hl8 (by have := DK.len l hl8; omega) : Calls Try.prog 33 #[.pointer (some ⟨gs, 0, none⟩), .int .i64 d, .int .i64 l] W fun e w' => ∃ v', e = .returned v' ∧ RawO W.heap.size w' v' (R d l) ∧ Keep W w')
  have HLC := Hid.mk LC
  clear hl ht DK LC
  generalize R d = D at *
  have A0 := Arr.new w 68 [.slice none 0 0, .int .i64 0, .int .i64 0]
  have K1 := ((Keep.refl w).alloc (.cells #[.slice none 0 0, .int .i64 0, .int .i64 0] 68)).alloc (.cells #[.slice none 0 0, .slice none 0 0, .slice none 0 0, .slice none 0 0, .slice none 0 0, .slice none 0 0, .slice none 0 0, .slice none 0 0] 93)
  have A1 := A0.keep ((Keep.refl _).alloc (.cells #[.slice none 0 0, .slice none 0 0, .slice none 0 0, .slice none 0 0, .slice none 0 0, .slice none 0 0, .slice none 0 0, .slice none 0 0] 93))
  have L1 := Arr.new (w.alloc (.cells #[.slice none 0 0, .int .i64 0, .int .i64 0] 68)) 93 [.slice none 0 0, .slice none 0 0, .slice none 0 0, .slice none 0 0, .slice none 0 0, .slice none 0 0, .slice none 0 0, .slice none 0 0]
  rw [show (w.alloc (.cells #[.slice none 0 0, .int .i64 0, .int .i64 0] 68)).heap.size = w.heap.size + 1 by simp] at L1
  have hgA : w.heap.size ≤ w.heap.size := Nat.le_refl _
  go_enter Try.func61, Try.ntmps61
  go_wp2_with fail
  generalize (w.alloc (.cells #[.slice none 0 0, .int .i64 0, .int .i64 0] 68)).alloc (.cells #[.slice none 0 0, .slice none 0 0, .slice none 0 0, .slice none 0 0, .slice none 0 0, .slice none 0 0, .slice none 0 0, .slice none 0 0] 93) = w1 at *
  clear A0
  obtain ⟨gL, hgL⟩ : ∃ g, g = w.heap.size + 1 := ⟨_, rfl⟩
  obtain ⟨gA, hgA2⟩ : ∃ g, g = w.heap.size := ⟨_, rfl⟩
  rw [← hgL] at L1 ⊢
  rw [← hgA2] at A1 ⊢
  have HGL := Hid.mk hgL
  have HGA := Hid.mk hgA2
  have h0 : LsI w D 0 [.slice none 0 0, .slice none 0 0, .slice none 0 0, .slice none 0 0, .slice none 0 0, .slice none 0 0, .slice none 0 0, .slice none 0 0] w1 := ⟨rfl, fun l hl => by omega⟩
  clear hgL hgA2 hgA
  go_loopg [6, 7] 8 (fun gk tv iv wr => ∃ (k tot : Nat) (vl : List Value), k + gk = 8 ∧ iv = .int .i64 k ∧ tv = .int .i64 tot ∧ tot ≤ k * 12 ∧ LsI w D k vl wr ∧ Arr wr gL 93 vl ∧ Arr wr gA 68 [.slice none 0 0, .int .i64 0, .int .i64 0] ∧ Keep w wr)
  case atStart => exact ⟨0, 0, _, by omega, rfl, rfl, by omega, h0, L1, A1, K1⟩
  case round =>
    obtain ⟨k, tot, vl, hk, rfl, rfl, htot, LI, AL, AA, kw⟩ := hrel
    have HK := Hid.mk hk
    clear hk
    have HLI := Hid.mk LI
    clear LI h0 L1 A1 K1
    have cs := kw.cell (Arr.src hA)
    by_cases hlt : k < 8
    · have i1 : (k : Int) < 8 := by omega
      go_wp2_with fail
      refine (HLC.out k hlt _ kw).mono ?_
      rintro e w2 ⟨v, rfl, ro, k2⟩
      obtain ⟨av, cv, rfl, hcv, hcm, hca⟩ := raw_read ro
      have HCA := Hid.mk hca
      clear hca
      have hlen := HDK.out.len k hlt
      have ve : ∃ u, w2.cell? ⟨gL, k, none⟩ = some u := ⟨vl[k]'(by rw [HLI.out.1]; exact hlt), (Go.Qm.Arr.cell (AL.keep k2) k).trans (List.getElem?_eq_getElem _)⟩
      obtain ⟨u, hu⟩ := ve
      have fz := Go.Qm.Arr.frozen (AL.keep k2) k
      have LI2 := LsI.set (t := 93) (gL := gL) HLI.out k2 hlt (ro.mono kw.size) (AL.keep k2)
      have HLI2 := Hid.mk LI2
      have AL2 := Go.Qm.Arr.set (AL.keep k2) k (.slice av (D k).length cv)
      have c2 := Go.Qm.Arr.cell AL2 k
      rw [List.getElem?_set_self (by rw [HLI.out.1]; exact hlt)] at c2
      have AA2 := (AA.keep k2).kept (grown_set (grown_refl w2 (some gL)) k (.slice av (D k).length cv)) (by have := HGL.out; have := HGA.out; omega)
      have KW2 := (kw.trans k2).setCell (p := ⟨gL, k, none⟩) (by have := HGL.out; show w.heap.size ≤ gL; omega) (.slice av (D k).length cv)
      clear LI2
      go_wp2_with fail
      go_roundg (gk - 1)
      case measure => have := HK.out; omega
      case rel => exact ⟨k + 1, tot + (D k).length, _, by have := HK.out; omega, by go_num, by go_num, by omega, HLI2.out, AL2, AA2, KW2⟩
    · have i1 : ¬ (k : Int) < 8 := by omega
      have k8 : k = 8 := by have := HK.out; omega
      subst k8
      go_wp2_with fail
      refine (newTable_c tot _ (by omega)).mono ?_
      rintro e w3 ⟨m, z, b, hsz, rfl, hb, S3, k3⟩
      have K3 := kw.trans k3
      have X0 := Arr.new w3 68 [.slice (some ⟨b, 0, none⟩) z z, .int .i64 0, .int .i64 0]
      have k4 := (Keep.refl w3).alloc (.cells #[.slice (some ⟨b, 0, none⟩) z z, .int .i64 0, .int .i64 0] 68)
      have BI0 : BI w gc gA gL w3.heap.size (.pointer (some ⟨gs, 0, none⟩)) sh ck D vl (partD D 0 0) (w3.alloc (.cells #[.slice (some ⟨b, 0, none⟩) z z, .int .i64 0, .int .i64 0] 68)) := by
        obtain ⟨hm3, hm20, _, hz⟩ := hsz
        obtain ⟨tv, hll, hdd⟩ := TV.new m hm3 hm20
        rw [← hz] at tv hll hdd
        refine ⟨⟨b, List.replicate z free, tl, ?_, ⟨S3.keep k4, tv, ?_, ?_, ?_, ?_⟩, hA.keep (K3.trans k4), HT.out⟩, AA.keep (k3.trans k4), AL.keep (k3.trans k4), fun l hl => ?_, keep_grown (K3.trans k4) _⟩
        · rw [hll, hdd, List.length_replicate]; exact X0
        · rw [hll]; exact Right.nil (part_start D)
        · intro s hs; rw [hll] at hs; simp at hs
        · rw [hll]; exact List.nodup_nil
        · exact Nat.le_trans kw.size hb
        · obtain ⟨v, hv, r⟩ := HLI.out.2 l hl
          exact ⟨v, hv, r.keep (k3.trans k4)⟩
      have ht1 : Hid (w.heap.size ≤ w3.heap.size ∧ w3.heap.size ≠ gA) := Hid.mk ⟨K3.size, by have a := AA.lt; have b := k3.size; omega⟩
      have hvl : Hid (vl.length = 8) := Hid.mk HLI.out.1
      have HG1 : Hid (gA ≠ gc) := Hid.mk (by have := HGA.out; omega)
      go_wp2_with fail
      generalize hW4 : w3.alloc (.cells #[.slice (some ⟨b, 0, none⟩) z z, .int .i64 0, .int .i64 0] 68) = w4 at *
      generalize hgt : w3.heap.size = gt at *
      have HW4 := Hid.mk hW4
      have HGT := Hid.mk hgt
      clear hW4 hgt X0 k4 S3 AL AA kw k3 K3 cs hb
      have PC := fun (l i : Nat) (hl : l < 8) (hi : i < (D l).length) (k : List UInt8) (hk : keyF (D l)[i].1 = some k) (W : World) (h : BI w gc gA gL gt (.pointer (some ⟨gs, 0, none⟩)) sh ck D vl (partD D l i) W) => BI.put h HL.out gcl ht1.out.1 ht1.out.2 HG1.out hl (x := (D l)[i]) (partD_ok HDK.out l i) hk (by rw [partD_at]; exact part_has (HDK.out.srt l hl) hi)
      have HPC := Hid.mk PC
      clear PC
      go_loopg [9] 8 (fun gk lv wr => ∃ l : Nat, l + gk = 8 ∧ lv = .int .i64 l ∧ BI w gc gA gL gt (.pointer (some ⟨gs, 0, none⟩)) sh ck D vl (partD D l 0) wr)
      case atStart => exact ⟨0, by omega, rfl, BI0⟩
      case round =>
        obtain ⟨l, hl8, rfl, BL⟩ := hrel
        have HL8 := Hid.mk hl8
        clear hl8 BI0
        by_cases hll : l < 8
        · have l1 : (l : Int) < 8 := by omega
          obtain ⟨vL, hvL, rL⟩ := BL.raw l hll
          obtain ⟨aL, cL, rfl, hcL, hcmL, hcaL⟩ := raw_read rL
          have hlen := HDK.out.len l hll
          have HVL := Hid.mk hvL
          clear hvL hcaL rL
          go_wp2_with fail
          obtain ⟨W0, hW0⟩ : ∃ W, W = wr := ⟨_, rfl⟩
          subst hW0
          obtain ⟨gO, hgO⟩ : ∃ g, g = gk := ⟨_, rfl⟩
          subst hgO
          obtain ⟨nL, hnL⟩ : ∃ n, n = (D l).length := ⟨_, rfl⟩
          rw [← hnL] at hlen hcL HVL
          have HNL := Hid.mk hnL
          clear hnL
          go_loopg [10] nL (fun gk iv wx => ∃ i : Nat, i + gk = nL ∧ iv = .int .i64 i ∧ BI w gc gA gL gt (.pointer (some ⟨gs, 0, none⟩)) sh ck D vl (partD D l i) wx)
          case atStart => exact ⟨0, by omega, rfl, BL⟩
          case round =>
            obtain ⟨i, hi8, rfl, BX⟩ := hrel
            have HI8 := Hid.mk hi8
            clear hi8 BL
            have xL := (Go.Qm.Arr.cell BX.AL l).trans HVL.out
            by_cases hin : i < nL
            · have j1 : (i : Int) < nL := by omega
              have hiD : i < (D l).length := by have := HNL.out; omega
              obtain ⟨vX, hvX, rX⟩ := BX.raw l hll
              have ev : vX = .slice aL nL cL := by have := hvX.symm.trans HVL.out; exact Option.some.inj this
              subst ev
              obtain ⟨aX, cX, evX, _, _, hcaX⟩ := raw_read rX
              simp only [Value.slice.injEq] at evX
              obtain ⟨rfl, _, rfl⟩ := evX
              obtain ⟨gX, rfl, _, hcX⟩ := hcaX i hiD
              obtain ⟨x0, x1⟩ := hcX wr rfl
              clear hcX hcaX hvX rX
              have KC := fun W => key_c (D l)[i].1 W (HDK.out.nm l hll _ (List.getElem_mem hiD))
              have PCi := HPC.out l i hll hiD
              have SK := fun (hk : keyF (D l)[i].1 = none) W (h : BI w gc gA gL gt (.pointer (some ⟨gs, 0, none⟩)) sh ck D vl (partD D l i) W) => (BI.skip h hll (x := (D l)[i]) hk).congr (part_upd (HDK.out.srt l hll) hiD)
              have UP := part_upd (i := i) (HDK.out.srt l hll) hiD
              have HKC := Hid.mk KC
              have HPCi := Hid.mk PCi
              have HSK := Hid.mk SK
              have HUP := Hid.mk UP
              clear KC PCi SK UP
              generalize (D l)[i] = X at *
              obtain ⟨xn, xk⟩ := X
              simp only at x0 x1 HKC HPCi HSK
              have B1 := BX.keep ((Keep.refl wr).alloc (.cells #[str xn, .int .i64 xk] 62))
              have X1 := Arr.new wr 62 [str xn, .int .i64 xk]
              go_wp2_with fail
              generalize hW1 : wr.alloc (.cells #[str xn, .int .i64 xk] 62) = w5 at *
              clear hW1
              refine (HKC.out _).mono ?_
              rintro e w6 ⟨hk, k6⟩
              have B6 := B1.keep k6
              have X6 := X1.keep k6
              have q0 := Go.Qm.Arr.cell X6 0
              have q1 := Go.Qm.Arr.cell X6 1
              simp only [List.getElem?_cons_zero, List.getElem?_cons_succ] at q0 q1
              generalize wr.heap.size = gR at *
              rcases hk with ⟨hK, rfl⟩ | ⟨k, hK, rfl⟩
              · have HN := Hid.mk (HSK.out hK _ B6)
                clear hK
                go_wp2_with fail
                go_roundg (gk - 1)
                case measure => have := HI8.out; omega
                case rel => exact ⟨i + 1, by have := HI8.out; omega, by go_num, HN.out⟩
              · have PK := HPCi.out k hK
                have HPK := Hid.mk PK
                clear PK hK
                go_wp2_with fail
                go_region_with (go_at_call 46; refine (HPK.out _ (B6.keep ((Keep.refl _).drew))).mono ?_; rintro e w7 ⟨rfl, B7⟩)
                all_goals
                  go_wp2_with fail
                  go_roundg (gk - 1)
                  case measure => have := HI8.out; omega
                  case rel => exact ⟨i + 1, by have := HI8.out; omega, by go_num, B7.congr HUP.out⟩
            · have j1 : ¬ (i : Int) < nL := by omega
              have hin2 : i = nL := by have := HI8.out; omega
              have B9 := BX
              rw [hin2, HNL.out] at B9
              have B8 := Hid.mk (B9.congr (part_next D l))
              clear hin2 B9
              go_wp2_with fail
              go_roundg (gO - 1)
              case measure => have := HL8.out; omega
              case rel => exact ⟨l + 1, by have := HL8.out; omega, by go_num, B8.out⟩
        · have l1 : ¬ (l : Int) < 8 := by omega
          have l8 : l = 8 := by have := HL8.out; omega
          rw [l8] at BL
          have BE := BL.congr (part_end D)
          clear BL
          obtain ⟨b', ss, tl', aT, TW, AC, tK⟩ := BE.ex
          obtain ⟨y0, y1, y2, y3, y4, y5, rfl⟩ := tK
          have cB := Arr.tl AC HL.out 1
          have fB := Go.Qm.Arr.frozen AC (97 + 1)
          have AS := Arr.tlSet AC HL.out 1 (.int .i64 (wrap64 (y0 + 1)))
          simp only [tlL, List.getElem?_cons_zero, List.getElem?_cons_succ, List.set_cons_zero, List.set_cons_succ, Nat.reduceAdd] at cB fB AS
          have gr := grown_set BE.gr 98 (.int .i64 (wrap64 (y0 + 1)))
          have gr1 := grown_set (grown_refl wr (some gc)) 98 (.int .i64 (wrap64 (y0 + 1)))
          have TW1 := TW.fr (grown_fr gr1) (fun q hq a => TW.out AC (by decide) (by decide) (by rw [← a]; exact hq))
          have AT1 := aT.kept gr1 (by have := ht1.out.1; omega)
          have AA1 := BE.AA.kept gr1 HG1.out
          have c0 := Go.Qm.Arr.cell AT1 0
          have c1 := Go.Qm.Arr.cell AT1 1
          have c2 := Go.Qm.Arr.cell AT1 2
          have e0 := Go.Qm.Arr.cell AA1 0
          have e1 := Go.Qm.Arr.cell AA1 1
          have e2 := Go.Qm.Arr.cell AA1 2
          have f0 := Go.Qm.Arr.frozen AA1 0
          have f1 := Go.Qm.Arr.frozen AA1 1
          have f2 := Go.Qm.Arr.frozen AA1 2
          simp only [List.getElem?_cons_zero, List.getElem?_cons_succ] at c0 c1 c2 e0 e1 e2
          clear BE l8
          have HAS := Hid.mk AS
          have HTW := Hid.mk TW1
          clear AS TW1 TW AC aT
          have hgA1 : w.heap.size ≤ gA := by have := HGA.out; omega
          have GG := grown_setNew (grown_setNew (grown_setNew gr hgA1 0 (.slice (some ⟨b', 0, none⟩) ss.length ss.length)) hgA1 1 (.int .i64 ((LiveL ss).length : Nat))) hgA1 2 (.int .i64 (deadN ss : Nat))
          have GA := grown_set (grown_set (grown_set (grown_refl (wr.setCell ⟨gc, 98, none⟩ (.int .i64 (wrap64 (y0 + 1)))) (some gA)) 0 (.slice (some ⟨b', 0, none⟩) ss.length ss.length)) 1 (.int .i64 ((LiveL ss).length : Nat))) 2 (.int .i64 (deadN ss : Nat))
          have AZ := ((Go.Qm.Arr.set AA1 0 (.slice (some ⟨b', 0, none⟩) ss.length ss.length)).set 1 (.int .i64 ((LiveL ss).length : Nat))).set 2 (.int .i64 (deadN ss : Nat))
          have HTW2 := Hid.mk (HTW.out.fr (grown_fr GA) (fun q hq a => HTW.out.out AA1 (by decide) (by decide) (by rw [← a]; exact hq)))
          have HAS2 := Hid.mk (Go.Qm.Arr.kept HAS.out GA (by have := HG1.out; omega))
          clear GA AA1
          go_wp2_with fail
          have q0 := Go.Qm.Arr.cell AZ 0
          have q1 := Go.Qm.Arr.cell AZ 1
          have q2 := Go.Qm.Arr.cell AZ 2
          simp only [List.set_cons_zero, List.set_cons_succ, List.getElem?_cons_zero, List.getElem?_cons_succ] at q0 q1 q2
          refine bodyPost_ret (v := .agg #[.slice (some ⟨b', 0, none⟩) ss.length ss.length, .int .i64 ((LiveL ss).length : Nat), .int .i64 (deadN ss : Nat)]) (by simp [results, Try.results61, go_sem, q0, q1, q2]) rfl ⟨b', ss, _, rfl, HTW2.out, HAS2.out, ⟨_, y1, y2, y3, y4, y5, rfl⟩, GG⟩
end Go.Proofs.Qxb6500766a
