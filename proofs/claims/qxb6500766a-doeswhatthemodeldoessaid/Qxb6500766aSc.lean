/- foldindexlaw: scan. -/
import Derived.Test.Qxb6500766aNw
import Derived.Deep.RegionHeld3
import Derived.Deep.AppendLies
namespace Go.Proofs.Qxb6500766a
open Go.RowKit Go.Qm
set_option linter.unusedVariables false
set_option linter.unusedSimpArgs false
attribute [local go_sem ↓] Go.wp_at_zero Go.wp_at_succ
theorem bearL_take {l : Nat} {rs : List RawE} {k : List UInt8} {i : Nat} (hi : i < rs.length) : bearL l (rs.take (i + 1)) k = bearL l (rs.take i) k ++ (if keyF rs[i].1 = some k then [mkE l rs[i]] else []) := by
  unfold bearL
  rw [List.take_succ_eq_append_getElem hi, List.filter_append, List.map_append]
  congr 1
  by_cases h : keyF rs[i].1 = some k
  · rw [if_pos h]; simp [h]
  · rw [if_neg h]; simp [h]
theorem pre_succ (D : Dir) (l : Nat) (k : List UInt8) : pre D (l + 1) k = pre D l k ++ bearL l (D l) k := by
  unfold pre
  rw [List.range_succ, List.flatMap_append, List.flatMap_cons, List.flatMap_nil, List.append_nil]
theorem pre_8 (D : Dir) (k : List UInt8) : pre D 8 k = bear D k := rfl
theorem pre_le {D : Dir} (h : ∀ l, l < 8 → (D l).length ≤ 12) {l : Nat} (hl : l ≤ 8) (k : List UInt8) : (pre D l k).length ≤ l * 12 := by
  have := flatLe (fun l => bearL l (D l) k) 12 (List.range l) (fun i hi => by
    unfold bearL
    rw [List.length_map]
    exact Nat.le_trans (List.length_filter_le _ _) (h i (by have := List.mem_range.1 hi; omega)))
  simpa [pre] using this
def ScanP (w : World) (es : List Ent) (e : Ending) (w' : World) : Prop := ∃ v, e = .returned v ∧ EntO w.heap.size w' v es ∧ Keep w w'
set_option maxRecDepth 4000 in
set_option maxHeartbeats 4000000 in
theorem scan_c {B : Nat} {w : World} {gs : Nat} {vs : List Value} {R : Sys} (d : Nat) (key : List UInt8) (SW : StkW B w gs vs R) (hd : d < 24) :
    Calls Try.prog 12 #[.pointer (some ⟨gs, 0, none⟩), .int .i64 d, str key] w fun e w' => ScanP w (bear (R d) key) e w' := by
  have DK := SW.ok d hd
  have HDK := Hid.mk DK
  have LC := fun (l : Nat) (hl8 : l < 8) (W : World) (k : Keep w W) => (by
    obtain ⟨v, hv, r⟩ := SW.raw d l hd hl8
    exact list_c B gs d l v (R d l) W (k.cell ((SW.A.cell _).trans hv)) (r.keep k) hd hl8 (by have := DK.len l hl8; omega) : Calls Try.prog 33 #[.pointer (some ⟨gs, 0, none⟩), .int .i64 d, .int .i64 l] W fun e w' => ∃ v', e = .returned v' ∧ RawO W.heap.size w' v' (R d l) ∧ Keep W w')
  have HLC := Hid.mk LC
  clear DK LC
  generalize R d = D at *
  obtain ⟨i64, hi64, hz64, hs64, hb64⟩ := info_parts inf64
  go_enter Try.func12, Try.ntmps12
  go_wp2_with fail
  go_loopg [7, 8] 8 (fun gk ov lv wr => ∃ l : Nat, l + gk = 8 ∧ lv = .int .i64 l ∧ EntO w.heap.size wr ov (pre D l key) ∧ Keep w wr)
  case atStart => exact ⟨0, by omega, rfl, OwnS.nil _ _ _ _ _, Keep.refl _⟩
  case round =>
    obtain ⟨l, hl8, rfl, ow, kw⟩ := hrel
    have HL8 := Hid.mk hl8
    clear hl8
    by_cases hll : l < 8
    · have l1 : (l : Int) < 8 := by omega
      have hpl := pre_le HDK.out.len (l := l) (by omega) key
      have hlen := HDK.out.len l hll
      have HPS := Hid.mk (pre_succ D l key)
      have HBT : Hid (∀ i (hi : i < (D l).length), bearL l ((D l).take (i + 1)) key = bearL l ((D l).take i) key ++ (if keyF (D l)[i].1 = some key then [mkE l (D l)[i]] else [])) := Hid.mk (fun i hi => bearL_take hi)
      have HNM := Hid.mk (fun i (hi : i < (D l).length) => HDK.out.nm l hll _ (List.getElem_mem hi))
      have HBL : Hid (∀ i, (bearL l ((D l).take i) key).length ≤ 12) := Hid.mk (fun i => by
        unfold bearL
        rw [List.length_map]
        refine Nat.le_trans (List.length_filter_le _ _) ?_
        rw [List.length_take]
        omega)
      have HB0 : Hid (pre D l key ++ bearL l ((D l).take 0) key = pre D l key) := Hid.mk (by simp [bearL])
      have LC := HLC.out l hll wr kw
      generalize pre D l key = es0 at *
      go_wp2_with fail
      refine LC.mono ?_
      rintro e w2 ⟨v, rfl, ro, k2⟩
      generalize hrs : D l = rs at *
      have HRS := Hid.mk hrs
      clear hrs
      obtain ⟨aL, cL, rfl, hcL, hcmL, hcaL⟩ := raw_read ro
      have HCA := Hid.mk hcaL
      have HRO := Hid.mk ro
      clear hcaL ro LC
      have ow2 := ow.keep k2
      have kw2 := kw.trans k2
      obtain ⟨nL, hnL⟩ : ∃ n, n = rs.length := ⟨_, rfl⟩
      rw [← hnL] at hcL ⊢
      have HNL := Hid.mk hnL
      clear hnL
      go_wp2_with fail
      obtain ⟨gO, hgO⟩ : ∃ g, g = gk := ⟨_, rfl⟩
      subst hgO
      go_loopg [7, 10] nL (fun gk ov iv wx => ∃ (i : Nat) (vO : Value), i + gk = nL ∧ iv = .int .i64 i ∧ ov = vO ∧ EntO w.heap.size wx vO (es0 ++ bearL l (rs.take i) key) ∧ Keep w wx ∧ ∀ q, (Value.slice aL nL cL).ownBlock = some q → q < w2.heap.size → wx.heap[q]? = w2.heap[q]?)
      case atStart => exact ⟨0, _, by omega, rfl, rfl, by rw [HB0.out]; exact ow2, kw2, fun _ _ _ => rfl⟩
      case round =>
        obtain ⟨i, vO, hi8, rfl, hvO, oX, kX, kY⟩ := hrel
        have hvO := hvO.symm
        subst hvO
        have HI8 := Hid.mk hi8
        clear hi8 ow ow2
        by_cases hin : i < nL
        · have j1 : (i : Int) < nL := by omega
          have hiD : i < rs.length := by have := HNL.out; omega
          obtain ⟨gX, rfl, hgX, hcX⟩ := HCA.out i hiD
          have hbX := kY gX rfl hgX
          have hgXr : gX < wr.heap.size := by
            rw [Array.getElem?_eq_getElem hgX] at hbX
            exact blk_lt hbX
          obtain ⟨x0, x1⟩ := hcX wr hbX
          have KC := fun W => key_c rs[i].1 W (HNM.out i hiD)
          have HKC := Hid.mk KC
          have HBI := Hid.mk (HBT.out i hiD)
          have HCX := Hid.mk hcX
          have hbl := HBL.out i
          obtain ⟨cX, hcurX⟩ := HRO.out.arr (q := gX) rfl
          have HAX := Hid.mk hcurX
          clear hcX KC hcurX
          generalize rs[i] = X at *
          obtain ⟨xn, xk⟩ := X
          simp only at x0 x1 HKC HBI HCX
          go_wp2_with fail
          refine (HKC.out _).mono ?_
          rintro e w6 ⟨hk, k6⟩
          have o6 := oX.keep k6
          have kX6 := kX.trans k6
          have kY6 : w6.heap[gX]? = w2.heap[gX]? := (k6.block gX hgXr).trans hbX
          have HKY6 : Hid (∀ q, (Value.slice (some ⟨gX, 0, none⟩) nL cL).ownBlock = some q → q < w2.heap.size → w6.heap[q]? = w2.heap[q]?) := Hid.mk (fun q hq _ => by cases hq; exact kY6)
          clear kY
          have y0 := k6.cell x0
          have y1 := k6.cell x1
          generalize bearL l (rs.take i) key = bs at *
          rcases hk with ⟨hK, rfl⟩ | ⟨k', hK, rfl⟩
          · have HN : Hid (es0 ++ bearL l (rs.take (i + 1)) key = es0 ++ bs) := Hid.mk (by rw [HBI.out, if_neg (by rw [hK]; simp), List.append_nil])
            clear hK x0 x1
            go_wp2_with fail
            go_roundg (gk - 1)
            case measure => have := HI8.out; omega
            case rel => exact ⟨i + 1, _, by have := HI8.out; omega, by go_num, rfl, by rw [HN.out]; exact o6, kX6, HKY6.out⟩
          · by_cases hkk : k' = key
            · have tk : (k' == key) = true := by simpa using hkk
              have HN : Hid (es0 ++ bearL l (rs.take (i + 1)) key = (es0 ++ bs) ++ [mkE l (xn, xk)]) := Hid.mk (by rw [HBI.out, if_pos (by rw [hK, hkk]), List.append_assoc])
              have hln : (es0 ++ bs).length ≤ 108 := by rw [List.length_append]; omega
              clear hK hkk x0 x1
              generalize es0 ++ bs = ES at *
              have gXne : Hid (∀ q, vO.ownBlock = some q → q ≠ gX) := Hid.mk (fun q hq e => by
                rw [e] at hq
                obtain ⟨c2, h2⟩ := o6.arr hq
                exact absurd (h2.ty (kY6.trans HAX.out : Arr w6 gX 62 cX)) (by decide))
              have hXl : gX < w6.heap.size := Nat.lt_of_lt_of_le hgXr k6.size
              have HGX : Hid (∀ X w1 : World, X.grownBy w1 vO.ownBlock → Keep w6 X → w1.heap[gX]? = w2.heap[gX]?) := Hid.mk (fun X w1 g k => (g.block gX (Nat.lt_of_lt_of_le hXl k.size) (fun e => gXne.out gX e.symm rfl)).trans ((k.block gX hXl).trans kY6))
              have o7 : w6.ownsRow w.heap.size 64 3 vO ES.length (ES.flatMap entC) := o6
              have hws := kX6.size
              go_wp2_with fail
              go_region_held3 (fun w' => w'.cell? ⟨gX, i * 2, none⟩ = some (str xn) ∧ w'.cell? ⟨gX, i * 2 + 1, none⟩ = some (.int .i64 xk))
                (first | go_keep | exact HCX.out _ (HGX.out _ _ hgrow (by first | exact ((Keep.refl w6).drew.alloc _) | exact ((Keep.refl w6).alloc _).drew)))
                ((refine step_append_lies _ (by rfl) _ _ _ (by rfl) w.heap.size 64 i64 _ 3 32 Try.underlying27 hi64 hz64 hs64 hb64 rfl (by omega) vO ES.length (ES.flatMap entC) (by rfl) ((o7.alloc _).drew) ⟨w6.heap.size, 0, none⟩ 1 1 [.int .i64 (l : Int), str xn, .int .i64 xk] (by rfl) (by rfl) (World.news_of_block (cs := #[.int .i64 (l : Int), str xn, .int .i64 xk]) (t := 64) (fr := (0, 0)) (heap_alloc_new w6 _)) (by simp [Value.oneCell']) (by omega) (by simp only [maxLen]; omega) (by omega) (by simp; omega) (w6.heap.size + 1) (by simp) ?_; intro gN cN w7 hown7 hgrow hat hlt))
              have OZ : EntO w.heap.size w7 (.slice (some ⟨gN, 0, none⟩) (ES.length + 1) cN) (ES ++ [mkE l (xn, xk)]) := by
                unfold EntO OwnS
                rw [List.length_append, List.flatMap_append]
                simpa [entC, mkE] using hown7
              have kZ := ((Keep.refl w6).alloc (.cells #[.int .i64 (l : Int), str xn, .int .i64 xk] 64)).drew
              have KX7 := Keep.grown (kX6.trans kZ) hgrow (fun q hq => (o6.lt q hq).1)
              have KY7 : ∀ q, (Value.slice (some ⟨gX, 0, none⟩) nL cL).ownBlock = some q → q < w2.heap.size → w7.heap[q]? = w2.heap[q]? := fun q hq _ => (by cases hq; exact HGX.out _ _ hgrow kZ)
              go_wp2_with fail
              go_roundg (gk - 1)
              case measure => have := HI8.out; omega
              case rel => exact ⟨i + 1, _, by have := HI8.out; omega, by go_num, rfl, by rw [HN.out]; exact OZ, KX7, KY7⟩
            · have tk : (k' == key) = false := by simpa using hkk
              have HN : Hid (es0 ++ bearL l (rs.take (i + 1)) key = es0 ++ bs) := Hid.mk (by rw [HBI.out, if_neg (by rw [hK]; intro e; exact hkk (Option.some.inj e)), List.append_nil])
              clear hK hkk x0 x1
              go_wp2_with fail
              go_roundg (gk - 1)
              case measure => have := HI8.out; omega
              case rel => exact ⟨i + 1, _, by have := HI8.out; omega, by go_num, rfl, by rw [HN.out]; exact o6, kX6, HKY6.out⟩
        · have j1 : ¬ (i : Int) < nL := by omega
          have hin2 : i = nL := by have := HI8.out; omega
          have HN : Hid (pre D (l + 1) key = es0 ++ bearL l (rs.take i) key) := Hid.mk (by rw [HPS.out, hin2, HNL.out, List.take_length])
          clear hin2
          go_wp2_with fail
          go_roundg (gO - 1)
          case measure => have := HL8.out; omega
          case rel => exact ⟨l + 1, by have := HL8.out; omega, by go_num, by rw [HN.out]; exact oX, kX⟩
    · have l1 : ¬ (l : Int) < 8 := by omega
      have l8 : l = 8 := by have := HL8.out; omega
      rw [l8, pre_8] at ow
      clear l8
      go_wp2_with fail
      go_ret
      exact ⟨_, rfl, ow, kw⟩
end Go.Proofs.Qxb6500766a
