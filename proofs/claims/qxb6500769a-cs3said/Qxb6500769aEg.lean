/- (*modes.CMAC).Sum. -/
import Derived.Test.Qxb6500769aEf
import Derived.Deep.MidRow
namespace Go.Proofs.Qxb6500769a
open Go.RowKit Go.Qm
set_option linter.unusedVariables false
set_option linter.unusedSimpArgs false
attribute [local go_sem ↓] Go.wp_at_zero Go.wp_at_succ

theorem s62 : (Try.prog.info? 62).map (·.size) = some 16 := by kernel_rfl
/-- The last block as Sum makes it: the first n octets of H into L. -/
def hk16 (L H : List UInt8) : Nat → List UInt8
  | 0 => L
  | i + 1 => (hk16 L H i).set i ((hk16 L H i).getD i 0 ^^^ H.getD i 0)
def lst0 (X : List UInt8) (n : Nat) : List UInt8 := if n < 16 then X.set n (X.getD n 0 ^^^ 128) else X
/-- What Sum enciphers. -/
def sumIn (K1 K2 X H : List UInt8) (n : Nat) : List UInt8 := xk (xk (lst0 X n) H n) (if n < 16 then K2 else K1) 16
theorem lst0_length (X : List UInt8) (n : Nat) : (lst0 X n).length = X.length := by unfold lst0; split <;> simp
theorem sumIn_length (K1 K2 X H : List UInt8) (n : Nat) : (sumIn K1 K2 X H n).length = X.length := by unfold sumIn; rw [xk_length, xk_length, lst0_length]
theorem cell_grownO {w w' : World} {row : Option Nat} {gs os : Nat} {v : Value} (h : w.cell? ⟨gs, os, none⟩ = some v) (hg : w.grownBy w' row) (hne : row ≠ some gs) : w'.cell? ⟨gs, os, none⟩ = some v := by
  have hlt : gs < w.heap.size := by
    by_cases hlt : gs < w.heap.size
    · exact hlt
    · exfalso
      unfold World.cell? at h
      have : w.heap[gs]? = none := by simp; omega
      simp [this] at h
  have e : w'.heap[gs]? = w.heap[gs]? := hg.block gs hlt (by simpa using fun e => hne e.symm)
  unfold World.cell? at *
  simp only [e]
  exact h
set_option maxRecDepth 2000 in
set_option maxHeartbeats 4000000 in
theorem csum_c (g B : Nat) (al : Int) (ka : Option Addr) (kn kc : Nat) (key : List UInt8) (f : List UInt8 → List UInt8) (K1 K2 X H : List UInt8) (n : Nat) (dv : Value) (w : World)
    (hE : Enc al (.slice ka kn kc) key f) (h1 : K1.length = 16) (h2 : K2.length = 16) (h3 : X.length = 16) (h4 : H.length = 16) (hn : n ≤ 16) (hA : Arr w g 64 (CM al (.slice ka kn kc) K1 K2 X H n))
    (hk : Bs w (.slice ka kn kc) key) (hd : Own B 5 w dv (([] : List UInt8).map cb)) (hB : B ≤ w.heap.size) (hgB : g < B) :
    Calls Try.prog 38 #[.pointer (some ⟨g, 0, none⟩), dv] w fun e w' => ∃ v', e = .returned v' ∧ Own B 5 w' v' ((f (sumIn K1 K2 X H n)).map cb) ∧ w.grownBy w' dv.ownBlock := by
  obtain ⟨hfl, hE⟩ := hE
  have HK1 := Hid.mk h1
  have HK2 := Hid.mk h2
  have HX := Hid.mk h3
  have HH := Hid.mk h4
  have HFl : Hid ((f (sumIn K1 K2 X H n)).length = 16) := Hid.mk (hfl _ (by rw [sumIn_length]; exact h3))
  have HSl : Hid ((sumIn K1 K2 X H n).length = 16) := Hid.mk (by rw [sumIn_length]; exact h3)
  clear h1 h2 h3 h4
  have c66 := hA.cell 66
  rw [CM_n HK1.out HK2.out HX.out HH.out] at c66
  have hg := hA.lt
  obtain ⟨Y, hY⟩ : ∃ Y, Y = Z16.map cb := ⟨_, rfl⟩
  have hz62 := z62
  rw [← hY] at hz62
  have HZ62 := Hid.mk hz62
  have HYl : Hid (Y.length = 16) := Hid.mk (by rw [hY]; simp [Z16])
  clear hz62 hY
  obtain ⟨XC, hXC⟩ : ∃ XC, XC = X.map cb := ⟨_, rfl⟩
  have HXCl : Hid (XC.length = 16) := Hid.mk (by rw [hXC, List.length_map]; exact HX.out)
  have HXCo : Hid (XC.toArray.all (·.oneCell') = true) := Hid.mk (by rw [hXC]; simp [cb, Value.oneCell'])
  have RX : w.rangeAt g 34 XC := by
    intro j v hv
    rw [hXC] at hv
    have hj : j < 16 := by
      have := (List.getElem?_eq_some_iff.1 hv).1
      rw [List.length_map, HX.out] at this
      exact this
    rw [hA.cell (34 + j), CM_xi HK1.out HK2.out HX.out hj]
    rw [List.getElem?_map, List.getElem?_eq_getElem (by rw [HX.out]; exact hj)] at hv
    simp [cb, HX.out, hj] at hv ⊢
    exact hv
  have W2 : Win ((w.alloc (.cells Y.toArray 62)).setRow w.heap.size XC.toArray) w.heap.size 62 [] X [] := Win.of_arr ((Arr.new w 62 Y).row XC) (by rw [hXC]; simp)
  have K2' : Keep w ((w.alloc (.cells Y.toArray 62)).setRow w.heap.size XC.toArray) := ((Keep.refl w).alloc _).setRow (Nat.le_refl _) _
  clear hXC
  go_enter Try.func38, Try.ntmps38
  go_upto_region 2 with (first
    | (refine wpList_load_mid (by rfl) 62 (.tmp 11) (by rfl) g 34 (by rfl) XC _ RX Try.underlying62 rfl (by rw [HXCl.out]; exact s62) ?_)
    | (refine wpList_alloc_z (by rfl) 62 (by rfl) Y HZ62.out ?_)
    | (refine wpList_store_row (by rfl) 62 (.tmp 5) (.tmp 12) (by rfl) w.heap.size XC.toArray (by rfl) (by rfl) 62 _ (Arr.new w 62 Y) (by rw [List.size_toArray, HXCl.out]; exact s62) (by rw [List.size_toArray, List.size_toArray, HXCl.out, HYl.out]) HXCo.out ?_))
  generalize (w.alloc (.cells Y.toArray 62)).setRow w.heap.size XC.toArray = w2 at *
  have c66' := K2'.cell c66
  obtain ⟨g5, hg5⟩ : ∃ g5, g5 = w.heap.size := ⟨_, rfl⟩
  rw [← hg5] at W2
  try rw [← hg5]
  have hle : w.heap.size ≤ g5 := by omega
  clear hg5
  go_upto_if 20 with fail
  go_cut [6] from 9 to 72 (fun mv wx => ∃ mo, mv = .pointer (some ⟨g, mo, none⟩) ∧ (∀ i, i < 16 → (CM al (.slice ka kn kc) K1 K2 X H n)[mo + i]? = some (.int .u8 ((if n < 16 then K2 else K1).getD i 0).toNat)) ∧ Win wx g5 62 [] (lst0 X n) [] ∧ Keep w wx)
  case first => as_aux_lemma =>
    by_cases hlt : n < 16
    · have hlt' : (n : Int) < 16 := by omega
      have cn : w2.cell? ⟨g5, n, none⟩ = some (.int .u8 (X.getD n 0).toNat) := by
        rw [W2.cell (k := n) (o := n) (by rw [HX.out]; exact hlt) (by simp), List.getD_eq_getElem?_getD, List.getElem?_eq_getElem (by rw [HX.out]; exact hlt)]
        rfl
      have fz := W2.frozen n
      have hset := W2.set (k := n) (by rw [HX.out]; exact hlt) (X.getD n 0 ^^^ 128) (o := n) (by simp)
      have xx : bits .xor .u8 ((X.getD n 0).toNat : Int) 128 = ((X.getD n 0 ^^^ 128).toNat : Int) := bits_xor8 _ 128
      have EL : Hid (lst0 X n = X.set n (X.getD n 0 ^^^ 128)) := Hid.mk (by unfold lst0; rw [if_pos hlt])
      have HS := Hid.mk hset
      clear hset
      generalize X.getD n 0 ^^^ 128 = z at *
      generalize X.getD n 0 = x at *
      go_wp2_with fail
      go_meet
      case rel =>
        refine ⟨18, rfl, fun i hi => by rw [CM_k2i HK1.out HK2.out hi, if_pos hlt], by rw [EL.out]; exact HS.out, K2'.setCell hle _⟩
    · have hlt' : ¬ (n : Int) < 16 := by omega
      have EL : Hid (lst0 X n = X) := Hid.mk (by unfold lst0; rw [if_neg hlt])
      go_wp2_with fail
      go_meet
      case rel =>
        refine ⟨2, rfl, fun i hi => by rw [CM_k1i HK1.out hi, if_neg hlt], by rw [EL.out]; exact W2, K2'⟩
  case rest => as_aux_lemma =>
    clear W2 K2' c66' RX
    obtain ⟨mo, rfl, hmo, W3, K3⟩ := hcut
    have HLl : Hid ((lst0 X n).length = 16) := Hid.mk (by rw [lst0_length]; exact HX.out)
    obtain ⟨L, hL⟩ : ∃ L, L = lst0 X n := ⟨_, rfl⟩
    rw [← hL] at W3 HLl
    obtain ⟨M, hM⟩ : ∃ M, M = (if n < 16 then K2 else K1) := ⟨_, rfl⟩
    rw [← hM] at hmo
    have HSI : Hid (sumIn K1 K2 X H n = xk (xk L H n) M 16) := Hid.mk (by unfold sumIn; rw [hL, hM])
    clear hL hM
    go_wp2_with fail
    go_loopw [7] (fun iv wx => ∃ i : Nat, i ≤ n ∧ iv = .int .i64 i ∧ Win wx g5 62 [] (xk L H i) [] ∧ Keep w wx) (fun i _ => n - (intOf i).toNat)
    case atStart => exact ⟨0, by omega, rfl, W3, K3⟩
    case round => as_aux_lemma =>
      clear W3 K3
      obtain ⟨i, hi, rfl, W4, K4⟩ := hrel
      have d66 := K4.cell c66
      have HLi : Hid ((xk L H i).length = 16) := Hid.mk (by rw [xk_length]; exact HLl.out)
      by_cases hli : i < n
      · have hli' : (i : Int) < n := by omega
        have hi16 : (i : Int) < 16 := by omega
        have ch := (hA.keep K4).cell (50 + i)
        rw [CM_hi HK1.out HK2.out HX.out HH.out (by omega : i < 16)] at ch
        have cx : wr.cell? ⟨g5, i, none⟩ = some (.int .u8 ((xk L H i).getD i 0).toNat) := by
          rw [W4.cell (k := i) (o := i) (by rw [HLi.out]; omega) (by simp), List.getD_eq_getElem?_getD, List.getElem?_eq_getElem (by rw [HLi.out]; omega)]
          rfl
        have fz := W4.frozen i
        have EX : Hid (xk L H (i + 1) = (xk L H i).set i ((xk L H i).getD i 0 ^^^ H.getD i 0)) := Hid.mk rfl
        have hset := W4.set (k := i) (by rw [HLi.out]; omega) ((xk L H i).getD i 0 ^^^ H.getD i 0) (o := i) (by simp)
        rw [← EX.out] at hset
        have xx := bits_xor8 ((xk L H i).getD i 0) (H.getD i 0)
        have HS := Hid.mk hset
        clear hset
        generalize (xk L H i).getD i 0 ^^^ H.getD i 0 = z at *
        generalize (xk L H i).getD i 0 = x1 at *
        generalize H.getD i 0 = x2 at *
        go_wp2_with fail
        go_region
        go_wp2_with fail
        go_roundw
        case rel => exact ⟨i + 1, by omega, by go_num, HS.out, (K4.setCell hle _).drew⟩
        case measure => simp [intOf]; omega
      · have hli' : ¬ (i : Int) < n := by omega
        have hin : i = n := by omega
        rw [hin] at W4
        have HLn : Hid ((xk L H n).length = 16) := Hid.mk (by rw [xk_length]; exact HLl.out)
        obtain ⟨L2, hL2⟩ : ∃ L2, L2 = xk L H n := ⟨_, rfl⟩
        rw [← hL2] at W4 HLn HSI
        clear hL2 hin HLi
        go_wp2_with fail
        go_loopw [51, 8] (fun iv _ wx => ∃ i : Nat, i ≤ 16 ∧ iv = .int .i64 i ∧ Win wx g5 62 [] (xk L2 M i) [] ∧ Keep w wx) (fun i _ _ => 16 - (intOf i).toNat)
        case atStart => exact ⟨0, by omega, rfl, W4, K4⟩
        case round => as_aux_lemma =>
          clear W4 K4 d66
          obtain ⟨i, hi, rfl, W4, K4⟩ := hrel
          have HLi : Hid ((xk L2 M i).length = 16) := Hid.mk (by rw [xk_length]; exact HLn.out)
          by_cases hli : i < 16
          · have hli' : (i : Int) < 16 := by omega
            have ch := (hA.keep K4).cell (mo + i)
            rw [hmo i hli] at ch
            have cx : wr.cell? ⟨g5, i, none⟩ = some (.int .u8 ((xk L2 M i).getD i 0).toNat) := by
              rw [W4.cell (k := i) (o := i) (by rw [HLi.out]; omega) (by simp), List.getD_eq_getElem?_getD, List.getElem?_eq_getElem (by rw [HLi.out]; omega)]
              rfl
            have fz := W4.frozen i
            have EX : Hid (xk L2 M (i + 1) = (xk L2 M i).set i ((xk L2 M i).getD i 0 ^^^ M.getD i 0)) := Hid.mk rfl
            have hset := W4.set (k := i) (by rw [HLi.out]; omega) ((xk L2 M i).getD i 0 ^^^ M.getD i 0) (o := i) (by simp)
            rw [← EX.out] at hset
            have xx := bits_xor8 ((xk L2 M i).getD i 0) (M.getD i 0)
            have HS := Hid.mk hset
            clear hset
            generalize (xk L2 M i).getD i 0 ^^^ M.getD i 0 = z at *
            generalize (xk L2 M i).getD i 0 = x1 at *
            generalize M.getD i 0 = x2 at *
            go_wp2_with fail
            go_region
            go_wp2_with fail
            go_roundw
            case rel => exact ⟨i + 1, by omega, by go_num, HS.out, (K4.setCell hle _).drew⟩
            case measure => simp [intOf]; omega
          · have hli' : ¬ (i : Int) < 16 := by omega
            have hin : i = 16 := by omega
            rw [hin, ← HSI.out] at W4
            clear hin HLi hmo
            obtain ⟨SI, hSI⟩ : ∃ SI, SI = sumIn K1 K2 X H n := ⟨_, rfl⟩
            rw [← hSI] at W4 HSl HFl
            have d0 : wr.cell? ⟨g, 0, none⟩ = some (.int .i64 al) := by rw [(hA.keep K4).cell 0]; rfl
            have d1 : wr.cell? ⟨g, 1, none⟩ = some (.slice ka kn kc) := by rw [(hA.keep K4).cell 1]; rfl
            have HKx := hk.keep K4
            have E1 : ∀ W, Keep wr W → Calls Try.prog 22 #[.agg #[.int .i64 al, .slice ka kn kc], .slice (some ⟨g5, 0, none⟩) 16 16] W fun x w' => ∃ va vc, x = .returned (.slice va 16 vc) ∧ Own W.heap.size 5 w' (.slice va 16 vc) ((f SI).map cb) ∧ Keep W w' := by
              intro W hkW
              refine (hE W _ SI (HKx.keep hkW) ((W4.keep hkW).bs (by rw [HSl.out]) (by omega) (by simp [maxLen])) HSl.out).mono ?_
              rintro x w' ⟨v', rfl, o', q⟩
              obtain ⟨va, vc, hv, -, -, -⟩ := o'.bs.form
              rw [HFl.out] at hv
              subst hv
              exact ⟨va, vc, rfl, o', q⟩
            have HSIe := Hid.mk hSI
            clear hSI
            have KD := hd.keep K4
            have hBw : B ≤ wr.heap.size := by have := K4.size; omega
            go_wp2_with fail
            go_region_held3 (fun W => W.cell? ⟨g, 0, none⟩ = some (.int .i64 al) ∧ W.cell? ⟨g, 1, none⟩ = some (.slice ka kn kc))
              (first | assumption | exact ⟨d0, d1⟩ | exact ⟨Q1.cell d0, Q1.cell d1⟩ | exact ⟨z0, z1⟩)
              (first
              | (go_at_call 22; refine (E1 _ (Keep.refl wr).drew).mono ?_; rintro x y ⟨va, vc, rfl, o', q⟩; have Q1 : Keep wr y := (Keep.refl wr).drew.trans q; have OD := KD.keep Q1; have hBy : B ≤ y.heap.size := Nat.le_trans hBw Q1.size)
              | (refine step_app (by rfl) _ _ _ (by rfl) Try.underlying27 inf5 rfl B (w := y) OD o'.sl (cb_one _) (by rfl) (by rfl) (by have := HFl.out; simp [maxLen]; omega) (by have := HFl.out; simp; omega) hBy ?_; intro v' w' hown' hgr hob; have z0 : w'.cell? ⟨g, 0, none⟩ = some (.int .i64 al) := (cell_grownO (w := y) (w' := w') (row := dv.ownBlock) (gs := g) (os := 0) (Q1.cell d0) hgr (fun e => Nat.not_le_of_lt hgB (hd.lt _ e).1)); have z1 : w'.cell? ⟨g, 1, none⟩ = some (.slice ka kn kc) := (cell_grownO (w := y) (w' := w') (row := dv.ownBlock) (gs := g) (os := 1) (Q1.cell d1) hgr (fun e => Nat.not_le_of_lt hgB (hd.lt _ e).1))))
            go_wp2_with fail
            go_ret
            rw [List.map_nil, List.nil_append] at hown'
            refine ⟨v', rfl, ?_, grown_trans (keep_grown (K4.trans Q1) _) hgr⟩
            rw [← HSIe.out]
            exact hown'
end Go.Proofs.Qxb6500769a
