/- tokenlaw.sound, of a step that a sender may choose. -/
import Derived.Test.Qxb6500771aGreatJd
import Derived.Deep.MidRow
import Derived.Deep.CutRange
import Derived.Deep.WholeRow
namespace Go.Proofs.Qxb6500771aGreat
open Go Go.RowKit Go.Qm Go.Qv
set_option linter.unusedVariables false
set_option linter.unusedSimpArgs false
attribute [local go_sem ↓] Go.wp_at_zero Go.wp_at_succ
section
variable (kd e us id rrc sq off nn room fi : Int) (f ec : Nat) (a2 a9 a10 : Option Addr) (n2 c2 n9 c9 n10 c10 : Nat) (fa : Bool) (w : World)
/-- What sound answers of a step that a sender may choose. -/
def SoundY (key conf : List UInt8) (x : Ending) (w' : World) : Prop := ∃ ka kc ca cc fb, x = .returned (.tuple #[.agg #[.int .i64 kd, .int .i32 e, .slice ka (kl e) kc, .int .u32 us, .int .u16 id, .int .u8 ((f % 8 : Nat) : Int), .int .u16 ((if f / 2 % 2 = 1 then ec else 0 : Nat) : Int), .int .u16 rrc, .int .u64 sq, .slice ca 16 cc, .slice a10 n10 c10, .bool fb, .int .i64 off, .int .i64 nn, .int .i64 room, .int .u8 fi], .bool true]) ∧ Bs w' (.slice ka (kl e) kc) (strF key (kl e)) ∧ Bs w' (.slice ca 16 cc) (strF conf 16) ∧ Keep w w'
set_option maxRecDepth 4000 in
set_option maxHeartbeats 4000000 in
theorem sound_yes (key conf : List UInt8) (hm : mks kd = true) (hs : srv e) (hd : n10 ≤ 1048576) (hf : f < 256) (hk : Bs w (.slice a2 n2 c2) key) (hc : Bs w (.slice a9 n9 c9) conf) (hkl : key.length ≤ 4000000) (hcl : conf.length ≤ 4000000) : Calls Tryz.prog 7 #[.agg #[.int .i64 kd, .int .i32 e, .slice a2 n2 c2, .int .u32 us, .int .u16 id, .int .u8 f, .int .u16 ec, .int .u16 rrc, .int .u64 sq, .slice a9 n9 c9, .slice a10 n10 c10, .bool fa, .int .i64 off, .int .i64 nn, .int .i64 room, .int .u8 fi]] w (SoundY kd e us id rrc sq off nn room fi f ec a10 n10 c10 w key conf) := by
  have A1 := (Arr.new w 31 [.int .i64 kd, .int .i32 e, .slice a2 n2 c2, .int .u32 us, .int .u16 id, .int .u8 f, .int .u16 ec, .int .u16 rrc, .int .u64 sq, .slice a9 n9 c9, .slice a10 n10 c10, .bool fa, .int .i64 off, .int .i64 nn, .int .i64 room, .int .u8 fi]).keep ((Keep.refl _).alloc (.cells zer16.toArray 31))
  have A2 := new2 w (.cells #[.int .i64 kd, .int .i32 e, .slice a2 n2 c2, .int .u32 us, .int .u16 id, .int .u8 f, .int .u16 ec, .int .u16 rrc, .int .u64 sq, .slice a9 n9 c9, .slice a10 n10 c10, .bool fa, .int .i64 off, .int .i64 nn, .int .i64 room, .int .u8 fi] 31) 31 zer16
  have K0 := ((Keep.refl w).alloc (.cells #[.int .i64 kd, .int .i32 e, .slice a2 n2 c2, .int .u32 us, .int .u16 id, .int .u8 f, .int .u16 ec, .int .u16 rrc, .int .u64 sq, .slice a9 n9 c9, .slice a10 n10 c10, .bool fa, .int .i64 off, .int .i64 nn, .int .i64 room, .int .u8 fi] 31)).alloc (.cells zer16.toArray 31)
  obtain ⟨W, hW⟩ : ∃ W, W = (w.alloc (.cells #[.int .i64 kd, .int .i32 e, .slice a2 n2 c2, .int .u32 us, .int .u16 id, .int .u8 f, .int .u16 ec, .int .u16 rrc, .int .u64 sq, .slice a9 n9 c9, .slice a10 n10 c10, .bool fa, .int .i64 off, .int .i64 nn, .int .i64 room, .int .u8 fi] 31)).alloc (.cells zer16.toArray 31) := ⟨_, rfl⟩
  have A1 : Arr W w.heap.size 31 [.int .i64 kd, .int .i32 e, .slice a2 n2 c2, .int .u32 us, .int .u16 id, .int .u8 f, .int .u16 ec, .int .u16 rrc, .int .u64 sq, .slice a9 n9 c9, .slice a10 n10 c10, .bool fa, .int .i64 off, .int .i64 nn, .int .i64 room, .int .u8 fi] := by rw [hW]; exact A1
  have A2 : Arr W (w.heap.size + 1) 31 zer16 := by rw [hW]; exact A2
  have K0 : Keep w W := by rw [hW]; exact K0
  obtain ⟨g1, hg1⟩ : ∃ g1, g1 = w.heap.size := ⟨_, rfl⟩
  rw [← hg1] at A1 A2
  have HKW := Hid.mk K0
  have HG1 := Hid.mk hg1
  have hx : ¬ ((n10 : Int) > 1048576) := by omega
  have HS := Hid.mk hs
  have HM := Hid.mk hm
  have HK := Hid.mk hk
  have HC := Hid.mk hc
  have hg1W : g1 + 1 < W.heap.size := A2.lt
  have hnk : kl e ≤ 32 := kl_le e
  have and7f := and7 ⟨f, hf⟩
  simp only at and7f
  have KLN : Hid (∀ Z, Calls Tryz.prog 22 #[.int .i32 e] Z fun x w' => x = .returned (.int .i64 (kl e)) ∧ Keep Z w') := Hid.mk (fun Z => keyLen_c e Z)
  have SLC : Hid (∀ Z, Calls Tryz.prog 8 #[.int .u8 ((f % 8 : Nat) : Int)] Z fun x w' => x = .returned (.bool (decide (f / 2 % 2 = 1))) ∧ Keep Z w') := Hid.mk (fun Z => by
    have := sealed_c (f % 8) Z (by omega)
    rw [show f % 8 / 2 % 2 = f / 2 % 2 by omega] at this
    exact this)
  have SBC : Hid (∀ Z, Calls Tryz.prog 32 #[.int .u8 ((f % 8 : Nat) : Int)] Z fun x w' => (∃ b, x = .returned (.bool b)) ∧ Keep Z w') := Hid.mk (fun Z => sentBy_c (f % 8) Z (by omega))
  have HY : Hid (∀ ka kc ca cc fb ec' w', ec' = (if f / 2 % 2 = 1 then ec else 0) → Bs w' (.slice ka (kl e) kc) (strF key (kl e)) → Bs w' (.slice ca 16 cc) (strF conf 16) → Keep w w' → SoundY kd e us id rrc sq off nn room fi f ec a10 n10 c10 w key conf (.returned (.tuple #[.agg #[.int .i64 kd, .int .i32 e, .slice ka (kl e) kc, .int .u32 us, .int .u16 id, .int .u8 ((f % 8 : Nat) : Int), .int .u16 ((ec' : Nat) : Int), .int .u16 rrc, .int .u64 sq, .slice ca 16 cc, .slice a10 n10 c10, .bool fb, .int .i64 off, .int .i64 nn, .int .i64 room, .int .u8 fi], .bool true])) w') := Hid.mk (fun ka kc ca cc fb ec' w' h1 h2 h3 h4 => by subst h1; exact ⟨ka, kc, ca, cc, fb, rfl, h2, h3, h4⟩)
  clear hs hm hk hc hd
  generalize hnke : kl e = nk at *
  generalize hf8 : f % 8 = f8 at *
  clear hnke hf8
  have c0 := A1.cell 0
  have c1 := A1.cell 1
  have c10 := A1.cell 10
  simp only [List.getElem?_cons_zero, List.getElem?_cons_succ] at c0 c1 c10
  go_enter Tryz.func7, Tryz.ntmps7
  go_wp2_with fail
  unfold zer16 at hW
  rw [← hg1, ← hW]
  clear hg1 hW
  refine (makes_c kd W).mono ?_
  rintro x w1 ⟨rfl, k1⟩
  rw [HM.out]
  have HB1 := Hid.mk (A1.keep k1)
  have HB2 := Hid.mk (A2.keep k1)
  have KK := Hid.mk k1
  have B1 := HB1.out
  have d0 := B1.cell 0
  have d1 := B1.cell 1
  have d10 := B1.cell 10
  simp only [List.getElem?_cons_zero, List.getElem?_cons_succ] at d0 d1 d10
  clear A1 A2 K0 k1 c0 c1 c10 B1
  go_wp2_with fail
  refine (served_yes e w1 HS.out).mono ?_
  rintro x w2 ⟨rfl, k1⟩
  replace HB1 := Hid.mk (HB1.out.keep k1)
  replace HB2 := Hid.mk (HB2.out.keep k1)
  replace KK := Hid.mk (KK.out.trans k1)
  have B1 := HB1.out
  clear d0 d1 d10 k1
  have d1 := B1.cell 1
  have d2 := B1.cell 2
  have d10 := B1.cell 10
  simp only [List.getElem?_cons_zero, List.getElem?_cons_succ] at d1 d2 d10
  clear B1
  go_upto_region 3 with fail
  have kd2 := (Keep.refl w2).drew
  refine so3_c g1 e a2 n2 c2 nk [.int .i64 kd, .int .i32 e, .slice a2 n2 c2, .int .u32 us, .int .u16 id, .int .u8 f, .int .u16 ec, .int .u16 rrc, .int .u64 sq, .slice a9 n9 c9, .slice a10 n10 c10, .bool fa, .int .i64 off, .int .i64 nn, .int .i64 room, .int .u8 fi] rfl rfl (kd2.cell d1) (kd2.cell d2) (kd2.heap HB1.out) rfl (fun k u Z => match k with
    | 0 => u = .int .i64 (nk : Int)
    | _ => ∃ va vc, u = .slice va nk vc ∧ Own W.heap.size 5 Z u ((strF key nk).map cb)) ?_ ?_ ?_ ?_ ?_ ?_
  · intro k u Z Z' kz hu
    match k, hu with
    | 0, hu => exact hu
    | k + 1, ⟨va, vc, e, ho⟩ => exact ⟨va, vc, e, ho.keep kz⟩
  · intro Z kz
    refine (KLN.out Z).mono ?_
    rintro x y ⟨rfl, q⟩
    exact ⟨_, rfl, rfl, q⟩
  · intro u Z hu
    exact hu
  · intro Z kz
    refine (strt_c _ key nk Z (HK.out.keep (HKW.out.trans (KK.out.trans (kd2.trans kz)))) hkl (by omega)).mono ?_
    rintro x y ⟨u, rfl, o, q⟩
    obtain ⟨ua, uc, hu3, -, -, -⟩ := o.bs.form
    rw [strF_length] at hu3
    exact ⟨_, rfl, ⟨ua, uc, hu3, o.mono (KK.out.trans (kd2.trans kz)).size⟩, q⟩
  · rintro u Z ⟨va, vc, rfl, -⟩
    exact ⟨va, vc, rfl⟩
  rintro vs3 W3 u3 e3 ⟨ka, kc, rfl, ow3⟩ k3 hv3
  obtain ⟨v0, hv0⟩ := hv3 0 (by decide)
  obtain ⟨v2, hv2⟩ := hv3 2 (by decide)
  simp only [Go.Qv.Lmx, so3T, List.filterMap_cons, List.filterMap_nil, Go.Qv.ment, Option.map_some, Option.map_none, Go.Qv.mval, e3, hv0, hv2, Option.getD_some, Go.Qv.lay, List.foldl_cons, List.foldl_nil]
  simp only [Go.Qv.put_litx, List.set_cons_succ, List.set_cons_zero]
  have B3 := (HB1.out.keep (kd2.trans k3)).set 2 (.slice ka nk kc)
  have C3 := (HB2.out.keep (kd2.trans k3)).kept (grown_set (grown_refl W3 (some g1)) 2 (.slice ka nk kc)) (by omega)
  simp only [List.set_cons_succ, List.set_cons_zero] at B3
  have KW3 : Keep w (W3.setCell ⟨g1, 2, none⟩ (.slice ka nk kc)) := (HKW.out.trans (KK.out.trans (kd2.trans k3))).setCell (by rw [HG1.out]; exact Nat.le_refl _) _
  have hz3 : W.heap.size ≤ (W3.setCell ⟨g1, 2, none⟩ (.slice ka nk kc)).heap.size := Nat.le_trans (KK.out.trans (kd2.trans k3)).size (grown_set (grown_refl W3 (some g1)) 2 (.slice ka nk kc)).size
  have O3 := ow3.kept (grown_set (grown_refl W3 (some g1)) 2 (.slice ka nk kc)) (Or.inr (fun hh => by have := (ow3.lt _ hh).1; omega))
  clear ow3 k3 hv3 e3 hv0 hv2 kd2 HB1 HB2 KK d1 d2 d10
  generalize W3.setCell ⟨g1, 2, none⟩ (.slice ka nk kc) = Z3 at *
  have HB3 := Hid.mk B3
  have HC3 := Hid.mk C3
  have HKW3 := Hid.mk KW3
  have HO3 := Hid.mk O3
  have HZ3 := Hid.mk hz3
  have d1 := B3.cell 1
  have d9 := B3.cell 9
  simp only [List.getElem?_cons_zero, List.getElem?_cons_succ] at d1 d9
  clear B3 C3 KW3 O3 hz3
  go_upto_region 4 with fail
  have kd2 := (Keep.refl Z3).drew
  refine so4_c g1 e a9 n9 c9 16 [.int .i64 kd, .int .i32 e, .slice ka nk kc, .int .u32 us, .int .u16 id, .int .u8 f, .int .u16 ec, .int .u16 rrc, .int .u64 sq, .slice a9 n9 c9, .slice a10 n10 c10, .bool fa, .int .i64 off, .int .i64 nn, .int .i64 room, .int .u8 fi] rfl rfl (kd2.cell d1) (kd2.cell d9) (kd2.heap HB3.out) rfl (fun k u Z => match k with
    | 0 => u = .int .i64 ((16 : Nat) : Int)
    | _ => ∃ va vc, u = .slice va 16 vc ∧ Own W.heap.size 5 Z u ((strF conf 16).map cb)) ?_ ?_ ?_ ?_ ?_ ?_
  · intro k u Z Z' kz hu
    match k, hu with
    | 0, hu => exact hu
    | k + 1, ⟨va, vc, e, ho⟩ => exact ⟨va, vc, e, ho.keep kz⟩
  · intro Z kz
    refine (confounderLen_c e Z HS.out).mono ?_
    rintro x y ⟨rfl, q⟩
    exact ⟨_, rfl, rfl, q⟩
  · intro u Z hu
    exact hu
  · intro Z kz
    refine (strt_c _ conf 16 Z (HC.out.keep (HKW3.out.trans (kd2.trans kz))) hcl (by omega)).mono ?_
    rintro x y ⟨u, rfl, o, q⟩
    obtain ⟨ua, uc, hu3, -, -, -⟩ := o.bs.form
    rw [strF_length] at hu3
    exact ⟨_, rfl, ⟨ua, uc, hu3, o.mono (Nat.le_trans HZ3.out (kd2.trans kz).size)⟩, q⟩
  · rintro u Z ⟨va, vc, rfl, -⟩
    exact ⟨va, vc, rfl⟩
  rintro vs4 W4 u4 e4 ⟨ca, cc, rfl, ow4⟩ k4 hv4
  obtain ⟨v0, hv0⟩ := hv4 0 (by decide)
  obtain ⟨v2, hv2⟩ := hv4 2 (by decide)
  simp only [Go.Qv.Lmx, so4T, List.filterMap_cons, List.filterMap_nil, Go.Qv.ment, Option.map_some, Option.map_none, Go.Qv.mval, e4, hv0, hv2, Option.getD_some, Go.Qv.lay, List.foldl_cons, List.foldl_nil]
  simp only [Go.Qv.put_litx, List.set_cons_succ, List.set_cons_zero]
  have gr4 := grown_set (grown_refl W4 (some g1)) 9 (.slice ca 16 cc)
  have B4 := (HB3.out.keep (kd2.trans k4)).set 9 (.slice ca 16 cc)
  have C4 := (HC3.out.keep (kd2.trans k4)).kept gr4 (by omega)
  simp only [List.set_cons_succ, List.set_cons_zero] at B4
  have KW4 : Keep w (W4.setCell ⟨g1, 9, none⟩ (.slice ca 16 cc)) := (HKW3.out.trans (kd2.trans k4)).setCell (by rw [HG1.out]; exact Nat.le_refl _) _
  have O4 := ow4.kept gr4 (Or.inr (fun hh => by have := (ow4.lt _ hh).1; omega))
  have O3 := (HO3.out.keep (kd2.trans k4)).kept gr4 (Or.inr (fun hh => by have := ((HO3.out.keep (kd2.trans k4)).lt _ hh).1; omega))
  clear ow4 k4 hv4 e4 hv0 hv2 kd2 HB3 HC3 HO3 HKW3 HZ3 d1 d9 gr4
  generalize W4.setCell ⟨g1, 9, none⟩ (.slice ca 16 cc) = Z4 at *
  have HB4 := Hid.mk B4
  have HC4 := Hid.mk C4
  have HKW4 := Hid.mk KW4
  have HO3 := Hid.mk O3
  have HO4 := Hid.mk O4
  have fz := B4.frozen 5
  have d5 := B4.cell 5
  simp only [List.getElem?_cons_zero, List.getElem?_cons_succ] at d5
  clear B4 C4 KW4 O3 O4
  go_wp2_with fail
  have gr5 := grown_set (grown_refl Z4 (some g1)) 5 (.int .u8 (f8 : Int))
  have B5 := HB4.out.set 5 (.int .u8 (f8 : Int))
  simp only [List.set_cons_succ, List.set_cons_zero] at B5
  have HC5 := Hid.mk (HC4.out.kept gr5 (by omega))
  have HKW5 := Hid.mk (HKW4.out.setCell (p := ⟨g1, 5, none⟩) (by rw [HG1.out]; exact Nat.le_refl _) (.int .u8 (f8 : Int)))
  have HO5 := Hid.mk (HO3.out.kept gr5 (Or.inr (fun hh => by have := (HO3.out.lt _ hh).1; omega)))
  have HO6 := Hid.mk (HO4.out.kept gr5 (Or.inr (fun hh => by have := (HO4.out.lt _ hh).1; omega)))
  have HB5 := Hid.mk B5
  clear B5 gr5 HB4 HC4 HKW4 HO3 HO4 d5 fz
  generalize Z4.setCell ⟨g1, 5, none⟩ (.int .u8 (f8 : Int)) = Z5 at *
  refine (SLC.out Z5).mono ?_
  rintro x Z6 ⟨rfl, k6⟩
  have HB6 := Hid.mk (HB5.out.keep k6)
  have HC6 := Hid.mk (HC5.out.keep k6)
  have HKW6 := Hid.mk (HKW5.out.trans k6)
  replace HO5 := Hid.mk (HO5.out.keep k6)
  replace HO6 := Hid.mk (HO6.out.keep k6)
  clear k6 HB5 HC5 HKW5
  have B6 := HB6.out
  have fz6 := B6.frozen 6
  have d5 := B6.cell 5
  have d6 := B6.cell 6
  simp only [List.getElem?_cons_zero, List.getElem?_cons_succ] at d5 d6
  clear B6
  by_cases hse : f / 2 % 2 = 1
  · rw [decide_eq_true hse]
    have HE := Hid.mk hse
    clear hse
    go_wp2_with fail
    refine (SBC.out _).mono ?_
    rintro x Z7 ⟨⟨fb, rfl⟩, k7⟩
    have HB7 := Hid.mk (HB6.out.keep k7)
    have HC7 := Hid.mk (HC6.out.keep k7)
    have HKW7 := Hid.mk (HKW6.out.trans k7)
    replace HO5 := Hid.mk (HO5.out.keep k7)
    replace HO6 := Hid.mk (HO6.out.keep k7)
    clear k7 HB6 HC6 HKW6
    have gr8 := grown_set (grown_refl Z7 (some g1)) 11 (.bool fb)
    have B8 := HB7.out.set 11 (.bool fb)
    simp only [List.set_cons_succ, List.set_cons_zero] at B8
    have HC8 := Hid.mk (HC7.out.kept gr8 (by omega))
    have HKW8 := Hid.mk (HKW7.out.setCell (p := ⟨g1, 11, none⟩) (by rw [HG1.out]; exact Nat.le_refl _) (.bool fb))
    have HO7 := Hid.mk (HO5.out.kept gr8 (Or.inr (fun hh => by have := (HO5.out.lt _ hh).1; omega)))
    have HO8 := Hid.mk (HO6.out.kept gr8 (Or.inr (fun hh => by have := (HO6.out.lt _ hh).1; omega)))
    have B7 := HB7.out
    have fz8 := B7.frozen 11
    have d11 := B7.cell 11
    simp only [List.getElem?_cons_zero, List.getElem?_cons_succ] at d11
    clear B7 gr8
    have HR1 := Arr.range B8
    go_wp2_with (first
      | (refine wpList_load_mid (by rfl) 31 (.tmp 1) (by rfl) g1 0 (by rfl) [.int .i64 kd, .int .i32 e, .slice ka nk kc, .int .u32 us, .int .u16 id, .int .u8 (f8 : Int), .int .u16 ec, .int .u16 rrc, .int .u64 sq, .slice ca 16 cc, .slice a10 n10 c10, .bool fb, .int .i64 off, .int .i64 nn, .int .i64 room, .int .u8 fi] _ HR1 Tryz.underlying31 rfl siz31 ?_)
      | (refine wpList_store_rowN (by rfl) 31 (.tmp 2) (.tmp 48) (by rfl) (g1 + 1) [.int .i64 kd, .int .i32 e, .slice ka nk kc, .int .u32 us, .int .u16 id, .int .u8 (f8 : Int), .int .u16 ec, .int .u16 rrc, .int .u64 sq, .slice ca 16 cc, .slice a10 n10 c10, .bool fb, .int .i64 off, .int .i64 nn, .int .i64 room, .int .u8 fi].toArray (by rfl) (by rfl) 16 31 _ HC8.out siz31 (by rfl) (by rfl) (by simp [Value.oneCell']) ?_))
    have AR := Arr.row HC8.out [.int .i64 kd, .int .i32 e, .slice ka nk kc, .int .u32 us, .int .u16 id, .int .u8 (f8 : Int), .int .u16 ec, .int .u16 rrc, .int .u64 sq, .slice ca 16 cc, .slice a10 n10 c10, .bool fb, .int .i64 off, .int .i64 nn, .int .i64 room, .int .u8 fi]
    have r0 := AR.cell 0
    have r1 := AR.cell 1
    have r2 := AR.cell 2
    have r3 := AR.cell 3
    have r4 := AR.cell 4
    have r5 := AR.cell 5
    have r6 := AR.cell 6
    have r7 := AR.cell 7
    have r8 := AR.cell 8
    have r9 := AR.cell 9
    have r10 := AR.cell 10
    have r11 := AR.cell 11
    have r12 := AR.cell 12
    have r13 := AR.cell 13
    have r14 := AR.cell 14
    have r15 := AR.cell 15
    simp only [List.getElem?_cons_zero, List.getElem?_cons_succ] at r0 r1 r2 r3 r4 r5 r6 r7 r8 r9 r10 r11 r12 r13 r14 r15
    refine bodyPost_ret (v := .tuple #[.agg #[.int .i64 kd, .int .i32 e, .slice ka nk kc, .int .u32 us, .int .u16 id, .int .u8 (f8 : Int), .int .u16 ec, .int .u16 rrc, .int .u64 sq, .slice ca 16 cc, .slice a10 n10 c10, .bool fb, .int .i64 off, .int .i64 nn, .int .i64 room, .int .u8 fi], .bool true]) (by simp [results, Tryz.results7, go_sem, r0, r1, r2, r3, r4, r5, r6, r7, r8, r9, r10, r11, r12, r13, r14, r15]) rfl ?_
    have gr9 := grown_setRow (grown_refl (Z7.setCell ⟨g1, 11, none⟩ (.bool fb)) (some (g1 + 1))) [.int .i64 kd, .int .i32 e, .slice ka nk kc, .int .u32 us, .int .u16 id, .int .u8 (f8 : Int), .int .u16 ec, .int .u16 rrc, .int .u64 sq, .slice ca 16 cc, .slice a10 n10 c10, .bool fb, .int .i64 off, .int .i64 nn, .int .i64 room, .int .u8 fi].toArray
    have KZ := HKW8.out.setRow (g := g1 + 1) (by rw [HG1.out]; omega) [.int .i64 kd, .int .i32 e, .slice ka nk kc, .int .u32 us, .int .u16 id, .int .u8 (f8 : Int), .int .u16 ec, .int .u16 rrc, .int .u64 sq, .slice ca 16 cc, .slice a10 n10 c10, .bool fb, .int .i64 off, .int .i64 nn, .int .i64 room, .int .u8 fi].toArray
    exact HY.out ka kc ca cc fb ec _ (by rw [if_pos HE.out]) (HO7.out.kept gr9 (Or.inr (fun hh => by have := (HO7.out.lt _ hh).1; have := HC8.out.lt; omega))).bs (HO8.out.kept gr9 (Or.inr (fun hh => by have := (HO8.out.lt _ hh).1; omega))).bs KZ
  · rw [decide_eq_false hse]
    have HE := Hid.mk hse
    clear hse
    go_wp2_with fail
    have gr7 := grown_set (grown_refl Z6 (some g1)) 6 (.int .u16 0)
    have B7 := HB6.out.set 6 (.int .u16 0)
    simp only [List.set_cons_succ, List.set_cons_zero] at B7
    replace HB6 := Hid.mk B7
    replace HC6 := Hid.mk (HC6.out.kept gr7 (by omega))
    replace HKW6 := Hid.mk (HKW6.out.setCell (p := ⟨g1, 6, none⟩) (by rw [HG1.out]; exact Nat.le_refl _) (.int .u16 0))
    replace HO5 := Hid.mk (HO5.out.kept gr7 (Or.inr (fun hh => by have := (HO5.out.lt _ hh).1; omega)))
    replace HO6 := Hid.mk (HO6.out.kept gr7 (Or.inr (fun hh => by have := (HO6.out.lt _ hh).1; omega)))
    clear B7 gr7 d5 d6 fz6
    generalize Z6.setCell ⟨g1, 6, none⟩ (.int .u16 0) = Z6 at *
    refine (SBC.out _).mono ?_
    rintro x Z7 ⟨⟨fb, rfl⟩, k7⟩
    have HB7 := Hid.mk (HB6.out.keep k7)
    have HC7 := Hid.mk (HC6.out.keep k7)
    have HKW7 := Hid.mk (HKW6.out.trans k7)
    replace HO5 := Hid.mk (HO5.out.keep k7)
    replace HO6 := Hid.mk (HO6.out.keep k7)
    clear k7 HB6 HC6 HKW6
    have gr8 := grown_set (grown_refl Z7 (some g1)) 11 (.bool fb)
    have B8 := HB7.out.set 11 (.bool fb)
    simp only [List.set_cons_succ, List.set_cons_zero] at B8
    have HC8 := Hid.mk (HC7.out.kept gr8 (by omega))
    have HKW8 := Hid.mk (HKW7.out.setCell (p := ⟨g1, 11, none⟩) (by rw [HG1.out]; exact Nat.le_refl _) (.bool fb))
    have HO7 := Hid.mk (HO5.out.kept gr8 (Or.inr (fun hh => by have := (HO5.out.lt _ hh).1; omega)))
    have HO8 := Hid.mk (HO6.out.kept gr8 (Or.inr (fun hh => by have := (HO6.out.lt _ hh).1; omega)))
    have B7 := HB7.out
    have fz8 := B7.frozen 11
    have d11 := B7.cell 11
    simp only [List.getElem?_cons_zero, List.getElem?_cons_succ] at d11
    clear B7 gr8
    have HR1 := Arr.range B8
    go_wp2_with (first
      | (refine wpList_load_mid (by rfl) 31 (.tmp 1) (by rfl) g1 0 (by rfl) [.int .i64 kd, .int .i32 e, .slice ka nk kc, .int .u32 us, .int .u16 id, .int .u8 (f8 : Int), .int .u16 0, .int .u16 rrc, .int .u64 sq, .slice ca 16 cc, .slice a10 n10 c10, .bool fb, .int .i64 off, .int .i64 nn, .int .i64 room, .int .u8 fi] _ HR1 Tryz.underlying31 rfl siz31 ?_)
      | (refine wpList_store_rowN (by rfl) 31 (.tmp 2) (.tmp 48) (by rfl) (g1 + 1) [.int .i64 kd, .int .i32 e, .slice ka nk kc, .int .u32 us, .int .u16 id, .int .u8 (f8 : Int), .int .u16 0, .int .u16 rrc, .int .u64 sq, .slice ca 16 cc, .slice a10 n10 c10, .bool fb, .int .i64 off, .int .i64 nn, .int .i64 room, .int .u8 fi].toArray (by rfl) (by rfl) 16 31 _ HC8.out siz31 (by rfl) (by rfl) (by simp [Value.oneCell']) ?_))
    have AR := Arr.row HC8.out [.int .i64 kd, .int .i32 e, .slice ka nk kc, .int .u32 us, .int .u16 id, .int .u8 (f8 : Int), .int .u16 0, .int .u16 rrc, .int .u64 sq, .slice ca 16 cc, .slice a10 n10 c10, .bool fb, .int .i64 off, .int .i64 nn, .int .i64 room, .int .u8 fi]
    have r0 := AR.cell 0
    have r1 := AR.cell 1
    have r2 := AR.cell 2
    have r3 := AR.cell 3
    have r4 := AR.cell 4
    have r5 := AR.cell 5
    have r6 := AR.cell 6
    have r7 := AR.cell 7
    have r8 := AR.cell 8
    have r9 := AR.cell 9
    have r10 := AR.cell 10
    have r11 := AR.cell 11
    have r12 := AR.cell 12
    have r13 := AR.cell 13
    have r14 := AR.cell 14
    have r15 := AR.cell 15
    simp only [List.getElem?_cons_zero, List.getElem?_cons_succ] at r0 r1 r2 r3 r4 r5 r6 r7 r8 r9 r10 r11 r12 r13 r14 r15
    refine bodyPost_ret (v := .tuple #[.agg #[.int .i64 kd, .int .i32 e, .slice ka nk kc, .int .u32 us, .int .u16 id, .int .u8 (f8 : Int), .int .u16 0, .int .u16 rrc, .int .u64 sq, .slice ca 16 cc, .slice a10 n10 c10, .bool fb, .int .i64 off, .int .i64 nn, .int .i64 room, .int .u8 fi], .bool true]) (by simp [results, Tryz.results7, go_sem, r0, r1, r2, r3, r4, r5, r6, r7, r8, r9, r10, r11, r12, r13, r14, r15]) rfl ?_
    have gr9 := grown_setRow (grown_refl (Z7.setCell ⟨g1, 11, none⟩ (.bool fb)) (some (g1 + 1))) [.int .i64 kd, .int .i32 e, .slice ka nk kc, .int .u32 us, .int .u16 id, .int .u8 (f8 : Int), .int .u16 0, .int .u16 rrc, .int .u64 sq, .slice ca 16 cc, .slice a10 n10 c10, .bool fb, .int .i64 off, .int .i64 nn, .int .i64 room, .int .u8 fi].toArray
    have KZ := HKW8.out.setRow (g := g1 + 1) (by rw [HG1.out]; omega) [.int .i64 kd, .int .i32 e, .slice ka nk kc, .int .u32 us, .int .u16 id, .int .u8 (f8 : Int), .int .u16 0, .int .u16 rrc, .int .u64 sq, .slice ca 16 cc, .slice a10 n10 c10, .bool fb, .int .i64 off, .int .i64 nn, .int .i64 room, .int .u8 fi].toArray
    exact HY.out ka kc ca cc fb 0 _ (by rw [if_neg HE.out]) (HO7.out.kept gr9 (Or.inr (fun hh => by have := (HO7.out.lt _ hh).1; have := HC8.out.lt; omega))).bs (HO8.out.kept gr9 (Or.inr (fun hh => by have := (HO8.out.lt _ hh).1; omega))).bs KZ
end
end Go.Proofs.Qxb6500771aGreat
