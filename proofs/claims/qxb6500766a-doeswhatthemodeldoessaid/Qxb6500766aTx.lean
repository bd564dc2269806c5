/- foldindex: put, the key is there. -/
import Derived.Test.Qxb6500766aTt
import Derived.Test.Qxb6500766aTw
namespace Go.Proofs.Qxb6500766a
open Go.RowKit Go.Qm
set_option linter.unusedVariables false
set_option linter.unusedSimpArgs false
attribute [local go_sem ↓] Go.wp_at_zero Go.wp_at_succ
def befE (e : Ent) (x : Ent) : Bool := befB x.layer x.raw e
def posE (e : Ent) (es : List Ent) : Nat := (es.takeWhile (befE e)).length
def insE (e : Ent) (es : List Ent) : List Ent := es.take (posE e es) ++ e :: es.drop (posE e es)
theorem posE_eq (e : Ent) : ∀ (es : List Ent) (k : Nat), k ≤ es.length → (∀ j (hj : j < es.length), j < k → befE e es[j] = true) → (∀ (h : k < es.length), befE e es[k] = false) → posE e es = k
  | [], k, hk, _, _ => by simp at hk; subst hk; rfl
  | x :: l, 0, _, _, h => by
    have h0 := h (by simp)
    simp only [List.getElem_cons_zero] at h0
    unfold posE
    rw [List.takeWhile_cons, h0]
    rfl
  | x :: l, k + 1, hk, h1, h2 => by
    have h0 := h1 0 (by simp) (by omega)
    simp only [List.getElem_cons_zero] at h0
    have ih := posE_eq e l k (by simpa using hk) (fun j hj hjk => by have := h1 (j + 1) (by simpa using hj) (by omega); simpa using this) (fun h => by have := h2 (by simpa using h); simpa using this)
    unfold posE at *
    rw [List.takeWhile_cons, h0]
    simp only [if_true, List.length_cons, ih]
theorem _root_.Go.Qm.Fr.cell {P : Nat → Prop} {a b : World} (h : Fr P a b) {p : Addr} {v : Value} (hp : ¬ P p.block) (hc : a.cell? p = some v) : b.cell? p = some v := by
  rw [World.cell?_of_block (h.block p.block (World.block_lt_of_cell? a p hc) hp)]; exact hc
theorem arr_get3 {w : World} {g : Nat} {T : List Ent} {R : List Value} (h : Arr w g 64 (T.flatMap entC ++ R)) {j c : Nat} (hj : j < T.length) (hc : c < 3) : w.cell? ⟨g, j * 3 + c, none⟩ = (entC T[j])[c]? := by
  rw [h.cell, List.getElem?_append_left (by rw [flat_length entC 3 entC_length]; omega), flat_get entC 3 entC_length T j c hj hc]
theorem arr_set3 {w : World} {g : Nat} {T : List Ent} {R : List Value} (h : Arr w g 64 (T.flatMap entC ++ R)) {j : Nat} (hj : j < T.length) (y : Ent) : Arr (((w.setCell ⟨g, j * 3, none⟩ (.int .i64 y.layer)).setCell ⟨g, j * 3 + 1, none⟩ (str y.raw)).setCell ⟨g, j * 3 + 2, none⟩ (.int .i64 y.kind)) g 64 ((T.set j y).flatMap entC ++ R) := by
  have a := ((h.set (j * 3) (.int .i64 y.layer)).set (j * 3 + 1) (str y.raw)).set (j * 3 + 2) (.int .i64 y.kind)
  rw [List.set_append_left _ _ (by rw [flat_length entC 3 entC_length]; omega), List.set_append_left _ _ (by rw [List.length_set, flat_length entC 3 entC_length]; omega), List.set_append_left _ _ (by rw [List.length_set, List.length_set, flat_length entC 3 entC_length]; omega), flat_set3 y T j hj] at a
  exact a
theorem hole_len (es : List Ent) (q : Nat) (hq : q ≤ es.length) (x : Ent) : (es.take q ++ x :: es.drop q).length = es.length + 1 := by
  rw [List.length_append, List.length_cons, List.length_take, List.length_drop]; omega
theorem hole_set (es : List Ent) (q : Nat) (hq : q ≤ es.length) (x y : Ent) : (es.take q ++ x :: es.drop q).set q y = es.take q ++ y :: es.drop q := by
  rw [List.set_append_right _ _ (by rw [List.length_take]; omega), show q - (es.take q).length = 0 by rw [List.length_take]; omega, List.set_cons_zero]
theorem hole_get (es : List Ent) (p : Nat) (hp : p < es.length) (x : Ent) (h : p < (es.take (p + 1) ++ x :: es.drop (p + 1)).length) : (es.take (p + 1) ++ x :: es.drop (p + 1))[p] = es[p] := by
  rw [List.getElem_append_left (by rw [List.length_take]; omega), List.getElem_take]
theorem hole_move (es : List Ent) (p : Nat) (hp : p < es.length) : es.take (p + 1) ++ es[p] :: es.drop (p + 1) = es.take p ++ es[p] :: es.drop p := by
  rw [List.take_succ_eq_append_getElem hp, List.append_assoc, List.drop_eq_getElem_cons hp]; rfl
theorem flat_setlv (lv' : Value) (es' : List Ent) : ∀ (ss : List Slot) (j : Nat) (hj : j < ss.length), (ss.flatMap slotC).set (j * 4 + 3) lv' = (ss.set j ⟨ss[j].st, ss[j].hash, ss[j].key, lv', es'⟩).flatMap slotC
  | [], j, h => by simp at h
  | s :: l, 0, _ => by simp [slotC]
  | s :: l, j + 1, h => by
    have ih := flat_setlv lv' es' l j (by simpa using h)
    simp only [List.flatMap_cons, List.set_cons_succ, List.getElem_cons_succ]
    rw [show (j + 1) * 4 + 3 = (slotC s).length + (j * 4 + 3) by rw [slotC_length]; omega, List.set_append_right _ _ (by omega), Nat.add_sub_cancel_left, ih]
theorem Slots.setlv {w : World} {b : Nat} {ss : List Slot} (h : Slots w b ss) {j : Nat} (hj : j < ss.length) (lv' : Value) (es' : List Ent) : Slots (w.setCell ⟨b, j * 4 + 3, none⟩ lv') b (ss.set j ⟨(sl ss j).st, (sl ss j).hash, (sl ss j).key, lv', es'⟩) := by
  unfold Slots
  rw [sl_eq hj, ← flat_setlv lv' es' ss j hj]
  exact Arr.set h _ _
theorem ent_of_arr {B : Nat} {w : World} {g n cap : Nat} {T : List Ent} {R : List Value} (hB : B ≤ g) (h : Arr w g 64 (T.flatMap entC ++ R)) (hn : n = T.length) (hc : n * 3 + R.length = cap * 3) (hm : cap ≤ 2 ^ 63 - 1) : EntO B w (.slice (some ⟨g, 0, none⟩) n cap) T := by
  subst hn
  refine ⟨flat_length entC 3 entC_length T, Or.inr ⟨g, cap, _, rfl, hB, h, by omega, hm, ?_, ?_⟩⟩
  · simp only [List.size_toArray, List.length_append]; rw [flat_length entC 3 entC_length]; exact hc
  · simp only; rw [← flat_length entC 3 entC_length T]; exact List.take_left
def PutO (w : World) (B b i : Nat) (ss : List Slot) (e : Ent) (lv : Value) (es : List Ent) (r : Ending) (w' : World) : Prop :=
  ∃ lv', r = .returned (.tuple #[]) ∧ Slots w' b (ss.set i ⟨1, (sl ss i).hash, (sl ss i).key, lv', insE e es⟩) ∧ EntO B w' lv' (insE e es) ∧ (lv'.ownBlock = lv.ownBlock ∨ ∃ k, lv'.ownBlock = some k ∧ w.heap.size ≤ k) ∧ (∃ a c d, lv' = .slice a c d) ∧
    Fr (fun q => q = b ∨ lv.ownBlock = some q) w w'
set_option maxRecDepth 4000 in
set_option maxHeartbeats 4000000 in
theorem put_old_c (B g o b n i : Nat) (sp : Value) (ss : List Slot) (key : List UInt8) (e : Ent) (w : World) (hc : w.cell? ⟨g, o, none⟩ = some (.slice (some ⟨b, 0, none⟩) n n)) (hS : Slots w b ss) (hn : n = ss.length) (tv : TV ss) (hk : key.length ≤ 1000000)
    (hi : i < ss.length) (h1 : (sl ss i).st = 1) (hkey : (sl ss i).key = key) (hE : EntO B w (sl ss i).lv (sl ss i).es) (hne : (sl ss i).es ≠ []) (hlen : (sl ss i).es.length ≤ 10000) (hB : B ≤ w.heap.size) (hbg : b ≠ g)
    (hlb : ∀ k, (sl ss i).lv.ownBlock = some k → k ≠ b ∧ k ≠ g) (her : e.raw.length ≤ 1000000) (hrl : ∀ x ∈ (sl ss i).es, x.raw.length ≤ 1000000) (hnd : ∀ x ∈ (sl ss i).es, x.layer = e.layer → x.raw ≠ e.raw) :
    Calls Try.prog 46 #[.pointer (some ⟨g, o, none⟩), str key, .agg (entC e).toArray, sp] w fun r w' => PutO w B b i ss e (sl ss i).lv (sl ss i).es r w' := by
  obtain ⟨m, hm3, hm20, hmn⟩ := tv.pow
  have hn20 : n ≤ 2 ^ 20 := by rw [hn, hmn]; exact Nat.pow_le_pow_right (by omega) hm20
  have FS : findF ss key (hashB key) = ((i : Int), true) := by
    rcases find_spec tv key with ⟨i', hi', hf, he1, he2⟩ | ⟨j, hj, hfj, -, -, hab⟩
    · have := tv.uniq i' i hi' hi he1 h1 (by rw [he2, hkey])
      subst this
      exact hf
    · exact absurd hkey (hab i hi h1)
  have BC := fun x W (hx : x ∈ (sl ss i).es) => before_c x.layer x.raw e W (hrl x hx) her
  have K1 := (Keep.refl w).alloc (.cells (entC e).toArray 64)
  have E1 := Arr.new w 64 (entC e)
  have hc1 := K1.cell hc
  have S1 := Arr.keep hS K1
  have FC := find_c g o b n m ss key (hashB key) (w.alloc (.cells (entC e).toArray 64)) hc1 S1 hn (hn.trans hmn) hm20 (hashB_lt key)
  rw [FS] at FC
  simp only at FC
  obtain ⟨s0, s1, s2, s3⟩ := Slots.at S1 i hi
  rw [← sl_eq hi] at s0 s1 s2 s3
  have hin : (i : Int) < n := by omega
  have BEF : Hid (∀ x : Ent, befE e x = befB x.layer x.raw e) := Hid.mk (fun x => rfl)
  have HSS : Hid (∀ lv' es', (ss.set i ⟨1, (sl ss i).hash, (sl ss i).key, lv', es'⟩) = ss.set i ⟨(sl ss i).st, (sl ss i).hash, (sl ss i).key, lv', es'⟩) := Hid.mk (fun _ _ => by rw [h1])
  obtain ⟨el, er, ek⟩ := e
  generalize hES : (sl ss i).es = es at *
  generalize hLV : (sl ss i).lv = lv at *
  rcases hE.form with ⟨-, h0⟩ | ⟨ge, cap, cur, rfl, hBe, hA, hnc, hcm, hcs, htk⟩
  · exact absurd h0 hne
  have hlbe := hlb ge rfl
  have hEO := hE
  have HT := Hid.mk htk
  have HCS := Hid.mk hcs
  obtain ⟨L, hL⟩ : ∃ L, L = es.length := ⟨_, rfl⟩
  rw [← hL] at s3 hlen hnc
  have HL := Hid.mk hL
  have hL0 : 1 ≤ L := by rw [hL]; exact Nat.pos_of_ne_zero (fun e => hne (List.eq_nil_of_length_eq_zero e))
  have HN := Hid.mk hn
  have HLVV := Hid.mk hLV
  have HESS := Hid.mk hES
  have hgel := hA.lt
  unfold maxLen at hcm
  unfold entC at K1 E1 FC hc1 S1 s0 s1 s2 s3
  unfold entC
  simp only at K1 E1 FC hc1 S1 s0 s1 s2 s3 ⊢
  clear hn hmn FS htk hL hcs hE hLV hES hlb hne hEO
  go_enter Try.func46, Try.ntmps46
  go_wp2_with fail
  generalize w.alloc (.cells #[.int .i64 el, str er, .int .i64 ek] 64) = w1 at *
  refine (hashKey_c key _ hk).mono ?_
  rintro r w2 ⟨rfl, rfl⟩
  generalize hashB key = hh at *
  go_wp2_with fail
  refine FC.mono ?_
  rintro r w3 ⟨rfl, rfl⟩
  clear FC
  generalize hgb : w.heap.size = gb at *
  have HGB := Hid.mk hgb
  clear hgb
  go_wp2_with fail
  have KW1 : Keep w w3 := K1
  have AE := Hid.mk (fun (W : World) (h : Keep w3 W) => (hA.keep K1).keep h)
  have EE := Hid.mk (fun (W : World) (h : Keep w3 W) => E1.keep h)
  have CC := Hid.mk (fun (W : World) (h : Keep w3 W) => h.cell hc1)
  have SS := Hid.mk (fun (W : World) (h : Keep w3 W) => Slots.keep S1 h)
  clear s0 s1 s2 s3 K1 E1 hc1 S1
  go_loopg [12] L (fun gk pv wr => ∃ k : Nat, k + gk = L ∧ pv = .int .i64 k ∧ (∀ j (hj : j < es.length), j < k → befE ⟨el, er, ek⟩ es[j] = true) ∧ Keep w3 wr)
  case atStart => exact ⟨0, by omega, rfl, fun j hj h => by omega, Keep.refl _⟩
  case round => as_aux_lemma =>
    obtain ⟨k, hkg, rfl, hbf, kw⟩ := hrel
    have HK := Hid.mk hkg
    have HBF := Hid.mk hbf
    clear hkg hbf
    obtain ⟨cnd, hcnd⟩ : ∃ c : Bool, c = (if h : k < es.length then befE ⟨el, er, ek⟩ es[k] else false) := ⟨_, rfl⟩
    have HCND := Hid.mk hcnd
    clear hcnd
    have e0 := (EE.out wr kw).cell 0
    have e1 := (EE.out wr kw).cell 1
    have e2 := (EE.out wr kw).cell 2
    simp only [List.getElem?_cons_zero, List.getElem?_cons_succ] at e0 e1 e2
    go_upto_region 16 with fail
    go_cut [116] from 99 to 118 (fun c wx => c = .bool cnd ∧ Keep wr wx)
    case first => as_aux_lemma =>
      by_cases hlt : k < L
      · have hke : k < es.length := by have := HL.out; omega
        have j1 : (k : Int) < L := by omega
        have y0 := flat_take_get entC_length HT.out k 0 hke (by omega)
        rw [Nat.add_zero] at y0
        have x0 := ((AE.out wr kw).cell (k * 3)).trans y0
        have x1 := ((AE.out wr kw).cell (k * 3 + 1)).trans (flat_take_get entC_length HT.out k 1 hke (by omega))
        have HV : Hid (cnd = befB es[k].layer es[k].raw ⟨el, er, ek⟩) := Hid.mk (by rw [HCND.out, dif_pos hke, BEF.out])
        have BX := fun W => BC es[k] W (List.getElem_mem hke)
        generalize es[k] = X at *
        obtain ⟨xl, xr, xk⟩ := X
        simp only [entC, List.getElem?_cons_zero, List.getElem?_cons_succ] at x0 x1 BX
        clear y0
        have t : decide ((k : Int) < L) = true := decide_eq_true j1
        have t2 : decide (k < L) = true := decide_eq_true hlt
        have QQ := (Keep.refl wr).drew
        go_region_held3 (fun W => W.cell? ⟨ge, k * 3, none⟩ = some (.int .i64 xl) ∧ W.cell? ⟨ge, k * 3 + 1, none⟩ = some (str xr) ∧ W.cell? ⟨gb, 0, none⟩ = some (.int .i64 el) ∧ W.cell? ⟨gb, 1, none⟩ = some (str er) ∧ W.cell? ⟨gb, 2, none⟩ = some (.int .i64 ek))
          (first | (exact ⟨QX.cell x0, QX.cell x1, QX.cell e0, QX.cell e1, QX.cell e2⟩) | (exact ⟨x0, x1, e0, e1, e2⟩))
          ((go_at_call 59; refine (BX _).mono ?_; rintro r y ⟨rfl, q⟩; have QX : Keep wr y := QQ.trans q))
        all_goals
          go_wp2_with fail
          go_meet
          case rel => exact ⟨by rw [HV.out], QX⟩
      · have hke : ¬ k < es.length := by have := HL.out; omega
        have j1 : ¬ (k : Int) < L := by omega
        have hkL : k = L := by have := HK.out; omega
        have t : decide ((k : Int) < L) = false := decide_eq_false j1
        have t2 : decide (k < L) = false := decide_eq_false hlt
        have HV : Hid (cnd = false) := Hid.mk (by rw [HCND.out, dif_neg hke])
        clear hkL
        go_quiet (fail)
        go_wp2_with fail
        go_meet
        case rel => exact ⟨by rw [HV.out], (Keep.refl wr).drewN _⟩
    case rest =>
      obtain ⟨rfl, kx⟩ := hcut
      clear e0 e1 e2
      cases cnd with
      | true =>
        have hke : k < es.length := by
          apply Classical.byContradiction
          intro h
          have := HCND.out
          rw [dif_neg h] at this
          cases this
        have hb2 : befE ⟨el, er, ek⟩ es[k] = true := by have := HCND.out; rw [dif_pos hke] at this; exact this.symm
        have HB2 : Hid (∀ j (hj : j < es.length), j < k + 1 → befE ⟨el, er, ek⟩ es[j] = true) := Hid.mk (fun j hj h => by
          by_cases e : j = k
          · subst e; exact hb2
          · exact HBF.out j hj (by omega))
        have hkL : k < L := by have := HL.out; omega
        clear hb2
        go_wp2_with fail
        go_roundg (L - (k + 1))
        case measure => have := HK.out; omega
        case rel => exact ⟨k + 1, by omega, by go_num, HB2.out, kw.trans kx⟩
      | false =>
        have HPOS : Hid (posE ⟨el, er, ek⟩ es = k) := Hid.mk (posE_eq _ es k (by have := HK.out; have := HL.out; omega) HBF.out (fun h => by have := HCND.out; rw [dif_pos h] at this; exact this.symm))
        have kL : k ≤ L := by have := HK.out; omega
        have KX := kw.trans kx
        clear HBF HCND HK
        generalize wc = W at *
        clear kw kx
        have e0 := (EE.out W KX).cell 0
        have e1 := (EE.out W KX).cell 1
        have e2 := (EE.out W KX).cell 2
        simp only [List.getElem?_cons_zero, List.getElem?_cons_succ] at e0 e1 e2
        go_upto_region 18 with fail
        go_cut [142] from 119 to 142 (fun c wx => c = .bool false ∧ Keep W wx)
        case first => as_aux_lemma =>
          by_cases hlt : k < L
          · have hke : k < es.length := by have := HL.out; omega
            have j1 : (k : Int) < L := by omega
            have y0 := flat_take_get entC_length HT.out k 0 hke (by omega)
            rw [Nat.add_zero] at y0
            have x0 := ((AE.out W KX).cell (k * 3)).trans y0
            have x1 := ((AE.out W KX).cell (k * 3 + 1)).trans (flat_take_get entC_length HT.out k 1 hke (by omega))
            have hnx := hnd es[k] (List.getElem_mem hke)
            generalize es[k] = X at *
            obtain ⟨xl, xr, xk⟩ := X
            simp only [entC, List.getElem?_cons_zero, List.getElem?_cons_succ] at x0 x1 hnx
            clear y0
            have t : decide ((k : Int) < L) = true := decide_eq_true j1
            by_cases hxl : xl = el
            · have a1 : (xl == el) = true := by simpa using hxl
              have a2 : (xr == er) = false := by simpa using hnx hxl
              clear hxl hnx
              go_quiet (fail)
              go_wp2_with fail
              go_meet
              case rel => exact ⟨rfl, (Keep.refl W).drewN _⟩
            · have a1 : (xl == el) = false := by simpa using hxl
              clear hxl hnx
              go_quiet (fail)
              go_wp2_with fail
              go_meet
              case rel => exact ⟨rfl, (Keep.refl W).drewN _⟩
          · have j1 : ¬ (k : Int) < L := by omega
            have t : decide ((k : Int) < L) = false := decide_eq_false j1
            have t2 : decide (k < L) = false := decide_eq_false hlt
            go_quiet (fail)
            go_wp2_with fail
            go_meet
            case rel => exact ⟨rfl, (Keep.refl W).drewN _⟩
        case rest =>
          obtain ⟨rfl, kx2⟩ := hcut
          have KY := KX.trans kx2
          clear e0 e1 e2 KX kx2 W
          generalize wc = W at *
          have e0 := (EE.out W KY).cell 0
          have e1 := (EE.out W KY).cell 1
          have e2 := (EE.out W KY).cell 2
          simp only [List.getElem?_cons_zero, List.getElem?_cons_succ] at e0 e1 e2
          have oo : EntO B W (.slice (some ⟨ge, 0, none⟩) L cap) es := by
            rw [HL.out]
            refine ⟨flat_length entC 3 entC_length es, Or.inr ⟨ge, cap, cur.toArray, rfl, hBe, AE.out W KY, by have := HL.out; omega, by unfold maxLen; omega, by simpa using HCS.out, by simpa using HT.out⟩⟩
          have hsz : gb ≤ W.heap.size := by have a := (KW1.trans KY).size; have b := HGB.out; omega
          have HLL : Hid (es.length ≤ 10000) := Hid.mk (by have := HL.out; omega)
          have hLB : (Value.slice (some ⟨ge, 0, none⟩) L cap).ownBlock = some ge := rfl
          generalize hlvv : Value.slice (some ⟨ge, 0, none⟩) L cap = lvv at *
          have HLVB := Hid.mk hLB
          have HLVW := Hid.mk hlvv
          clear hLB hlvv
          go_upto_region 21 with (at_builtin; refine wpList_appS (by rfl) _ _ _ (by rfl) entC Try.underlying27 inf64 rfl (by omega) entC_length B (by rfl) (oo.alloc _) _ ⟨el, er, ek⟩ (by rfl) (Arr.new W 64 (entC ⟨el, er, ek⟩)) (entC_one _) (by have := HLL.out; simp only [maxLen]; omega) (by have := HLL.out; omega) (by simp; omega) ?_; intro v5 w5 hown5 hgr5 hob5)
          have K5 : Fr (fun q => q = ge) w3 w5 := (Fr.keep (KY.alloc (.cells (entC ⟨el, er, ek⟩).toArray 64))).trans (Fr.grown hgr5 (fun q hq => by rw [HLVB.out] at hq; simp only [Option.some.injEq] at hq; exact hq.symm))
          rcases OwnS.form hown5 with ⟨-, hn0⟩ | ⟨g5, cap5, cur5, rfl, hB5, hA5, hnc5, hcm5, hcs5, htk5⟩
          · simp at hn0
          have hl5 : (es ++ [(⟨el, er, ek⟩ : Ent)]).length = L + 1 := by rw [List.length_append, HL.out]; rfl
          rw [hl5] at hnc5 htk5 ⊢
          have hcur : cur5 = (es.take L ++ (⟨el, er, ek⟩ : Ent) :: es.drop L).flatMap entC ++ cur5.drop ((L + 1) * 3) := by
            rw [List.take_of_length_le (by rw [HL.out]; omega), List.drop_of_length_le (by rw [HL.out]; omega), ← htk5, List.take_append_drop]
          generalize cur5.drop ((L + 1) * 3) = rest5 at *
          rw [hcur] at hA5
          have HCL : Hid ((L + 1) * 3 + rest5.length = cap5 * 3) := Hid.mk (by
            rw [← hcs5, hcur, List.length_append, flat_length entC 3 entC_length, List.length_append, List.length_cons, List.length_take, List.length_drop]
            have := HL.out
            omega)
          unfold maxLen at hcm5
          have HG5 : Hid (g5 = ge ∨ w3.heap.size ≤ g5) := Hid.mk (by
            rcases hob5 with a | a
            · left; rw [HLVB.out] at a; simpa [Value.ownBlock] using a
            · right
              simp only [Value.ownBlock, Option.some.injEq] at a
              have := KY.size
              rw [a]; simp; omega)
          clear hob5 hgr5 hown5 hcs5 htk5 hcur oo e0 e1 e2
          go_wp2_with fail
          have h10 : L + 1 ≤ 10001 := by omega
          go_loopg [13] (L - k) (fun gq iv wr => ∃ (q : Nat) (x : Ent), q = k + gq ∧ q ≤ L ∧ iv = .int .i64 q ∧ Arr wr g5 64 ((es.take q ++ x :: es.drop q).flatMap entC ++ rest5) ∧ Fr (fun z => z = g5) w5 wr)
          case atStart => exact ⟨L, ⟨el, er, ek⟩, by omega, Nat.le_refl _, by go_num, hA5, Fr.refl _ _⟩
          case round => as_aux_lemma =>
            obtain ⟨q, x, hqk, hqL, rfl, B5, fr⟩ := hrel
            have HQ := Hid.mk hqk
            clear hqk hA5
            by_cases hgt : k < q
            · have j1 : (q : Int) > k := by omega
              obtain ⟨p, hp⟩ : ∃ p, q = p + 1 := ⟨q - 1, by omega⟩
              subst hp
              have hpe : p < es.length := by have := HL.out; omega
              have hTl := hole_len es (p + 1) (by omega) x
              have hp1 : p < (es.take (p + 1) ++ x :: es.drop (p + 1)).length := by omega
              have hp2 : p + 1 < (es.take (p + 1) ++ x :: es.drop (p + 1)).length := by omega
              have x0 := arr_get3 B5 hp1 (c := 0) (by omega)
              have x1 := arr_get3 B5 hp1 (c := 1) (by omega)
              have x2 := arr_get3 B5 hp1 (c := 2) (by omega)
              rw [hole_get es p hpe x hp1] at x0 x1 x2
              have y0 := arr_get3 B5 hp2 (c := 0) (by omega)
              have y1 := arr_get3 B5 hp2 (c := 1) (by omega)
              have y2 := arr_get3 B5 hp2 (c := 2) (by omega)
              rw [Nat.add_zero] at x0 y0
              have f0 := B5.frozen ((p + 1) * 3)
              have f1 := B5.frozen ((p + 1) * 3 + 1)
              have f2 := B5.frozen ((p + 1) * 3 + 2)
              have ST := arr_set3 B5 hp2 es[p]
              rw [hole_set es (p + 1) (by omega), hole_move es p hpe] at ST
              have ip : IntKind.i64.wrap (((p + 1 : Nat) : Int) - 1) = (p : Int) := by rw [IntKind.wrap_i64] <;> omega
              have ib : (p : Int) < ((L + 1 : Nat) : Int) := by omega
              have ib2 : ((p + 1 : Nat) : Int) < ((L + 1 : Nat) : Int) := by omega
              have HE : Hid (∃ z, z = es[p]) := Hid.mk ⟨_, rfl⟩
              clear B5 hTl
              generalize es[p] = X at *
              generalize (es.take (p + 1) ++ x :: es.drop (p + 1))[p + 1] = Y at *
              obtain ⟨xl, xr, xk⟩ := X
              obtain ⟨yl, yr, yk⟩ := Y
              simp only [entC, List.getElem?_cons_zero, List.getElem?_cons_succ] at x0 x1 x2 y0 y1 y2
              go_wp2_with fail
              go_roundg (gk - 1)
              case measure => have := HQ.out; omega
              case rel => exact ⟨p, ⟨xl, xr, xk⟩, by have := HQ.out; omega, by omega, by go_num, ST, ((fr.setCell (Or.inl rfl) _).setCell (Or.inl rfl) _).setCell (Or.inl rfl) _⟩
            · have j1 : ¬ (q : Int) > k := by omega
              have hqk : q = k := by have := HQ.out; omega
              rw [hqk] at B5 j1 ⊢
              clear hqk HQ hqL
              have hke : k ≤ es.length := by have := HL.out; omega
              have hTl := hole_len es k hke x
              have hk1 : k < (es.take k ++ x :: es.drop k).length := by omega
              have y0 := arr_get3 B5 hk1 (c := 0) (by omega)
              have y1 := arr_get3 B5 hk1 (c := 1) (by omega)
              have y2 := arr_get3 B5 hk1 (c := 2) (by omega)
              rw [Nat.add_zero] at y0
              have f0 := B5.frozen (k * 3)
              have f1 := B5.frozen (k * 3 + 1)
              have f2 := B5.frozen (k * 3 + 2)
              have ST := arr_set3 B5 hk1 ⟨el, er, ek⟩
              rw [hole_set es k hke] at ST
              have hgb3 : gb < w3.heap.size := Arr.lt (EE.out w3 (Keep.refl _))
              have hgegb : ge < gb := hgel
              have hg5b : gb ≠ g5 := by rcases HG5.out with a | a <;> omega
              have hgl : g < gb := by have a := World.block_lt_of_cell? w _ hc; have b := HGB.out; simp only at a; omega
              have hbl : b < gb := by have a := Arr.lt hS; have b := HGB.out; omega
              have hg5g : g ≠ g5 := by have := hlbe.2; rcases HG5.out with a | a <;> omega
              have hg5bb : b ≠ g5 := by have := hlbe.1; rcases HG5.out with a | a <;> omega
              have hgge : g ≠ ge := fun a => hlbe.2 a.symm
              have hbge : b ≠ ge := fun a => hlbe.1 a.symm
              have EX := fr.arr hg5b (K5.arr (show ¬ gb = ge by omega) (EE.out w3 (Keep.refl _)))
              have e0 := EX.cell 0
              have e1 := EX.cell 1
              have e2 := EX.cell 2
              simp only [List.getElem?_cons_zero, List.getElem?_cons_succ] at e0 e1 e2
              have c0 := fr.cell (p := ⟨g, o, none⟩) hg5g (K5.cell (p := ⟨g, o, none⟩) hgge (CC.out w3 (Keep.refl _)))
              have SX : Slots wr b ss := fr.arr hg5bb (K5.arr hbge (SS.out w3 (Keep.refl _)))
              obtain ⟨n0, n1, n2, n3⟩ := SX.at i hi
              have fn := Arr.frozen SX (i * 4 + 3)
              have ib : (k : Int) < ((L + 1 : Nat) : Int) := by omega
              generalize (es.take k ++ x :: es.drop k)[k] = Y at *
              obtain ⟨yl, yr, yk⟩ := Y
              simp only [entC, List.getElem?_cons_zero, List.getElem?_cons_succ] at y0 y1 y2
              clear n0 n1 n2
              generalize ss[i].lv = olv at *
              go_wp2_with fail
              have SF := (((SX.apart (Ne.symm hg5bb) (k * 3) (.int .i64 el)).apart (Ne.symm hg5bb) (k * 3 + 1) (str er)).apart (Ne.symm hg5bb) (k * 3 + 2) (.int .i64 ek)).setlv hi (.slice (some ⟨g5, 0, none⟩) (L + 1) cap5) (insE ⟨el, er, ek⟩ es)
              have EF := ent_of_arr (n := L + 1) hB5 (Arr.apart ST hg5bb (i * 4 + 3) (.slice (some ⟨g5, 0, none⟩) (L + 1) cap5)) (by rw [hole_len es k hke, HL.out]) HCL.out hcm5
              have hins : insE ⟨el, er, ek⟩ es = es.take k ++ (⟨el, er, ek⟩ : Ent) :: es.drop k := by rw [insE, HPOS.out]
              have P0 : Fr (fun z => z = ge ∨ z = g5 ∨ z = b) w wr := ((Fr.keep KW1).trans (K5.mono (fun q _ h => Or.inl h))).trans (fr.mono (fun q _ h => Or.inr (Or.inl h)))
              have P1 := P0.setCell (p := ⟨g5, k * 3, none⟩) (Or.inl (Or.inr (Or.inl rfl))) (.int .i64 el)
              have P2 := P1.setCell (p := ⟨g5, k * 3 + 1, none⟩) (Or.inl (Or.inr (Or.inl rfl))) (str er)
              have P3 := P2.setCell (p := ⟨g5, k * 3 + 2, none⟩) (Or.inl (Or.inr (Or.inl rfl))) (.int .i64 ek)
              have PF := P3.setCell (p := ⟨b, i * 4 + 3, none⟩) (Or.inl (Or.inr (Or.inr rfl))) (.slice (some ⟨g5, 0, none⟩) (L + 1) cap5)
              clear P0 P1 P2 P3
              have hgw : w.heap.size = gb := HGB.out
              go_end0
              refine ⟨.slice (some ⟨g5, 0, none⟩) (L + 1) cap5, rfl, ?_, ?_, ?_, ⟨_, _, _, rfl⟩, PF.mono ?_⟩
              · rw [HSS.out]; exact SF
              · rw [hins]; exact EF
              · rcases HG5.out with a | a
                · left; simp only [Value.ownBlock]; rw [a]
                · right; exact ⟨g5, rfl, by omega⟩
              · intro q hq h
                rcases h with a | a | a
                · right; simp only [Value.ownBlock]; rw [a]
                · rcases HG5.out with c | c
                  · right; simp only [Value.ownBlock]; rw [a, c]
                  · omega
                · left; exact a
end Go.Proofs.Qxb6500766a
