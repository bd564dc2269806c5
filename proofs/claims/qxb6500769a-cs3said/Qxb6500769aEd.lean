/- modes.NewCMAC. -/
import Derived.Test.Qxb6500769aEc
import Derived.Deep.CutRange
import Derived.Deep.MidRow
namespace Go.Qm
open Go Go.RowKit
theorem copy_in {P : Program} {t : TypeId} (hu : P.underlying t = some (.slice 5)) (hs : (P.info? 5).map (·.size) = some 1) {w : World} {g : Nat} {e : TypeId} {pre post : List Value} {m xs : List UInt8} (h : Win w g e pre m post) {v : Value} (hx : Bs w v xs) {o k n dLen dCap : Nat} (ho : o = pre.length + k) (hn : n = min xs.length dLen) (hk : k + n ≤ m.length) :
    ∃ W, (Builtin.copy_ #[t, t] 3 #[.slice (some ⟨g, o, none⟩) dLen dCap, v]).run P w = .ok (.int .i64 n) W ∧ Win W g e pre (m.take k ++ xs.take n ++ m.drop (k + n)) post ∧ w.grownBy W (some g) := by
  subst ho
  have hr := run_copy1 (P := P) (dT := t) (sT := t) (ty := 3) hu hs (dLen := dLen) (dCap := dCap) (o := pre.length + k) (cur := (pre ++ m.map cb ++ post).toArray) (ys := pre ++ m.map cb ++ post) h rfl hx (cb_one xs) (by simp; omega)
  have hmin : min (xs.map cb).length dLen = n := by simp; omega
  rw [hmin] at hr
  refine ⟨_, hr, ?_, grown_setRow (grown_refl _ _) _⟩
  have he : List.take (pre.length + k) (pre ++ m.map cb ++ post) ++ List.take dLen (xs.map cb) ++ List.drop (pre.length + k + n) (pre ++ m.map cb ++ post) = pre ++ (m.take k ++ xs.take n ++ m.drop (k + n)).map cb ++ post := by
    have e1 : List.take dLen (xs.map cb) = (xs.take n).map cb := by
      rw [List.map_take]
      by_cases hle : xs.length ≤ dLen
      · rw [List.take_of_length_le (by simp; omega), List.take_of_length_le (by simp; omega)]
      · rw [show n = dLen by omega]
    rw [e1]
    rw [List.append_assoc pre, List.take_append, List.take_of_length_le (l := pre) (by omega), Nat.add_sub_cancel_left]
    rw [List.take_append_of_le_length (by simp; omega)]
    rw [Nat.add_assoc, List.drop_append, show List.drop (pre.length + (k + n)) pre = [] from List.drop_eq_nil_of_le (by omega), List.nil_append, Nat.add_sub_cancel_left]
    rw [List.drop_append_of_le_length (by simp; omega)]
    simp
  rw [he]
  exact setRow_blk h _
theorem Win.of_arr {w : World} {g : Nat} {t : TypeId} {cs pre post : List Value} {m : List UInt8} (h : Arr w g t cs) (he : cs = pre ++ m.map cb ++ post) : Win w g t pre m post := by
  unfold Win; rw [← he]; exact h
theorem Arr.of_win {w : World} {g : Nat} {t : TypeId} {cs pre post : List Value} {m : List UInt8} (h : Win w g t pre m post) (he : cs = pre ++ m.map cb ++ post) : Arr w g t cs := by
  unfold Arr; rw [he]; exact h
theorem results_cell_row2 {P : Program} {fn : Func} {p q : Tmp} {ty : TypeId} (h : fn.results = #[.cell p ty, .tmp q]) (tmps : Array Value) (w : World) (g : Nat) (t : TypeId) (cs : Array Value) (fr : Nat × Nat) (d : TypeDesc) (v : Value) (hv : tmps.getD q undef = v)
    (hp : tmps.getD p undef = .pointer (some ⟨g, 0, none⟩)) (hg : w.heap[g]? = some (.cells cs t fr))
    (hu : P.underlying ty = some d) (hd : (match d with | .struct _ | .array _ _ => true | _ => false) = true) (hi : (P.info? ty).map (·.size) = some cs.size) :
    (results fn tmps).run P w = .ok (.tuple #[.agg cs, v]) w := by
  have hp' : tmps[p]?.getD undef = .pointer (some ⟨g, 0, none⟩) := by simpa using hp
  have hv' : tmps[q]?.getD undef = v := by simpa using hv
  simp [results, h, hp', hv', asAddr, run_loadVar_row w g t ty cs fr d hg hu hd hi]
end Go.Qm
namespace Go.Proofs.Qxb6500769a
open Go.RowKit Go.Qm
set_option linter.unusedVariables false
set_option linter.unusedSimpArgs false
attribute [local go_sem ↓] Go.wp_at_zero Go.wp_at_succ

set_option maxHeartbeats 1000000 in
theorem wipeE_c (te : TypeId) (g n c : Nat) (l : List UInt8) (pre post : List Value) (w : World) (hn : n = l.length) (hnc : n ≤ c) (hcm : c ≤ maxLen) (hg : Win w g te pre l post) : Calls Try.prog 44 #[.slice (some ⟨g, pre.length, none⟩) n c] w fun e w' =>
    e = .returned (.tuple #[]) ∧ Win w' g te pre (List.replicate n 0) post ∧ w.grownBy w' (some g) := by
  unfold maxLen at hcm
  have HN := Hid.mk hn
  clear hn
  go_enter Try.func44, Try.ntmps44
  go_wp2_with fail
  go_loopw [5] (fun iv wr => ∃ k : Nat, k ≤ n ∧ iv = .int .i64 k ∧ Win wr g te pre (List.replicate k 0 ++ l.drop k) post ∧ w.grownBy wr (some g)) (fun i _ => n - (intOf i).toNat)
  case atStart => exact ⟨0, by omega, rfl, by simpa using hg, grown_refl _ _⟩
  case round =>
    obtain ⟨k, hk, rfl, hwin, hgr⟩ := hrel
    by_cases hlt : k < n
    · have hlt' : (k : Int) < n := by omega
      have hg0 : (0 : Int) ≤ k := by omega
      obtain ⟨cv, hc⟩ : ∃ cv : Value, wr.cell? ⟨g, pre.length + k, none⟩ = some cv := ⟨_, hwin.cell (k := k) (o := pre.length + k) (by have := HN.out; simp; omega) rfl⟩
      have hf := hwin.frozen (pre.length + k)
      have hset := hwin.set (k := k) (by have := HN.out; simp; omega) 0 (o := pre.length + k) rfl
      generalize pre.length = pl at *
      have HS := Hid.mk hset
      clear hset
      go_wp2_with fail
      go_roundw
      case rel =>
        refine ⟨k + 1, by omega, by go_num, ?_, grown_set hgr _ _⟩
        have h1 := HS.out
        have e : (List.replicate k (0 : UInt8) ++ l.drop k).set k 0 = List.replicate (k + 1) 0 ++ l.drop (k + 1) := by
          rw [List.set_append_right _ _ (by simp)]
          simp only [List.length_replicate, Nat.sub_self]
          rw [List.drop_eq_getElem_cons (by have := HN.out; omega), List.set_cons_zero, List.replicate_succ', List.append_assoc]
          rfl
        rw [e] at h1
        exact h1
      case measure => simp [intOf]; omega
    · have hlt' : ¬ (k : Int) < n := by omega
      have hkn : k = n := by omega
      rw [hkn, List.drop_of_length_le (by have := HN.out; omega), List.append_nil] at hwin
      clear hkn
      go_wp2
      go_end0
      exact ⟨rfl, hwin, hgr⟩
/-- The cells of a running CMAC. -/
def CM (al : Int) (kv : Value) (K1 K2 X H : List UInt8) (n : Nat) : List Value :=
  [.int .i64 al, kv] ++ (K1.map cb ++ (K2.map cb ++ (X.map cb ++ (H.map cb ++ [.int .i64 n]))))
def Z16 : List UInt8 := List.replicate 16 0
theorem Z16_length : Z16.length = 16 := by simp [Z16]
section
variable {al : Int} {kv : Value} {K1 K2 X H : List UInt8} {n : Nat}
theorem CM_length (h1 : K1.length = 16) (h2 : K2.length = 16) (h3 : X.length = 16) (h4 : H.length = 16) : (CM al kv K1 K2 X H n).length = 67 := by
  simp [CM, h1, h2, h3, h4]
theorem CM_k1 : CM al kv K1 K2 X H n = [.int .i64 al, kv] ++ K1.map cb ++ (K2.map cb ++ (X.map cb ++ (H.map cb ++ [.int .i64 n]))) := by simp [CM]
theorem CM_k2 : CM al kv K1 K2 X H n = ([.int .i64 al, kv] ++ K1.map cb) ++ K2.map cb ++ (X.map cb ++ (H.map cb ++ [.int .i64 n])) := by simp [CM]
theorem CM_x : CM al kv K1 K2 X H n = ([.int .i64 al, kv] ++ K1.map cb ++ K2.map cb) ++ X.map cb ++ (H.map cb ++ [.int .i64 n]) := by simp [CM]
theorem CM_h : CM al kv K1 K2 X H n = ([.int .i64 al, kv] ++ K1.map cb ++ K2.map cb ++ X.map cb) ++ H.map cb ++ [.int .i64 n] := by simp [CM]
theorem CM_one (al : Int) (ka : Option Addr) (m c : Nat) (K1 K2 X H : List UInt8) (n : Nat) : (CM al (.slice ka m c) K1 K2 X H n).toArray.all (·.oneCell') = true := by
  simp [CM, Value.oneCell', cb]
end
theorem z64 : (Try.prog.info? 64).map (·.zero) = some (some (.agg (CM 0 (.slice none 0 0) Z16 Z16 Z16 Z16 0).toArray)) := by kernel_rfl
theorem s64 : (Try.prog.info? 64).map (·.size) = some 67 := by kernel_rfl
theorem z62 : (Try.prog.info? 62).map (·.zero) = some (some (.agg (Z16.map cb).toArray)) := by kernel_rfl
theorem b64 (al : Int) (ka : Option Addr) (n c : Nat) : Try.prog.built 64 [(0, .agg #[.int .i64 al, .slice ka n c])] = some (CM al (.slice ka n c) Z16 Z16 Z16 Z16 0).toArray := by kernel_rfl
theorem zc64 : Try.zeroCells64 = (CM 0 (.slice none 0 0) Z16 Z16 Z16 Z16 0).toArray := by kernel_rfl
theorem zc64s (al : Int) (ka : Option Addr) (n c : Nat) : (Try.zeroCells64.setIfInBounds 0 (.int .i64 al)).setIfInBounds 1 (.slice ka n c) = (CM al (.slice ka n c) Z16 Z16 Z16 Z16 0).toArray := by kernel_rfl
theorem b64z : Try.prog.built 64 [] = some (CM 0 (.slice none 0 0) Z16 Z16 Z16 Z16 0).toArray := by kernel_rfl
set_option maxRecDepth 2000 in
set_option maxHeartbeats 2000000 in
/-- A cipher whose block is not 16 octets is refused. -/
theorem newCMACbad_c (al : Int) (ka : Option Addr) (n c : Nat) (w : World) (hb : bsz16 al = 8) :
    Calls Try.prog 36 #[.agg #[.int .i64 al, .slice ka n c]] w fun e w' => e = .returned (.tuple #[.agg (CM 0 (.slice none 0 0) Z16 Z16 Z16 Z16 0).toArray, .int .i64 4]) ∧ Keep w w' := by
  have BS := fun W => cBlockSize_c al ka n c W
  rw [hb] at BS
  have hz := z64
  have hbz := zc64
  have hone := CM_one 0 none 0 0 Z16 Z16 Z16 Z16 0
  have hlen := CM_length (al := 0) (kv := .slice none 0 0) (n := 0) Z16_length Z16_length Z16_length Z16_length
  generalize CM 0 (.slice none 0 0) Z16 Z16 Z16 Z16 0 = L at *
  have HZ := Hid.mk hz
  have HO := Hid.mk hone
  have HL := Hid.mk hlen
  clear hz hone hlen
  have B0 : Arr ((w.alloc (.cells #[.int .i64 al, .slice ka n c] 36)).alloc (.cells L.toArray 64)) w.heap.size 36 [.int .i64 al, .slice ka n c] := (Arr.new w 36 [.int .i64 al, .slice ka n c]).keep ((Keep.refl _).alloc _)
  have A0 : Arr ((w.alloc (.cells #[.int .i64 al, .slice ka n c] 36)).alloc (.cells L.toArray 64)) (w.heap.size + 1) 64 L := by
    have := Arr.new (w.alloc (.cells #[.int .i64 al, .slice ka n c] 36)) 64 L
    simpa using this
  have K0 := ((Keep.refl w).alloc (.cells #[.int .i64 al, .slice ka n c] 36)).alloc (.cells L.toArray 64)
  go_enter Try.func36, Try.ntmps36
  go_wp2_with (refine wpList_alloc_z (by rfl) 64 (by rfl) L HZ.out ?_)
  generalize (w.alloc (.cells #[.int .i64 al, .slice ka n c] 36)).alloc (.cells L.toArray 64) = w1 at *
  have c0 := B0.cell 0
  have c1 := B0.cell 1
  simp only [List.getElem?_cons_zero, List.getElem?_cons_succ] at c0 c1
  go_wp2_with fail
  refine (BS _).mono ?_
  rintro e w2 ⟨rfl, k2⟩
  have d0 := k2.cell c0
  have d1 := k2.cell c1
  go_wp2_with fail
  refine (BS _).mono ?_
  rintro e w3 ⟨rfl, k3⟩
  have A3 := (A0.keep k2).keep k3
  go_wp2_with (first
    | (refine wpList_store_row (by rfl) 64 (.tmp 2) (.tmp 13) (by rfl) (w.heap.size + 1) L.toArray (by rfl) (by rfl) 64 _ A3 (by rw [List.size_toArray, HL.out]; exact s64) rfl HO.out ?_))
  refine bodyPost_ret (v := .tuple #[.agg L.toArray, .int .i64 4]) (results_cell_row2 rfl _ _ (w.heap.size + 1) 64 L.toArray (0, 0) _ _ rfl rfl (A3.row L) Try.underlying64 rfl (by rw [List.size_toArray, HL.out]; exact s64)) rfl ⟨rfl, ((K0.trans k2).trans k3).setRow (by omega) _⟩
set_option maxRecDepth 2000 in
set_option maxHeartbeats 4000000 in
theorem newCMAC_c (al : Int) (ka : Option Addr) (n c : Nat) (key : List UInt8) (f : List UInt8 → List UInt8) (w : World) (hb : bsz16 al = 16) (hE : Enc al (.slice ka n c) key f) (hk : Bs w (.slice ka n c) key) :
    Calls Try.prog 36 #[.agg #[.int .i64 al, .slice ka n c]] w fun e w' => e = .returned (.tuple #[.agg (CM al (.slice ka n c) (dbl (f Z16)) (dbl (dbl (f Z16))) Z16 Z16 0).toArray, .int .i64 0]) ∧ Keep w w' := by
  have BS := fun W => cBlockSize_c al ka n c W
  rw [hb] at BS
  obtain ⟨hfl, hE⟩ := hE
  have hz := z64
  have hlen := CM_length (al := 0) (kv := .slice none 0 0) (n := 0) Z16_length Z16_length Z16_length Z16_length
  generalize CM 0 (.slice none 0 0) Z16 Z16 Z16 Z16 0 = L at *
  have HZ := Hid.mk hz
  have HL := Hid.mk hlen
  clear hz hlen
  have hb64 := zc64s al ka n c
  have hone1 := CM_one al ka n c Z16 Z16 Z16 Z16 0
  have hlen1 := CM_length (al := al) (kv := .slice ka n c) (n := 0) Z16_length Z16_length Z16_length Z16_length
  obtain ⟨L1, hL1⟩ : ∃ L1, L1 = CM al (.slice ka n c) Z16 Z16 Z16 Z16 0 := ⟨_, rfl⟩
  rw [← hL1] at hb64 hone1 hlen1
  have HO1 := Hid.mk hone1
  have HL1 := Hid.mk hlen1
  have HE1 := Hid.mk hL1
  clear hone1 hlen1 hL1
  obtain ⟨Y, hY⟩ : ∃ Y, Y = Z16.map cb := ⟨_, rfl⟩
  have hz62 := z62
  rw [← hY] at hz62
  have HZ62 := Hid.mk hz62
  have HY := Hid.mk hY
  clear hz62 hY
  have B0 : Arr ((w.alloc (.cells #[.int .i64 al, .slice ka n c] 36)).alloc (.cells L.toArray 64)) w.heap.size 36 [.int .i64 al, .slice ka n c] := (Arr.new w 36 [.int .i64 al, .slice ka n c]).keep ((Keep.refl _).alloc _)
  have A0 : Arr ((w.alloc (.cells #[.int .i64 al, .slice ka n c] 36)).alloc (.cells L.toArray 64)) (w.heap.size + 1) 64 L := by
    have := Arr.new (w.alloc (.cells #[.int .i64 al, .slice ka n c] 36)) 64 L
    simpa using this
  have K0 := ((Keep.refl w).alloc (.cells #[.int .i64 al, .slice ka n c] 36)).alloc (.cells L.toArray 64)
  go_enter Try.func36, Try.ntmps36
  go_wp2_with (refine wpList_alloc_z (by rfl) 64 (by rfl) L HZ.out ?_)
  generalize (w.alloc (.cells #[.int .i64 al, .slice ka n c] 36)).alloc (.cells L.toArray 64) = w1 at *
  have c0 := B0.cell 0
  have c1 := B0.cell 1
  simp only [List.getElem?_cons_zero, List.getElem?_cons_succ] at c0 c1
  go_wp2_with fail
  refine (BS _).mono ?_
  rintro e w2 ⟨rfl, k2⟩
  have d0 := k2.cell c0
  have d1 := k2.cell c1
  go_wp2_with fail
  refine (BS _).mono ?_
  rintro e w3 ⟨rfl, k3⟩
  have e0 := k3.cell d0
  have e1 := k3.cell d1
  have A3 := (A0.keep k2).keep k3
  have B3 := (B0.keep k2).keep k3
  have K3 := (K0.trans k2).trans k3
  clear c0 c1 d0 d1 A0 B0
  have A4 : Arr ((w3.alloc (.cells L.toArray 64)).setRow w3.heap.size L1.toArray) w3.heap.size 64 L1 := (Arr.new w3 64 L).row L1
  have K4 : Keep w3 ((w3.alloc (.cells L.toArray 64)).setRow w3.heap.size L1.toArray) := ((Keep.refl w3).alloc _).setRow (Nat.le_refl _) _
  have hs4 : ((w3.alloc (.cells L.toArray 64)).setRow w3.heap.size L1.toArray).heap.size = w3.heap.size + 1 := by simp
  go_upto_region 7 with (first
    | (refine wpList_alloc_z (by rfl) 64 (by rfl) L HZ.out ?_)
    | (refine wpList_alloc_z (by rfl) 62 (by rfl) Y HZ62.out ?_)
    | (refine wpList_store_row (by rfl) 64 (.tmp 4) (.tmp 15) (by rfl) w3.heap.size L1.toArray (by rfl) (by rfl) 64 _ (Arr.new w3 64 L) (by rw [List.size_toArray, HL1.out]; exact s64) (by rw [List.size_toArray, List.size_toArray, HL1.out, HL.out]) HO1.out ?_))
  have hK2 := K3.size
  have hl3 := A3.lt
  generalize (w3.alloc (.cells L.toArray 64)).setRow w3.heap.size L1.toArray = w4 at *
  have W5 : Win (w4.alloc (.cells Y.toArray 62)) w4.heap.size 62 [] Z16 [] := Win.of_arr (Arr.new w4 62 Y) (by rw [HY.out]; simp)
  have K5 := (Keep.refl w4).alloc (.cells Y.toArray 62)
  have A5 := A4.keep K5
  have n45 : w3.heap.size ≠ w4.heap.size := by omega
  have n5 : w.heap.size ≤ w4.heap.size := by omega
  have n15 : w.heap.size ≠ w4.heap.size := by omega
  have n14 : w.heap.size ≠ w3.heap.size := by omega
  have n4 : w.heap.size ≤ w3.heap.size := by omega
  have f5 := (B3.keep K4).keep K5
  have g2ne : w.heap.size + 1 ≠ w4.heap.size := by omega
  have g2ne4 : w.heap.size + 1 ≠ w3.heap.size := by omega
  have A2w := (A3.keep K4).keep K5
  have KK5 := (K3.trans K4).trans K5
  generalize w4.alloc (.cells Y.toArray 62) = w5 at *
  generalize w4.heap.size = g5 at *
  generalize w3.heap.size = g4 at *
  clear e0 e1 hs4 A4 K4 A3 B3 K5 hb64
  have c0 := f5.cell 0
  have c1 := f5.cell 1
  simp only [List.getElem?_cons_zero, List.getElem?_cons_succ] at c0 c1
  have E1 : ∀ W, Keep w5 W → Calls Try.prog 22 #[.agg #[.int .i64 al, .slice ka n c], .slice (some ⟨g5, 0, none⟩) 16 16] W fun x w' => ∃ va vc, x = .returned (.slice va 16 vc) ∧ Own W.heap.size 5 w' (.slice va 16 vc) ((f Z16).map cb) ∧ Keep W w' := by
    intro W hkW
    refine (hE W _ Z16 ((hk.keep KK5).keep hkW) ((W5.keep hkW).bs (by rw [Z16_length]) (by omega) (by simp [maxLen])) Z16_length).mono ?_
    rintro x w' ⟨v', rfl, o', q⟩
    obtain ⟨va, vc, hv, -, -, -⟩ := o'.bs.form
    rw [hfl Z16 Z16_length] at hv
    subst hv
    exact ⟨va, vc, rfl, o', q⟩
  have hF := hfl Z16 Z16_length
  clear hE hfl
  generalize hFZ : f Z16 = F at *
  have HFZ := Hid.mk hFZ
  clear hFZ
  simp only [Act.put, List.setIfInBounds_toArray, List.set_cons_succ, List.set_cons_zero]
  go_cut [20] from 16 to 20 (fun _ wx => ∃ W0 W1, Keep w5 W0 ∧ W0.grownBy W1 (some g5) ∧ wx = W1 ∧ Win W1 g5 62 [] F [])
  case first =>
    go_region_held3 (fun W => W.cell? ⟨w.heap.size, 0, none⟩ = some (.int .i64 al) ∧ W.cell? ⟨w.heap.size, 1, none⟩ = some (.slice ka n c))
      (first | assumption | exact ⟨c0, c1⟩ | exact ⟨Q1.cell c0, Q1.cell c1⟩ | exact ⟨cell_grown (Q1.cell c0) gr n15, cell_grown (Q1.cell c1) gr n15⟩)
      ((go_at_call 22; refine (E1 _ (Keep.refl w5).drew).mono ?_; rintro x y ⟨va, vc, rfl, o', q⟩; have Q1 : Keep w5 y := (Keep.refl w5).drew.trans q; obtain ⟨W, hcp, win, gr⟩ := copy_in (P := Try.prog) (t := 27) Try.underlying27 siz5 (W5.keep Q1) o'.bs (o := 0) (k := 0) (n := 16) (dLen := 16) (dCap := 16) rfl (by rw [hF]; rfl) (by rw [Z16_length]; omega)))
    have win' : Win W g5 62 [] F [] := by
      rw [List.take_zero, List.nil_append, Nat.zero_add, List.take_of_length_le (by omega), List.drop_of_length_le (by rw [Z16_length]; omega), List.append_nil] at win
      exact win
    clear win hcp
    go_wp2_with fail
    go_meet
    case rel => exact ⟨y, W, Q1, gr, rfl, win'⟩
  case rest =>
    obtain ⟨W0, W1, q0, gr, rfl, win⟩ := hcut
    have A6 := (A5.keep q0).kept gr n45
    have A2x := (A2w.keep q0).kept gr g2ne
    have KW := (KK5.trans q0).grown gr (fun q hq => by simp at hq; omega)
    rw [HE1.out] at A6
    have hwin1 := Win.of_arr A6 CM_k1
    have hFi : ∀ i, i < 16 → F.getD i 0 = F.getD i 0 := fun _ _ => rfl
    have D1 := double_c g4 g5 0 64 _ _ Z16 F wc hwin1 Z16_length (fun wr D hw hgr i hi => by
      have := (win.kept hgr (Ne.symm n45)).cell (k := i) (o := 0 + i) (by omega) (by simp)
      rw [this, List.getD_eq_getElem?_getD, List.getElem?_eq_getElem (by omega)]
      rfl)
    have hl1 : [Value.int .i64 al, Value.slice ka n c].length = 2 := rfl
    rw [hl1] at D1
    go_wp2_with fail
    refine D1.mono ?_
    rintro x w7 ⟨rfl, win7, gr7⟩
    have hdl := dbl_length F
    obtain ⟨G, hG⟩ : ∃ G, G = dbl F := ⟨_, rfl⟩
    rw [← hG] at win7 hdl
    have hwin2 : Win w7 g4 64 ([.int .i64 al, .slice ka n c] ++ G.map cb) Z16 (Z16.map cb ++ (Z16.map cb ++ [.int .i64 (0 : Nat)])) := win7.cut (by simp)
    have D2 := double_c g4 g4 2 64 _ _ Z16 G w7 hwin2 Z16_length (fun wr D hw hgr i hi => by
      have h1 := blk_cell hw (2 + i)
      rw [h1, List.append_assoc, List.append_assoc, List.getElem?_append_right (by simp), List.getElem?_append_left (by simp; omega)]
      simp only [List.length_cons, List.length_nil, Nat.zero_add, Nat.reduceAdd, Nat.add_sub_cancel_left]
      rw [List.getElem?_map, List.getD_eq_getElem?_getD, List.getElem?_eq_getElem (by omega)]
      rfl)
    have hl2 : ([Value.int .i64 al, Value.slice ka n c] ++ G.map cb).length = 18 := by simp [hdl]
    rw [hl2] at D2
    have HG := Hid.mk hG
    clear hG hl1 hl2 D1 hwin1 hFi
    go_wp2_with fail
    refine D2.mono ?_
    rintro x w8 ⟨rfl, win8, gr8⟩
    have win5 := (win.kept gr7 (Ne.symm n45)).kept gr8 (Ne.symm n45)
    have WI := wipeE_c 62 g5 16 16 F [] [] w8 hF.symm (Nat.le_refl _) (by simp [maxLen]) win5
    rw [List.length_nil] at WI
    have A8 : Arr w8 g4 64 (CM al (.slice ka n c) G (dbl G) Z16 Z16 0) := Arr.of_win win8 CM_k2
    have A2y := (A2x.kept gr7 g2ne4).kept gr8 g2ne4
    have KX := (KW.grown gr7 (fun q hq => by simp at hq; omega)).grown gr8 (fun q hq => by simp at hq; omega)
    obtain ⟨L2, hL2⟩ : ∃ L2, L2 = CM al (.slice ka n c) G (dbl G) Z16 Z16 0 := ⟨_, rfl⟩
    have hlen2 : L2.length = 67 := by rw [hL2]; exact CM_length hdl (dbl_length G) Z16_length Z16_length
    have hone2 : L2.toArray.all (·.oneCell') = true := by rw [hL2]; exact CM_one ..
    rw [← hL2] at A8
    have HL2 := Hid.mk hL2
    have HN2 := Hid.mk hlen2
    have HO2 := Hid.mk hone2
    clear hL2 hlen2 hone2 D2 A5 A6 A2x A2w hdl
    go_wp2_with fail
    refine WI.mono ?_
    rintro x w9 ⟨rfl, -, gr9⟩
    have A9 := A8.kept gr9 n45
    have A2z := A2y.kept gr9 g2ne
    have KY := KX.grown gr9 (fun q hq => by simp at hq; omega)
    go_wp2_with (first
      | (refine wpList_load_mid (by rfl) 64 (.tmp 4) (by rfl) g4 0 (by rfl) L2 _ (fun j v hv => by rw [Nat.zero_add, A9.cell j]; exact hv) Try.underlying64 rfl (by rw [HN2.out]; exact s64) ?_)
      | (refine wpList_store_row (by rfl) 64 (.tmp 2) (.tmp 28) (by rfl) (w.heap.size + 1) L2.toArray (by rfl) (by rfl) 64 _ A2z (by rw [List.size_toArray, HN2.out]; exact s64) (by rw [List.size_toArray, List.size_toArray, HN2.out, HL.out]) HO2.out ?_))
    have hfin : Ending.returned (Value.tuple #[.agg L2.toArray, .int .i64 0]) = Ending.returned (Value.tuple #[Value.agg (CM al (Value.slice ka n c) (dbl (f Z16)) (dbl (dbl (f Z16))) Z16 Z16 0).toArray, Value.int IntKind.i64 0]) := by rw [HL2.out, HG.out, HFZ.out]
    refine bodyPost_ret (v := .tuple #[.agg L2.toArray, .int .i64 0]) (results_cell_row2 rfl _ _ (w.heap.size + 1) 64 L2.toArray (0, 0) _ _ rfl rfl (A2z.row L2) Try.underlying64 rfl (by rw [List.size_toArray, HN2.out]; exact s64)) rfl ⟨hfin, KY.setRow (by omega) _⟩
end Go.Proofs.Qxb6500769a
