/- modes.NewHMAC. -/
import Derived.Test.Qxb6500769aHm
namespace Go.Qm
open Go Go.RowKit
theorem wpList_store_rowN {P : Program} {ops : Array Oper} {rest : List Oper} {o : Oper} {a : Act} {w : World} {Q : Exit → Act → World → Prop} (hgd : o.guard = none) (ty : TypeId) (x y : Operand) (ho : o.op = .store ty x y)
    (g : Nat) (cells : Array Value) (hx : a.eval x = .pointer (some ⟨g, 0, none⟩)) (hy : a.eval y = .agg cells) (n : Nat)
    (t : TypeId) (old : Array Value) (hg : w.heap[g]? = some (.cells old t (0, 0))) (hi : (P.info? ty).map (·.size) = some n) (hn : cells.size = n)
    (hold : old.size = n) (h1 : cells.all (·.oneCell') = true)
    (h : wpList P ops Q rest (a.put o.dst undef) (w.setRow g cells)) : wpList P ops Q (o :: rest) a w :=
  wpList_store_row hgd ty x y ho g cells hx hy t old hg (by rw [hn]; exact hi) (by rw [hn]; exact hold) h1 h
theorem copy_into {P : Program} {t : TypeId} (hu : P.underlying t = some (.slice 5)) (hs : (P.info? 5).map (·.size) = some 1) {w : World} {g : Nat} {e : TypeId} {pre post : List Value} {m xs : List UInt8} (h : Win w g e pre m post) {v : Value} (hx : Bs w v xs) {o k n : Nat} (ho : o = pre.length + k) (hn : n = xs.length) (hk : k + n ≤ m.length) {dLen dCap : Nat} (hd : n ≤ dLen) :
    ∃ W, (Builtin.copy_ #[t, t] 3 #[.slice (some ⟨g, o, none⟩) dLen dCap, v]).run P w = .ok (.int .i64 n) W ∧ Win W g e pre (m.take k ++ xs ++ m.drop (k + n)) post ∧ w.grownBy W (some g) := by
  subst ho hn
  have hr := run_copy1 (P := P) (dT := t) (sT := t) (ty := 3) hu hs (dLen := dLen) (dCap := dCap) (o := pre.length + k) (cur := (pre ++ m.map cb ++ post).toArray) (ys := pre ++ m.map cb ++ post) h rfl hx (cb_one xs) (by simp; omega)
  have hmin : min (xs.map cb).length dLen = xs.length := by simp; omega
  rw [hmin] at hr
  refine ⟨_, hr, ?_, grown_setRow (grown_refl _ _) _⟩
  have he : List.take (pre.length + k) (pre ++ m.map cb ++ post) ++ List.take dLen (xs.map cb) ++ List.drop (pre.length + k + xs.length) (pre ++ m.map cb ++ post) = pre ++ (m.take k ++ xs ++ m.drop (k + xs.length)).map cb ++ post := by
    rw [List.take_of_length_le (l := xs.map cb) (by simp; omega)]
    rw [List.append_assoc pre, List.take_append, List.take_of_length_le (l := pre) (by omega), Nat.add_sub_cancel_left]
    rw [List.take_append_of_le_length (by simp; omega)]
    rw [Nat.add_assoc, List.drop_append, show List.drop (pre.length + (k + xs.length)) pre = [] from List.drop_eq_nil_of_le (by omega), List.nil_append, Nat.add_sub_cancel_left]
    rw [List.drop_append_of_le_length (by simp; omega)]
    simp
  rw [he]
  exact setRow_blk h _
end Go.Qm
namespace Go.Proofs.Qxb6500769a
open Go.RowKit Go.Qm
set_option linter.unusedVariables false
set_option linter.unusedSimpArgs false
attribute [local go_sem ↓] Go.wp_at_zero Go.wp_at_succ

theorem dwriteL_c (g o q n : Nat) (mv pv : Value) (lm lp l : List UInt8) (w : World) (hq : q = o + 1) (hll : l = lm ++ lp) (hn : n = l.length) (hc : w.cell? ⟨g, q, none⟩ = some mv) (hf : w.frozen? ⟨g, q, none⟩ = false) (hm : Bs w mv lm) (hp : Bs w pv lp) (hl : n ≤ 1000000) :
    Calls Try.prog 56 #[.pointer (some ⟨g, o, none⟩), pv] w fun e w' => ∃ a c w1, e = .returned (.tuple #[]) ∧ w' = w1.setCell ⟨g, q, none⟩ (.slice a n c) ∧ Own w.heap.size 5 w1 (.slice a n c) (l.map cb) ∧ Keep w w1 := by
  subst hq hll hn
  refine (dwrite_c g o mv pv lm lp w hc hf hm hp (by simpa using hl)).mono ?_
  rintro e w' ⟨nv, w1, rfl, rfl, o1, k1⟩
  obtain ⟨a, c, rfl, -⟩ := o1.bs.form
  exact ⟨a, c, w1, rfl, rfl, o1, k1⟩
theorem s58 : (Try.prog.info? 58).map (·.size) = some 7 := by kernel_rfl
def zer7 : List Value := [.int .i64 0, .int .i64 0, .slice none 0 0, .int .i64 0, .slice none 0 0, .int .i64 0, .slice none 0 0]
/-- What stands along NewHMAC: the result's cells, the pad, the HMAC's cells. -/
structure NS (w W : World) (g4 g7 g9 : Nat) (P : List UInt8) (cs : List Value) : Prop where
  keep : Keep w W
  res : Arr W g4 58 zer7
  pad : Win W g7 5 [] P []
  hd : Arr W g9 58 cs
  n47 : g4 ≠ g7
  n49 : g4 ≠ g9
  n79 : g7 ≠ g9
  l4 : w.heap.size ≤ g4
  l7 : w.heap.size ≤ g7
  l9 : w.heap.size ≤ g9
/-- A slice of octets that lies in none of the three blocks. -/
structure Ft (W : World) (g4 g7 g9 : Nat) (v : Value) (l : List UInt8) : Prop where
  bs : Bs W v l
  f4 : v.ownBlock ≠ some g4
  f7 : v.ownBlock ≠ some g7
  f9 : v.ownBlock ≠ some g9
section
variable {w W W' : World} {g4 g7 g9 : Nat} {P : List UInt8} {cs : List Value} {v : Value} {l : List UInt8}
theorem NS.step (h : NS w W g4 g7 g9 P cs) (k : Keep W W') : NS w W' g4 g7 g9 P cs :=
  ⟨h.keep.trans k, h.res.keep k, h.pad.keep k, h.hd.keep k, h.n47, h.n49, h.n79, h.l4, h.l7, h.l9⟩
theorem NS.setp (h : NS w W g4 g7 g9 P cs) {i : Nat} (hi : i < P.length) (x : UInt8) : NS w (W.setCell ⟨g7, i, none⟩ (.int .u8 x.toNat)) g4 g7 g9 (P.set i x) cs :=
  ⟨h.keep.setCell h.l7 _, h.res.kept (grown_set (grown_refl _ _) i _) h.n47, h.pad.set hi x (by simp), h.hd.kept (grown_set (grown_refl _ _) i _) (Ne.symm h.n79), h.n47, h.n49, h.n79, h.l4, h.l7, h.l9⟩
theorem NS.seth (h : NS w W g4 g7 g9 P cs) (i : Nat) (u : Value) : NS w (W.setCell ⟨g9, i, none⟩ u) g4 g7 g9 P (cs.set i u) :=
  ⟨h.keep.setCell h.l9 _, h.res.kept (grown_set (grown_refl _ _) i _) h.n49, h.pad.kept (grown_set (grown_refl _ _) i _) h.n79, h.hd.set i u, h.n47, h.n49, h.n79, h.l4, h.l7, h.l9⟩
theorem NS.grow (h : NS w W g4 g7 g9 P cs) {P' : List UInt8} (hg : W.grownBy W' (some g7)) (hw : Win W' g7 5 [] P' []) : NS w W' g4 g7 g9 P' cs :=
  ⟨h.keep.grown hg (fun q hq => by simp at hq; have := h.l7; omega), h.res.kept hg h.n47, hw, h.hd.kept hg (Ne.symm h.n79), h.n47, h.n49, h.n79, h.l4, h.l7, h.l9⟩
theorem Ft.step (h : Ft W g4 g7 g9 v l) (k : Keep W W') : Ft W' g4 g7 g9 v l := ⟨h.bs.keep k, h.f4, h.f7, h.f9⟩
theorem Ft.setp (h : Ft W g4 g7 g9 v l) (i : Nat) (u : Value) : Ft (W.setCell ⟨g7, i, none⟩ u) g4 g7 g9 v l := ⟨h.bs.kept (grown_set (grown_refl _ _) i _) h.f7, h.f4, h.f7, h.f9⟩
theorem Ft.seth (h : Ft W g4 g7 g9 v l) (i : Nat) (u : Value) : Ft (W.setCell ⟨g9, i, none⟩ u) g4 g7 g9 v l := ⟨h.bs.kept (grown_set (grown_refl _ _) i _) h.f9, h.f4, h.f7, h.f9⟩
theorem Ft.grow (h : Ft W g4 g7 g9 v l) (hg : W.grownBy W' (some g7)) : Ft W' g4 g7 g9 v l := ⟨h.bs.kept hg h.f7, h.f4, h.f7, h.f9⟩
theorem Ft.own (h : Own W.heap.size 5 W' v (l.map cb)) (S : NS w W g4 g7 g9 P cs) : Ft W' g4 g7 g9 v l := by
  have a4 := S.res.lt; have a7 := S.pad.lt; have a9 := S.hd.lt
  refine ⟨h.bs, ?_, ?_, ?_⟩ <;> intro e <;> have := (h.lt _ e).1 <;> omega
end
/-- xor of the first k octets. -/
def xfst (l : List UInt8) (x : UInt8) (k : Nat) : List UInt8 := (l.take k).map (· ^^^ x) ++ l.drop k
theorem xfst_length (l : List UInt8) (x : UInt8) (k : Nat) : (xfst l x k).length = l.length := by simp [xfst]; omega
theorem xfst_get (l : List UInt8) (x : UInt8) (k : Nat) (hk : k < l.length) (h : k < (xfst l x k).length) : (xfst l x k)[k] = l[k] := by
  simp [xfst, List.getElem_append, Nat.min_eq_left (Nat.le_of_lt hk)]
theorem xfst_set (l : List UInt8) (x : UInt8) (k : Nat) (hk : k < l.length) : (xfst l x k).set k (l[k] ^^^ x) = xfst l x (k + 1) := by
  unfold xfst
  rw [List.set_append_right _ _ (by simp; omega)]
  simp only [List.length_map, List.length_take, Nat.min_eq_left (Nat.le_of_lt hk), Nat.sub_self]
  rw [List.drop_eq_getElem_cons hk, List.set_cons_zero, List.take_succ_eq_append_getElem hk, List.map_append, List.append_assoc]
  rfl
theorem xfst_all (l : List UInt8) (x : UInt8) : xfst l x l.length = l.map (· ^^^ x) := by simp [xfst]
theorem xor2 (l : List UInt8) : (l.map (· ^^^ 54)).map (· ^^^ 106) = l.map (· ^^^ (92 : UInt8)) := by
  rw [List.map_map]
  apply List.map_congr_left
  intro a _
  show (a ^^^ 54) ^^^ 106 = a ^^^ 92
  rw [UInt8.xor_assoc]; rfl
theorem rep_win (w : World) (n : Nat) : Win (w.alloc (.cells (rep n (.int .u8 0)) 5)) w.heap.size 5 [] (List.replicate n 0) [] := by
  have := heap_alloc_new w (.cells (rep n (.int .u8 0)) 5)
  rw [rep_cb] at this
  rw [rep_cb]
  unfold Win
  rw [this]; simp
set_option maxRecDepth 1400 in
set_option maxHeartbeats 4000000 in
theorem newHMAC_c (h : Nat) (kv : Value) (key : List UInt8) (w : World) (hk : Bs w kv key) (hkl : key.length ≤ 500000) (h1 : 1 ≤ h) (h5 : h ≤ 5) :
    Calls Try.prog 30 #[.int .i64 h, kv] w fun e w' => ∃ vi vo, e = .returned (.tuple #[.agg #[.int .i64 (hsz h), .int .i64 h, vi, .int .i64 h, vo, .int .i64 h, vi], .int .i64 0]) ∧ Bs w' vi (hin h key) ∧ Bs w' vo (hout h key) ∧ Keep w w' := by
  have hb := bsz_le h
  have hkkl := kk_length h key h1 h5
  have h0l := k0_length h key h1 h5
  have hkk : kk h key = if bsz h < key.length then hsh h key else key := rfl
  have hk0 : k0 h key = kk h key ++ List.replicate (bsz h - (kk h key).length) 0 := rfl
  have hsl : ∀ l, (hsh h l).length ≤ 48 := fun l => by rw [hsh_length h l h1 h5]; exact (hsz_le h).1
  have BS := fun W => blockSize_c h W h1 h5
  have SZ := fun W => size_c h W h1 h5
  generalize bsz h = b at *
  generalize hsz h = sz at *
  obtain ⟨ak, ck, rfl, hack, hcmk, -⟩ := hk.form
  have hmk := run_make1 (P := Try.prog) Try.underlying27 inf5 rfl (b : Int) (b : Int) (by omega) (by omega) (by omega) (by omega)
  have hbz : ((b : Int) == 0) = false := by simp; omega
  have HKK := Hid.mk hkk
  have HK0 := Hid.mk hk0
  have H0L := Hid.mk h0l
  clear hkk hk0 h0l
  go_enter Try.func30, Try.ntmps30
  go_wp2_with fail
  refine (BS _).mono ?_
  rintro e w1 ⟨rfl, k1⟩
  have A4 : Arr w1 w.heap.size 58 zer7 := Arr.keep (heap_alloc_new w (.cells zer7.toArray 58)) k1
  have K1 := ((Keep.refl w).alloc (.cells zer7.toArray 58)).trans k1
  have WP := rep_win w1 b
  have KP := (Keep.refl w1).alloc (.cells (rep b (.int .u8 0)) 5)
  have A4' := A4.keep KP
  have K2 := K1.trans KP
  have hl4 := A4.lt
  have hl7 := K1.size
  go_upto_if 22 with fail
  go_cut [8] from 22 to 75 (fun dv wx => Arr wx w.heap.size 58 zer7 ∧ Win wx w1.heap.size 5 [] (k0 h key) [] ∧ Keep w wx)
  case first =>
    by_cases hlt : b < key.length
    · have hlt' : (b : Int) < key.length := by omega
      have he := HKK.out
      rw [if_pos hlt] at he
      have HE := Hid.mk he
      clear he
      go_wp2_with fail
      refine (new_c h _).mono ?_
      rintro e w3 ⟨v3, rfl, o3, k3⟩
      obtain ⟨a3, c3, rfl, -, hc3, -⟩ := o3.bs.form
      rw [List.length_nil]
      have A3 := Arr.new w3 56 [.int .i64 h, .slice a3 0 c3]
      have KA := (Keep.refl w3).alloc (.cells [.int .i64 (h : Int), .slice a3 0 c3].toArray 56)
      go_wp2_with fail
      refine (dwrite_c w3.heap.size 0 (.slice a3 0 c3) _ [] key _ (A3.cell 1) (A3.frozen 1) (Bs.nil _ _ hc3) ((hk.keep K2).keep (k3.trans KA)) (by simp; omega)).mono ?_
      rintro e w5 ⟨nv, w4, rfl, rfl, o4, k4⟩
      have A5 := (A3.keep k4).set 1 nv
      have hlt4 := A3.lt
      have hnb : nv.ownBlock ≠ some w3.heap.size := by intro e; have := (o4.lt _ e).1; have := A3.lt; omega
      have B5 := o4.bs.kept (grown_set (grown_refl w4 (some w3.heap.size)) 1 nv) hnb
      have K5 : Keep w3 (w4.setCell ⟨w3.heap.size, 1, none⟩ nv) := (KA.trans k4).setCell (Nat.le_refl _) _
      go_wp2_with fail
      refine (dsum_c w3.heap.size 0 h nv key _ h1 h5 (A5.cell 0) (A5.cell 1) B5 (by omega)).mono ?_
      rintro e w6 ⟨v6, rfl, o6, k6⟩
      have K6 := k3.trans (K5.trans k6)
      have h6l := hsl key
      obtain ⟨a6, c6, rfl, h6a, h6c, -⟩ := o6.bs.form
      obtain ⟨W, hcp, win, gr⟩ := copy_into (P := Try.prog) (t := 27) Try.underlying27 siz5 (WP.keep K6) o6.bs (o := 0) (k := 0) (n := (hsh h key).length) rfl rfl (by simp; omega) (dLen := b) (dCap := b) (by omega)
      rw [List.take_zero, List.nil_append, Nat.zero_add, ← HE.out] at win
      rw [← HE.out] at hcp
      rw [List.drop_replicate, ← HK0.out] at win
      generalize hn6 : (hsh h key).length = n6 at *
      rw [HE.out, hn6] at hcp
      clear hn6
      go_wp2_with fail
      go_meet
      case rel => exact ⟨(A4'.keep K6).kept gr (by omega), win, (K2.trans K6).grown gr (fun q hq => by simp at hq; omega)⟩
    · have hlt' : ¬ (b : Int) < key.length := by omega
      have he := HKK.out
      rw [if_neg hlt] at he
      have HE := Hid.mk he
      obtain ⟨W, hcp, win, gr⟩ := copy_into (P := Try.prog) (t := 27) Try.underlying27 siz5 WP (hk.keep K2) (o := 0) (k := 0) (n := key.length) rfl rfl (by simp; omega) (dLen := b) (dCap := b) (by omega)
      rw [List.take_zero, List.nil_append, Nat.zero_add, List.drop_replicate] at win
      have win' : Win W w1.heap.size 5 [] (k0 h key) [] := by rw [HK0.out, he]; exact win
      clear he win
      go_wp2_with fail
      go_meet
      case rel => exact ⟨A4'.kept gr (by omega), win', K2.grown gr (fun q hq => by simp at hq; omega)⟩
  case rest =>
    obtain ⟨A4x, WPx, Kx⟩ := hcut
    clear A4 A4' WP KP K2 K1
    go_wp2_with fail
    refine (SZ _).mono ?_
    rintro e w3 ⟨rfl, k3⟩
    go_wp2_with fail
    refine (new_c h _).mono ?_
    rintro e w4 ⟨v4, rfl, o4, k4⟩
    obtain ⟨a4, c4, rfl, -, hc4, -⟩ := o4.bs.form
    rw [List.length_nil]
    go_wp2_with fail
    refine (new_c h _).mono ?_
    rintro e w5 ⟨v5, rfl, o5, k5⟩
    obtain ⟨a5, c5, rfl, -, hc5, -⟩ := o5.bs.form
    rw [List.length_nil]
    have K5 := k3.trans (k4.trans k5)
    have A5 := A4x.keep K5
    have P5 := WPx.keep K5
    have lt4 := A5.lt
    have lt7 := P5.lt
    have hsz5 := (Kx.trans K5).size
    have NS0 : NS w (w5.alloc (.cells #[.int .i64 sz, .int .i64 h, .slice a4 0 c4, .int .i64 h, .slice a5 0 c5, .int .i64 0, .slice none 0 0] 58)) w.heap.size w1.heap.size w5.heap.size (k0 h key) [.int .i64 sz, .int .i64 h, .slice a4 0 c4, .int .i64 h, .slice a5 0 c5, .int .i64 0, .slice none 0 0] :=
      ⟨(Kx.trans K5).alloc _, A5.keep ((Keep.refl _).alloc _), P5.keep ((Keep.refl _).alloc _), heap_alloc_new w5 _, by omega, by omega, by omega, Nat.le_refl _, by omega, by omega⟩
    clear A5 P5 K5 k3 k4 k5 o4 o5 A4x WPx Kx lt4 lt7
    obtain ⟨g4, hg4⟩ : ∃ g, g = w.heap.size := ⟨_, rfl⟩
    obtain ⟨g7, hg7⟩ : ∃ g, g = w1.heap.size := ⟨_, rfl⟩
    obtain ⟨g9, hg9⟩ : ∃ g, g = w5.heap.size := ⟨_, rfl⟩
    have NS0' := NS0
    rw [← hg4, ← hg7, ← hg9] at NS0'
    go_wp2_with fail
    rw [← hg4, ← hg7, ← hg9]
    clear hg4 hg7 hg9 hl4 hl7 hsz5 NS0
    go_loopw [42] (fun iv wr => ∃ k : Nat, k ≤ b ∧ iv = .int .i64 k ∧ NS w wr g4 g7 g9 (xfst (k0 h key) 54 k) [.int .i64 sz, .int .i64 h, .slice a4 0 c4, .int .i64 h, .slice a5 0 c5, .int .i64 0, .slice none 0 0]) (fun i _ => b - (intOf i).toNat)
    case atStart => exact ⟨0, by omega, rfl, by simpa [xfst] using NS0'⟩
    case round =>
      clear NS0'
      obtain ⟨k, hk', rfl, S⟩ := hrel
      by_cases hlt : k < b
      · have hlt' : (k : Int) < b := by omega
        have hg0 : (0 : Int) ≤ k := by omega
        have hkl0 : k < (k0 h key).length := by rw [H0L.out]; exact hlt
        have hc := S.pad.cell (k := k) (o := k) (by rw [xfst_length]; exact hkl0) (by simp)
        rw [xfst_get _ _ _ hkl0] at hc
        have hf := S.pad.frozen k
        have hset := S.setp (i := k) (by rw [xfst_length]; exact hkl0) ((k0 h key)[k] ^^^ 54)
        rw [xfst_set _ _ _ hkl0] at hset
        have hx : bits .xor .u8 ((k0 h key)[k].toNat : Int) 54 = (((k0 h key)[k] ^^^ 54).toNat : Int) := bits_xor8 (k0 h key)[k] 54
        generalize (k0 h key)[k] = x at *
        have HS := Hid.mk hset
        clear hset
        go_wp2_with fail
        go_roundw
        case rel => exact ⟨k + 1, by omega, by go_num, HS.out⟩
        case measure => simp [intOf]; omega
      · have hlt' : ¬ (k : Int) < b := by omega
        have hkb : k = b := by omega
        have hall : xfst (k0 h key) 54 k = hin h key := by rw [hkb, ← H0L.out]; exact xfst_all _ _
        rw [hall] at S
        clear hall
        have hinl : (hin h key).length = b := by rw [hin, List.length_map, H0L.out]
        have HINL := Hid.mk hinl
        have BP := S.pad.bs (n := b) (c := b) hinl.symm (Nat.le_refl _) (by unfold maxLen; omega)
        clear hinl hkb
        go_wp2_with fail
        refine (dwriteL_c g9 1 2 b (.slice a4 0 c4) _ [] (hin h key) (hin h key) _ rfl rfl HINL.out.symm (S.hd.cell 2) (S.hd.frozen 2) (Bs.nil _ _ hc4) BP (by omega)).mono ?_
        rintro e w7 ⟨ai, ci, w6, rfl, rfl, o6, k6⟩
        have S7 := (S.step k6).seth 2 (.slice ai b ci)
        have FI := (Ft.own o6 S).seth 2 (.slice ai b ci)
        clear S k6 o6 BP
        have S7' : NS w (w6.setCell ⟨g9, 2, none⟩ (.slice ai b ci)) g4 g7 g9 (hin h key) [.int .i64 sz, .int .i64 h, .slice ai b ci, .int .i64 h, .slice a5 0 c5, .int .i64 0, .slice none 0 0] := S7
        clear S7
        go_wp2_with fail
        go_loopw [57] (fun iv wr => ∃ k : Nat, k ≤ b ∧ iv = .int .i64 k ∧ NS w wr g4 g7 g9 (xfst (hin h key) 106 k) [.int .i64 sz, .int .i64 h, .slice ai b ci, .int .i64 h, .slice a5 0 c5, .int .i64 0, .slice none 0 0] ∧ Ft wr g4 g7 g9 (.slice ai b ci) (hin h key)) (fun i _ => b - (intOf i).toNat)
        case atStart => exact ⟨0, by omega, rfl, by simpa [xfst] using S7', FI⟩
        case round =>
          clear S7' FI
          obtain ⟨k, hk', rfl, S, FI⟩ := hrel
          by_cases hlt : k < b
          · have hlt' : (k : Int) < b := by omega
            have hg0 : (0 : Int) ≤ k := by omega
            have hkl0 : k < (hin h key).length := by rw [HINL.out]; exact hlt
            have hc := S.pad.cell (k := k) (o := k) (by rw [xfst_length]; exact hkl0) (by simp)
            rw [xfst_get _ _ _ hkl0] at hc
            have hf := S.pad.frozen k
            have hset := S.setp (i := k) (by rw [xfst_length]; exact hkl0) ((hin h key)[k] ^^^ 106)
            rw [xfst_set _ _ _ hkl0] at hset
            have hx : bits .xor .u8 ((hin h key)[k].toNat : Int) 106 = (((hin h key)[k] ^^^ 106).toNat : Int) := bits_xor8 (hin h key)[k] 106
            generalize (hin h key)[k] = x at *
            have HS := Hid.mk hset
            have FS := FI.setp k (.int .u8 (x ^^^ 106).toNat)
            clear hset
            go_wp2_with fail
            go_roundw
            case rel => exact ⟨k + 1, by omega, by go_num, HS.out, FS⟩
            case measure => simp [intOf]; omega
          · have hlt' : ¬ (k : Int) < b := by omega
            have hkb : k = b := by omega
            have hall : xfst (hin h key) 106 k = hout h key := by rw [hkb, ← HINL.out, xfst_all]; exact xor2 _
            rw [hall] at S
            clear hall
            have houtl : (hout h key).length = b := by rw [hout, List.length_map, H0L.out]
            have HOL := Hid.mk houtl
            have BP := S.pad.bs (n := b) (c := b) houtl.symm (Nat.le_refl _) (by unfold maxLen; omega)
            clear houtl hkb
            go_wp2_with fail
            refine (dwriteL_c g9 3 4 b (.slice a5 0 c5) _ [] (hout h key) (hout h key) _ rfl rfl HOL.out.symm (S.hd.cell 4) (S.hd.frozen 4) (Bs.nil _ _ hc5) BP (by omega)).mono ?_
            rintro e w9 ⟨ao, co, w8, rfl, rfl, o8, k8⟩
            have S9 := (S.step k8).seth 4 (.slice ao b co)
            have FO := (Ft.own o8 S).seth 4 (.slice ao b co)
            have FI9 := (FI.step k8).seth 4 (.slice ao b co)
            clear S k8 o8 BP FI
            go_wp2_with fail
            refine (wipe_c g7 b b (hout h key) [] [] _ HOL.out.symm (Nat.le_refl _) (by unfold maxLen; omega) S9.pad).mono ?_
            rintro e w10 ⟨rfl, win10, gr10⟩
            have S10 := S9.grow gr10 win10
            have FO10 := FO.grow gr10
            have FI10 := FI9.grow gr10
            clear S9 FO FI9 gr10 win10
            have S10' : NS w w10 g4 g7 g9 (List.replicate b 0) [.int .i64 sz, .int .i64 h, .slice ai b ci, .int .i64 h, .slice ao b co, .int .i64 0, .slice none 0 0] := S10
            clear S10
            have c1 := S10'.hd.cell 1
            have c2 := S10'.hd.cell 2
            have c5 := S10'.hd.cell 5
            have c6 := S10'.hd.cell 6
            have z5 := S10'.hd.frozen 5
            have z6 := S10'.hd.frozen 6
            simp only [List.getElem?_cons_zero, List.getElem?_cons_succ] at c1 c2 c5 c6
            have S12 : NS w ((w10.setCell ⟨g9, 5, none⟩ (.int .i64 h)).setCell ⟨g9, 6, none⟩ (.slice ai b ci)) g4 g7 g9 (List.replicate b 0) [.int .i64 sz, .int .i64 h, .slice ai b ci, .int .i64 h, .slice ao b co, .int .i64 h, .slice ai b ci] := (S10'.seth 5 (.int .i64 h)).seth 6 (.slice ai b ci)
            have FO12 := (FO10.seth 5 (.int .i64 h)).seth 6 (.slice ai b ci)
            have FI12 := (FI10.seth 5 (.int .i64 h)).seth 6 (.slice ai b ci)
            go_wp2_with (first
              | (refine wpList_load_row (by rfl) 58 (.tmp 9) (by rfl) g9 (by rfl) 58 _ (0, 0) _ S12.hd Try.underlying58 rfl s58 ?_)
              | (refine wpList_store_rowN (by rfl) 58 (.tmp 4) (.tmp 75) (by rfl) g4 [.int .i64 sz, .int .i64 h, .slice ai b ci, .int .i64 h, .slice ao b co, .int .i64 h, .slice ai b ci].toArray (by rfl) (by rfl) 7 58 _ S12.res s58 (by rfl) (by rfl) (by simp [Value.oneCell']) ?_))
            have AR := S12.res.row [.int .i64 sz, .int .i64 h, .slice ai b ci, .int .i64 h, .slice ao b co, .int .i64 h, .slice ai b ci]
            have gR := grown_setRow (grown_refl ((w10.setCell ⟨g9, 5, none⟩ (.int .i64 h)).setCell ⟨g9, 6, none⟩ (.slice ai b ci)) (some g4)) [.int .i64 sz, .int .i64 h, .slice ai b ci, .int .i64 h, .slice ao b co, .int .i64 h, .slice ai b ci].toArray
            have r0 := AR.cell 0
            have r1 := AR.cell 1
            have r2 := AR.cell 2
            have r3 := AR.cell 3
            have r4 := AR.cell 4
            have r5 := AR.cell 5
            have r6 := AR.cell 6
            simp only [List.getElem?_cons_zero, List.getElem?_cons_succ] at r0 r1 r2 r3 r4 r5 r6
            refine bodyPost_ret (v := .tuple #[.agg #[.int .i64 sz, .int .i64 h, .slice ai b ci, .int .i64 h, .slice ao b co, .int .i64 h, .slice ai b ci], .int .i64 0]) ?_ rfl ⟨_, _, rfl, FI12.bs.kept gR FI12.f4, FO12.bs.kept gR FO12.f4, S12.keep.setRow S12.l4 _⟩
            simp [results, Try.results30, go_sem, r0, r1, r2, r3, r4, r5, r6]
end Go.Proofs.Qxb6500769a
