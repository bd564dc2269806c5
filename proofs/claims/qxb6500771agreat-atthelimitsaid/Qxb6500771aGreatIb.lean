/- token.writeHeader, reduce, extend (carried over from 771a). -/
import Derived.Test.Qxb6500771aGreatIa
import Derived.Test.Qxb6500771aGreatOct
import Derived.Deep.RegionWith
namespace Go.Proofs.Qxb6500771aGreat
open Go.RowKit Go.Qm
set_option linter.unusedVariables false
set_option linter.unusedSimpArgs false
/-- A block of five cells, one header. -/
def Five (w : World) (g : Nat) (a b c d e : Value) : Prop := w.heap[g]? = some (.cells [a, b, c, d, e].toArray 56 (0, 0))
theorem Five.new (w : World) (a b c d e : Value) : Five (w.alloc (.cells #[a, b, c, d, e] 56)) w.heap.size a b c d e := heap_alloc_new w _
theorem Five.keep {w w' : World} {g : Nat} {a b c d e : Value} (h : Five w g a b c d e) (k : Keep w w') : Five w' g a b c d e := k.heap h
theorem Five.cells {w : World} {g : Nat} {a b c d e : Value} (h : Five w g a b c d e) :
    w.cell? ⟨g, 0, none⟩ = some a ∧ w.cell? ⟨g, 1, none⟩ = some b ∧ w.cell? ⟨g, 2, none⟩ = some c ∧ w.cell? ⟨g, 3, none⟩ = some d ∧ w.cell? ⟨g, 4, none⟩ = some e := by
  refine ⟨?_, ?_, ?_, ?_, ?_⟩ <;> rw [blk_cell h] <;> rfl
theorem Five.thaw {w : World} {g : Nat} {a b c d e : Value} (h : Five w g a b c d e) :
    w.frozen? ⟨g, 0, none⟩ = false ∧ w.frozen? ⟨g, 1, none⟩ = false ∧ w.frozen? ⟨g, 2, none⟩ = false ∧ w.frozen? ⟨g, 3, none⟩ = false ∧ w.frozen? ⟨g, 4, none⟩ = false :=
  ⟨blk_frozen h _, blk_frozen h _, blk_frozen h _, blk_frozen h _, blk_frozen h _⟩
theorem Five.set2 {w : World} {g : Nat} {a b c d e : Value} (h : Five w g a b c d e) (u : Value) : Five (w.setCell ⟨g, 2, none⟩ u) g a b u d e := blk_set h 2 u
theorem Five.set3 {w : World} {g : Nat} {a b c d e : Value} (h : Five w g a b c d e) (u : Value) : Five (w.setCell ⟨g, 3, none⟩ u) g a b c u e := blk_set h 3 u
theorem Five.other {w : World} {g g' : Nat} {a b c d e : Value} (h : Five w g a b c d e) (i : Nat) (u : Value) (hne : g ≠ g') : Five (w.setCell ⟨g', i, none⟩ u) g a b c d e := by
  have := (grown_set (grown_refl w (some g')) i u).block g (blk_lt h) (by simpa using hne)
  unfold Five
  rw [this]; exact h

theorem Keep.set5 {a w : World} (h : Keep a w) {g : Nat} (hg : a.heap.size ≤ g) (x0 x1 x2 x3 x4 : Value) :
    Keep a (((((w.setCell ⟨g, 0, none⟩ x0).setCell ⟨g, 1, none⟩ x1).setCell ⟨g, 2, none⟩ x2).setCell ⟨g, 3, none⟩ x3).setCell ⟨g, 4, none⟩ x4) :=
  ((((h.setCell hg _).setCell hg _).setCell hg _).setCell hg _).setCell hg _

/-- The octets of a header. -/
def enc (id f ec rrc sq : Nat) : List UInt8 :=
  dig id 2 ++ [UInt8.ofNat f, 255] ++ (if id = 1284 then dig ec 2 ++ dig rrc 2 else [255, 255, 255, 255]) ++ dig sq 8
theorem enc_length (id f ec rrc sq : Nat) : (enc id f ec rrc sq).length = 16 := by
  unfold enc; split <;> simp [dig_length]

/-- 'copy' of octets into a window. -/
theorem copy_into {w : World} {g : Nat} {e : TypeId} {pre post : List Value} {m xs : List UInt8} (h : Win w g e pre m post) {v : Value} (hx : Bs w v xs) {o k n : Nat} (ho : o = pre.length + k) (hn : n = xs.length) (hk : k + n ≤ m.length) {dLen dCap : Nat} (hd : n ≤ dLen) :
    ∃ W, (Builtin.copy_ #[26, 26] 3 #[.slice (some ⟨g, o, none⟩) dLen dCap, v]).run Tryz.prog w = .ok (.int .i64 n) W ∧ Win W g e pre (m.take k ++ xs ++ m.drop (k + n)) post ∧ w.grownBy W (some g) := by
  subst ho hn
  have hr := run_copy1 (P := Tryz.prog) (dT := 26) (sT := 26) (ty := 3) Tryz.underlying26 siz5 (dLen := dLen) (dCap := dCap) (o := pre.length + k) (cur := (pre ++ m.map cb ++ post).toArray) (ys := pre ++ m.map cb ++ post) h rfl hx (cb_one xs) (by simp; omega)
  have hmin : min (xs.map cb).length dLen = xs.length := by simp; omega
  rw [hmin] at hr
  refine ⟨_, hr, ?_, grown_setRow (grown_refl _ _) _⟩
  have he : List.take (pre.length + k) (pre ++ m.map cb ++ post) ++ List.take dLen (xs.map cb) ++ List.drop (pre.length + k + xs.length) (pre ++ m.map cb ++ post) = pre ++ (m.take k ++ xs ++ m.drop (k + xs.length)).map cb ++ post := by
    rw [List.take_of_length_le (l := xs.map cb) (by simp; omega)]
    rw [List.append_assoc pre, List.take_append, List.take_of_length_le (l := pre) (by omega), Nat.add_sub_cancel_left]
    rw [List.take_append_of_le_length (by simp; omega)]
    rw [Nat.add_assoc, List.drop_append, show List.drop (pre.length + (k + xs.length)) pre = [] from List.drop_eq_nil_of_le (by omega), List.nil_append, Nat.add_sub_cancel_left]
    rw [List.drop_append_of_le_length (by simp; omega)]
    simp
  rw [he]
  exact setRow_blk h _

theorem Five.kept {w w' : World} {g g' : Nat} {a b c d e : Value} (h : Five w g a b c d e) (hg : w.grownBy w' (some g')) (hne : g ≠ g') : Five w' g a b c d e := by
  unfold Five
  rw [hg.block g (blk_lt h) (by simpa using hne)]; exact h

theorem digits2_c (v : Nat) (w : World) (hv : v < 65536) : Calls Tryz.prog 70 #[.int .u64 v, .int .i64 2] w fun e w' => ∃ v', e = .returned v' ∧ Own w.heap.size 5 w' v' ((dig v 2).map cb) ∧ Keep w w' :=
  digits_c v 2 w (by omega) (by omega)
theorem digits8_c (v : Nat) (w : World) (hv : v < 2 ^ 64) : Calls Tryz.prog 70 #[.int .u64 v, .int .i64 8] w fun e w' => ∃ v', e = .returned v' ∧ Own w.heap.size 5 w' v' ((dig v 8).map cb) ∧ Keep w w' :=
  digits_c v 8 w hv (by omega)

theorem Five.drew {w : World} {g : Nat} {a b c d e : Value} (h : Five w g a b c d e) : Five w.drew g a b c d e := h

theorem asm1284 (m a b d s : List UInt8) (x : UInt8) (hm : m.length = 16) (ha : a.length = 2) (hb : b.length = 2) (hd : d.length = 2) (hs : s.length = 8) :
    let M2 := (((m.take 0 ++ a ++ m.drop (0 + 2)).set 2 x).set 3 255)
    let M3 := M2.take 4 ++ b ++ M2.drop (4 + 2)
    let M4 := M3.take 6 ++ d ++ M3.drop (6 + 2)
    M4.take 8 ++ s ++ M4.drop (8 + 8) = a ++ [x, 255] ++ (b ++ d) ++ s := by
  match m, a, b, d, s, hm, ha, hb, hd, hs with
  | [m0, m1, m2, m3, m4, m5, m6, m7, m8, m9, m10, m11, m12, m13, m14, m15], [a0, a1], [b0, b1], [d0, d1], [s0, s1, s2, s3, s4, s5, s6, s7], _, _, _, _, _ => rfl

def hflN (M : List UInt8) (k : Nat) : List UInt8 := M.take 4 ++ List.replicate k 255 ++ M.drop (4 + k)
theorem hfl_zero (M : List UInt8) (h : M.length = 16) : hflN M 0 = M := by simp [hflN]
theorem hfl_length (M : List UInt8) (k : Nat) (h : M.length = 16) (hk : k ≤ 4) : (hflN M k).length = 16 := by simp [hflN, h]; omega
theorem hfl_step (M : List UInt8) (k : Nat) (h : M.length = 16) (hk : k < 4) : (hflN M k).set (4 + k) 255 = hflN M (k + 1) := by
  match M, h with
  | [m0, m1, m2, m3, m4, m5, m6, m7, m8, m9, m10, m11, m12, m13, m14, m15], _ =>
    match k, hk with
    | 0, _ => rfl
    | 1, _ => rfl
    | 2, _ => rfl
    | 3, _ => rfl
theorem asm1028 (m a s : List UInt8) (x : UInt8) (hm : m.length = 16) (ha : a.length = 2) (hs : s.length = 8) :
    let M4 := hflN (((m.take 0 ++ a ++ m.drop (0 + 2)).set 2 x).set 3 255) 4
    M4.take 8 ++ s ++ M4.drop (8 + 8) = a ++ [x, 255] ++ [255, 255, 255, 255] ++ s := by
  match m, a, s, hm, ha, hs with
  | [m0, m1, m2, m3, m4, m5, m6, m7, m8, m9, m10, m11, m12, m13, m14, m15], [a0, a1], [s0, s1, s2, s3, s4, s5, s6, s7], _, _, _ => rfl

attribute [local go_sem ↓] Go.wp_at_zero Go.wp_at_succ

set_option maxHeartbeats 4000000 in
theorem writeHeader_c (g p c : Nat) (pre post : List Value) (m : List UInt8) (id f ec rrc sq : Nat) (w : World) (hp : p = pre.length) (hm : m.length = 16) (hc : 16 ≤ c) (hcm : c ≤ maxLen) (hid : id = 1284 ∨ id = 1028) (hf : f < 256) (hec : ec < 65536) (hrrc : rrc < 65536) (hsq : sq < 2 ^ 64) (hg : Win w g 5 pre m post) :
    Calls Tryz.prog 62 #[.slice (some ⟨g, p, none⟩) 16 c, .agg #[.int .u16 id, .int .u8 f, .int .u16 ec, .int .u16 rrc, .int .u64 sq]] w fun e w' => e = .returned (.tuple #[]) ∧ Win w' g 5 pre (enc id f ec rrc sq) post ∧ w.grownBy w' (some g) := by
  unfold maxLen at hcm
  have hid1 : id < 65536 := by omega
  have wid : IntKind.u64.wrap (id : Int) = id := by simp [IntKind.wrap, IntKind.signed, IntKind.bits]; omega
  have wec : IntKind.u64.wrap (ec : Int) = ec := by simp [IntKind.wrap, IntKind.signed, IntKind.bits]; omega
  have wrrc : IntKind.u64.wrap (rrc : Int) = rrc := by simp [IntKind.wrap, IntKind.signed, IntKind.bits]; omega
  have HP := Hid.mk hp
  have HM := Hid.mk hm
  clear hp hm
  have c1 : (16 : Int) ≤ c := by omega
  have gne : w.heap.size ≠ g := by have := hg.lt; omega
  have q1 : ¬ c = 0 := by omega
  have q2 : ¬ c = 4 := by omega
  have q3 : ¬ c = 6 := by omega
  have q4 : ¬ c = 8 := by omega
  go_enter Tryz.func62, Tryz.ntmps62
  go_wp2_with fail
  have B0 := Five.new w (.int .u16 id) (.int .u8 f) (.int .u16 ec) (.int .u16 rrc) (.int .u64 sq)
  have K0 := ((Keep.refl w).alloc (.cells #[.int .u16 id, .int .u8 f, .int .u16 ec, .int .u16 rrc, .int .u64 sq] 56)).drew
  go_region_with (go_at_call 70; refine (digits2_c id _ hid1).mono ?_; rintro e w1 ⟨dv, rfl, ow, k1⟩; obtain ⟨W1, hcp, win1, gr1⟩ := copy_into (hg.keep (K0.trans k1)) ow.bs (o := p) (k := 0) (dLen := 16) (dCap := c) HP.out (dig_length id 2).symm (by rw [HM.out]; omega) (by omega))
  have W1g := keep_grown (K0.trans k1) (some g)
  have G1 := grown_trans W1g gr1
  have B1 := (B0.drew.keep k1).kept gr1 gne
  clear hcp ow k1 K0 B0 gr1 W1g
  obtain ⟨b0, b1, b2, b3, b4⟩ := B1.cells
  have L1 : (m.take 0 ++ dig id 2 ++ m.drop (0 + 2)).length = 16 := by rw [List.length_append, List.length_append, dig_length, List.length_drop, HM.out]; rfl
  generalize hM1 : m.take 0 ++ dig id 2 ++ m.drop (0 + 2) = M1 at win1 L1
  have x2 := win1.cell (k := 2) (o := p + 2) (by omega) (by rw [HP.out])
  have z2 := win1.frozen (p + 2)
  have win2 := win1.set (k := 2) (o := p + 2) (by omega) (UInt8.ofNat f) (by rw [HP.out])
  have hfb : (((UInt8.ofNat f).toNat : Nat) : Int) = f := by rw [UInt8.toNat_ofNat_of_lt' (by simpa [UInt8.size] using hf)]
  rw [hfb] at win2
  have x3 := win2.cell (k := 3) (o := p + 3) (by simp; omega) (by rw [HP.out])
  have z3 := win2.frozen (p + 3)
  have win3 : Win ((W1.setCell ⟨g, p + 2, none⟩ (.int .u8 f)).setCell ⟨g, p + 3, none⟩ (.int .u8 255)) g 5 pre ((M1.set 2 (UInt8.ofNat f)).set 3 255) post := win2.set (k := 3) (o := p + 3) (by simp; omega) 255 (by rw [HP.out])
  have B2 := (B1.other (p + 2) (.int .u8 f) gne).other (p + 3) (.int .u8 255) gne
  have G2 := grown_set (grown_set G1 (p + 2) (.int .u8 f)) (p + 3) (.int .u8 255)
  obtain ⟨W2, hW2⟩ : ∃ W, W = (W1.setCell ⟨g, p + 2, none⟩ (.int .u8 f)).setCell ⟨g, p + 3, none⟩ (.int .u8 255) := ⟨_, rfl⟩
  rw [← hW2] at win3 B2 G2
  have HW2 := Hid.mk hW2
  have L2 : ((M1.set 2 (UInt8.ofNat f)).set 3 255).length = 16 := by simp; exact L1
  generalize hM2 : (M1.set 2 (UInt8.ofNat f)).set 3 255 = M2 at win3 L2
  have L2' := Hid.mk L2
  have HM1 := Hid.mk hM1
  have HM2 := Hid.mk hM2
  clear hW2 win2 hfb L2 hM1 hM2
  rcases hid with rfl | rfl
  · go_wp2_with fail
    rw [← HW2.out]
    obtain ⟨b0', b1', b2', b3', b4'⟩ := B2.drew.cells
    clear b0 b1 b2 b3 b4 x2 x3 z2 z3
    go_region_with (go_at_call 70; refine (digits2_c ec _ hec).mono ?_; rintro e w3 ⟨dv3, rfl, ow3, k3⟩; obtain ⟨W3, hcp3, win4, gr3⟩ := copy_into (win3.drew.keep k3) ow3.bs (o := p + 4) (k := 4) (dLen := 12) (dCap := c - 4) (by rw [HP.out]) (dig_length ec 2).symm (by rw [L2'.out]; omega) (by omega))
    have G3 := grown_trans (grown_keep (grown_drew G2) k3) gr3
    have B3 := (B2.drew.keep k3).kept gr3 gne
    have L3 : Hid ((M2.take 4 ++ dig ec 2 ++ M2.drop (4 + 2)).length = 16) := Hid.mk (by rw [List.length_append, List.length_append, dig_length, List.length_drop, List.length_take, L2'.out]; rfl)
    generalize hM3 : M2.take 4 ++ dig ec 2 ++ M2.drop (4 + 2) = M3 at win4 L3
    have HM3 := Hid.mk hM3
    obtain ⟨p0, p1, p2, p3, p4⟩ := B3.drew.cells
    clear hcp3 ow3 k3 gr3 hM3 b0' b1' b2' b3' b4'
    go_wp2_with fail
    go_region_with (go_at_call 70; refine (digits2_c rrc _ hrrc).mono ?_; rintro e w4 ⟨dv4, rfl, ow4, k4⟩; obtain ⟨W4, hcp4, win5, gr4⟩ := copy_into (win4.drew.keep k4) ow4.bs (o := p + 6) (k := 6) (dLen := 10) (dCap := c - 6) (by rw [HP.out]) (dig_length rrc 2).symm (by rw [L3.out]; omega) (by omega))
    have G4 := grown_trans (grown_keep (grown_drew G3) k4) gr4
    have B4 := (B3.drew.keep k4).kept gr4 gne
    have L4 : Hid ((M3.take 6 ++ dig rrc 2 ++ M3.drop (6 + 2)).length = 16) := Hid.mk (by rw [List.length_append, List.length_append, dig_length, List.length_drop, List.length_take, L3.out]; rfl)
    generalize hM4 : M3.take 6 ++ dig rrc 2 ++ M3.drop (6 + 2) = M4 at win5 L4
    have HM4 := Hid.mk hM4
    obtain ⟨r0, r1, r2, r3, r4⟩ := B4.drew.cells
    clear hcp4 ow4 k4 gr4 hM4 p0 p1 p2 p3 p4
    go_wp2_with fail
    go_region_with (go_at_call 70; refine (digits8_c sq _ hsq).mono ?_; rintro e w5 ⟨dv5, rfl, ow5, k5⟩; obtain ⟨W5, hcp5, win6, gr5⟩ := copy_into (win5.drew.keep k5) ow5.bs (o := p + 8) (k := 8) (dLen := 8) (dCap := c - 8) (by rw [HP.out]) (dig_length sq 8).symm (by rw [L4.out]; omega) (by omega))
    have G5 := grown_trans (grown_keep (grown_drew G4) k5) gr5
    clear hcp5 ow5 k5 gr5 r0 r1 r2 r3 r4
    go_wp2
    go_end0
    refine ⟨rfl, ?_, G5⟩
    rw [← HM4.out, ← HM3.out, ← HM2.out, ← HM1.out, asm1284 m _ _ _ _ _ HM.out (dig_length _ _) (dig_length _ _) (dig_length _ _) (dig_length _ _)] at win6
    exact win6
  · go_wp2_with fail
    rw [← HW2.out]
    clear b0 b1 b2 b3 b4 x2 x3 z2 z3
    go_loopw [4] (fun iv wr => ∃ k : Nat, k ≤ 4 ∧ iv = .int .i64 (4 + k : Nat) ∧ Win wr g 5 pre (hflN M2 k) post ∧ w.grownBy wr (some g) ∧ Five wr w.heap.size (.int .u16 (1028 : Nat)) (.int .u8 f) (.int .u16 ec) (.int .u16 rrc) (.int .u64 sq)) (fun i _ => 8 - (intOf i).toNat)
    case atStart => exact ⟨0, by omega, rfl, by rw [hfl_zero M2 L2'.out]; exact win3, G2, B2⟩
    case round =>
      clear win3 B2 G2 win1 B1 HW2 hg
      obtain ⟨k, hk, rfl, win3, G2, B2⟩ := hrel
      by_cases hlt : k < 4
      · have hlt' : (4 + k : Int) < 8 := by omega
        have hlt2 : (4 + k : Int) < 16 := by omega
        have hlt3 : (0 : Int) ≤ 4 + k := by omega
        have LF := Hid.mk (hfl_length M2 k L2'.out (by omega))
        have xk := win3.cell (k := 4 + k) (o := p + (4 + k)) (by rw [LF.out]; omega) (by rw [HP.out])
        have zk := win3.frozen (p + (4 + k))
        have win4 : Win (wr.setCell ⟨g, p + (4 + k), none⟩ (.int .u8 255)) g 5 pre ((hflN M2 k).set (4 + k) 255) post := win3.set (k := 4 + k) (o := p + (4 + k)) (by rw [LF.out]; omega) 255 (by rw [HP.out])
        rw [hfl_step M2 k L2'.out hlt] at win4
        have B4 := B2.other (p + (4 + k)) (.int .u8 255) gne
        have G4 := grown_set G2 (p + (4 + k)) (.int .u8 255)
        go_wp2
        go_roundw
        case rel => exact ⟨k + 1, by omega, by go_num, win4, G4, B4⟩
        case measure => simp [intOf]; omega
      · have hlt' : ¬ (4 + k : Int) < 8 := by omega
        have h4 : k = 4 := by omega
        have L4 := Hid.mk (hfl_length M2 k L2'.out (by omega))
        obtain ⟨r0, r1, r2, r3, r4⟩ := B2.drew.cells
        clear h4
        go_wp2_with fail
        go_region_with (go_at_call 70; refine (digits8_c sq _ hsq).mono ?_; rintro e w5 ⟨dv5, rfl, ow5, k5⟩; obtain ⟨W5, hcp5, win6, gr5⟩ := copy_into (win3.drew.keep k5) ow5.bs (o := p + 8) (k := 8) (dLen := 8) (dCap := c - 8) (by rw [HP.out]) (dig_length sq 8).symm (by rw [L4.out]; omega) (by omega))
        have G5 := grown_trans (grown_keep (grown_drew G2) k5) gr5
        clear hcp5 ow5 k5 gr5 r0 r1 r2 r3 r4
        go_wp2
        go_end0
        refine ⟨rfl, ?_, G5⟩
        have h4 : k = 4 := by omega
        subst h4
        rw [← HM2.out, ← HM1.out, asm1028 m _ _ _ HM.out (dig_length _ _) (dig_length _ _)] at win6
        exact win6

set_option maxHeartbeats 1000000 in
set_option maxHeartbeats 400000 in
theorem reduce_c (c n : Int) (w : World) (hn : 0 < n) (hn1 : n ≤ 1000000000) (hc : -9223372036854775808 ≤ c) (hc1 : c ≤ 9223372036854775807) :
    Calls Tryz.prog 65 #[.int .i64 c, .int .i64 n] w fun e w' => e = .returned (.int .i64 (c % n)) ∧ w' = w := by
  have hn0 : ¬ n = 0 := by omega
  obtain ⟨h1, h2, h3, h4⟩ := tmod_facts c n hn
  have H3 := Hid.mk h3
  have H4 := Hid.mk h4
  clear h3 h4
  by_cases h : c.tmod n < 0
  · go_enter Tryz.func65, Tryz.ntmps65
    go_wp2
    go_ret
    exact ⟨ret_int (H3.out h), rfl⟩
  · go_enter Tryz.func65, Tryz.ntmps65
    go_wp2
    go_ret
    exact ⟨ret_int (H4.out (by omega)), rfl⟩

/-- extend of an empty slice without room: a fresh one. -/
theorem extend_c (a : Option Addr) (n : Nat) (w : World) (hn : n ≤ 4000000) (hn0 : 0 < n) :
    Calls Tryz.prog 40 #[.slice a 0 0, .int .i64 n] w fun e w' => ∃ g, e = .returned (.tuple #[.slice (some ⟨g, 0, none⟩) n n, .slice (some ⟨g, 0, none⟩) n n]) ∧ w.heap.size ≤ g ∧ Win w' g 5 [] (List.replicate n 0) [] ∧ Keep w w' := by
  have hn2 : (0 : Int) < n := by omega
  have t1 : decide ((n : Int) ≤ 0) = false := by simp; omega
  have t2 : IntKind.i64.wrap (n : Int) = n := by simp [IntKind.wrap, IntKind.signed, IntKind.bits]; omega
  have hmk := run_make1 (P := Tryz.prog) Tryz.underlying26 inf5 rfl n n (by omega) (by omega) (by omega) (by omega) w
  simp only [Int.toNat_natCast] at hmk
  have hcp := run_copy_none (P := Tryz.prog) (w.alloc (.cells (rep n (.int .u8 0)) 5)) 26 26 3 5 (some ⟨w.heap.size, 0, none⟩) a n n 0 0 Tryz.underlying26 siz5 (by simp)
  have HB := Hid.mk hn
  clear hn hn0
  go_enter Tryz.func40, Tryz.ntmps40
  set_option maxRecDepth 6000 in go_wp2_with fail
  have hn1 : (n : Int) ≤ 4000000 := by have := HB.out; omega
  go_region
  all_goals
    go_wp2
    go_ret2
    refine ⟨_, rfl, Nat.le_refl _, ?_, ((Keep.refl w).alloc _).drew⟩
    show (w.alloc (.cells (rep n (.int .u8 0)) 5)).heap[w.heap.size]? = _
    rw [heap_alloc_new, rep_cb]; simp
end Go.Proofs.Qxb6500771aGreat
