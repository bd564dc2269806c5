/- token.PeekID, ParseHeader (carried over from 771a). -/
import Derived.Test.Qxb6500771aGreatIb
import Derived.Laws.StructEq
namespace Go.Proofs.Qxb6500771aGreat
open Go.RowKit Go.Qm
set_option linter.unusedVariables false
set_option linter.unusedSimpArgs false
/-- What PeekID answers. -/
def peek (l : List UInt8) : Nat × Nat := if l.length < 16 then (0, 8) else if num (l.take 2) ≠ 1284 ∧ num (l.take 2) ≠ 1028 then (0, 10) else (num (l.take 2), 0)

theorem num2_lt (l : List UInt8) (h : l.length ≤ 2) : num l < 65536 := by
  have := num_lt l
  have h2 : 256 ^ l.length ≤ 256 ^ 2 := Nat.pow_le_pow_right (by omega) h
  omega

set_option maxHeartbeats 1000000 in
theorem peekID_c (v : Value) (l : List UInt8) (w : World) (h : Bs w v l) :
    Calls Tryz.prog 73 #[v] w fun e w' => e = .returned (.tuple #[.int .u16 (peek l).1, .int .i64 (peek l).2]) ∧ Keep w w' := by
  have hb := h
  obtain ⟨a, c, rfl, hac, hcm, hca⟩ := h.form
  clear h
  unfold maxLen at hcm
  by_cases hs : l.length < 16
  · have HP := Hid.mk (show peek l = (0, 8) by simp [peek, hs])
    have hs' : (l.length : Int) < 16 := by omega
    clear hca
    go_enter Tryz.func73, Tryz.ntmps73
    go_wp2
    go_ret2
    exact ⟨by rw [HP.out]; rfl, Keep.refl _⟩
  · have HP := Hid.mk (show peek l = if num (l.take 2) ≠ 1284 ∧ num (l.take 2) ≠ 1028 then (0, 10) else (num (l.take 2), 0) by simp [peek, hs])
    have hs' : ¬ (l.length : Int) < 16 := by omega
    obtain ⟨b, o, rfl, _⟩ := hca 0 (by omega)
    clear hca
    have g1 : (2 : Int) ≤ l.length := by omega
    have g2 : (2 : Int) ≤ c := by omega
    have g3 : 2 ≤ c := by omega
    have p1 : Bs w (.slice (some ⟨b, o, none⟩) 2 c) (l.take 2) := by
      have := Bs.part hb (i := 0) (j := 2) (by omega) (by omega) (some ⟨b, o, none⟩) (fun _ => by simp [Addr.add])
      simpa using this
    have hn := num2_lt (l.take 2) (by rw [List.length_take]; omega)
    have hn' : (num (l.take 2) : Int) < 65536 := by omega
    have hw : IntKind.u16.wrap (num (l.take 2) : Int) = num (l.take 2) := by simp [IntKind.wrap, IntKind.signed, IntKind.bits]; omega
    generalize hid : num (l.take 2) = id at HP hn hn' hw
    go_enter Tryz.func73, Tryz.ntmps73
    go_wp2_with fail
    refine (number_c _ (l.take 2) _ p1 (by rw [List.length_take]; omega)).mono ?_
    rintro e w1 ⟨rfl, k1⟩
    rw [hid]
    by_cases h1 : id ≠ 1284 ∧ id ≠ 1028
    · obtain ⟨x, y⟩ := h1
      have a' : ((id : Int) != 1284) = true := bne_t (by omega)
      have b' : ((id : Int) != 1028) = true := bne_t (by omega)
      rw [if_pos ⟨x, y⟩] at HP
      clear x y hid
      go_wp2
      go_ret2
      exact ⟨by rw [HP.out]; rfl, k1⟩
    · rw [if_neg h1] at HP
      by_cases h2 : id = 1284
      · have a' : ((id : Int) != 1284) = false := bne_f (by omega)
        clear h1 h2 hid
        go_wp2
        go_ret2
        exact ⟨by rw [HP.out]; rfl, k1⟩
      · have a' : ((id : Int) != 1284) = true := bne_t (by omega)
        have b' : ((id : Int) != 1028) = false := bne_f (by omega)
        clear h1 h2 hid
        go_wp2
        go_ret2
        exact ⟨by rw [HP.out]; rfl, k1⟩
/-- How many filler octets a token of the kind id has. -/
def fil (id : Nat) : Nat := if id = 1028 then 5 else 1
/-- What ParseHeader answers: the verdict, and the header. -/
def parse (l : List UInt8) : Nat × Nat × Nat × Nat × Nat × Nat :=
  if (peek l).2 ≠ 0 then ((peek l).2, 0, 0, 0, 0, 0)
  else if cf (peek l).1 (l.getD 2 0).toNat ≠ 0 then (3, 0, 0, 0, 0, 0)
  else if ∃ i, i < fil (peek l).1 ∧ l.getD (3 + i) 0 ≠ 255 then (11, 0, 0, 0, 0, 0)
  else if (peek l).1 = 1284 then (0, (peek l).1, (l.getD 2 0).toNat, num ((l.drop 4).take 2), num ((l.drop 6).take 2), num ((l.drop 8).take 8))
  else (0, (peek l).1, (l.getD 2 0).toNat, 0, 0, num ((l.drop 8).take 8))

theorem peek_cases (l : List UInt8) : (l.length < 16 ∧ peek l = (0, 8)) ∨ (16 ≤ l.length ∧ peek l = (0, 10)) ∨ (16 ≤ l.length ∧ peek l = (1284, 0)) ∨ (16 ≤ l.length ∧ peek l = (1028, 0)) := by
  unfold peek
  by_cases h : l.length < 16
  · left; exact ⟨h, by simp [h]⟩
  · right
    by_cases h1 : num (l.take 2) ≠ 1284 ∧ num (l.take 2) ≠ 1028
    · left; exact ⟨by omega, by rw [if_neg h, if_pos h1]⟩
    · right
      by_cases h2 : num (l.take 2) = 1284
      · left; exact ⟨by omega, by rw [if_neg h, if_neg h1, h2]⟩
      · right; exact ⟨by omega, by rw [if_neg h, if_neg h1, show num (l.take 2) = 1028 by omega]⟩

set_option maxHeartbeats 2000000 in
theorem parseHeader_bad (v : Value) (l : List UInt8) (w : World) (h : Bs w v l) (q : Nat) (hp : peek l = (0, q)) (hq : q = 8 ∨ q = 10) :
    Calls Tryz.prog 64 #[v] w fun e w' => e = .returned (.tuple #[.agg #[.int .u16 0, .int .u8 0, .int .u16 0, .int .u16 0, .int .u64 0], .int .i64 q]) ∧ Keep w w' := by
  have hb := h
  obtain ⟨a, c, rfl, hac, hcm, hca⟩ := h.form
  clear h
  unfold maxLen at hcm
  have hw : Keep w (w.alloc (.cells #[.int .u16 0, .int .u8 0, .int .u16 0, .int .u16 0, .int .u64 0] 56)) := (Keep.refl _).alloc _
  have hq' : ((q : Int) != 0) = true := bne_t (by omega)
  clear hca
  go_enter Tryz.func64, Tryz.ntmps64
  go_wp2_with fail
  refine (peekID_c _ l _ (hb.keep hw)).mono ?_
  rintro e w1 ⟨rfl, k1⟩
  rw [hp]
  have F := (Five.new w (.int .u16 0) (.int .u8 0) (.int .u16 0) (.int .u16 0) (.int .u64 0)).keep k1
  obtain ⟨c0, c1, c2, c3, c4⟩ := F.cells
  obtain ⟨z0, z1, z2, z3, z4⟩ := F.thaw
  go_wp2
  refine bodyPost_ret (v := .tuple #[.agg #[.int .u16 0, .int .u8 0, .int .u16 0, .int .u16 0, .int .u64 0], .int .i64 q]) (by simp [results, Tryz.results64, go_sem, c0, c1, c2, c3, c4]) rfl ⟨rfl, Keep.set5 (hw.trans k1) (Nat.le_refl _) _ _ _ _ _⟩

theorem getD_get {l : List UInt8} {i : Nat} (h : i < l.length) : l.getD i 0 = l[i] := by simp [h]

set_option maxHeartbeats 4000000 in
theorem parseHeader_ok (v : Value) (l : List UInt8) (w : World) (h : Bs w v l) (id : Nat) (hl : 16 ≤ l.length) (hp : peek l = (id, 0)) (hid : id = 1284 ∨ id = 1028) :
    Calls Tryz.prog 64 #[v] w fun e w' => e = .returned (.tuple #[.agg #[.int .u16 (parse l).2.1, .int .u8 (parse l).2.2.1, .int .u16 (parse l).2.2.2.1, .int .u16 (parse l).2.2.2.2.1, .int .u64 (parse l).2.2.2.2.2], .int .i64 (parse l).1]) ∧ Keep w w' := by
  have hb := h
  obtain ⟨a, c, rfl, hac, hcm, hca⟩ := h.form
  clear h
  unfold maxLen at hcm
  obtain ⟨b, o, rfl, _⟩ := hca 0 (by omega)
  have hcell : ∀ k (hk : k < l.length), w.cell? ⟨b, o + k, none⟩ = some (.int .u8 l[k].toNat) := fun k hk => by
    obtain ⟨b', o', he, hc⟩ := hca k hk
    simp only [Option.some.injEq, Addr.mk.injEq, and_true] at he
    obtain ⟨rfl, rfl⟩ := he
    exact hc
  clear hca
  have hw : Keep w (w.alloc (.cells #[.int .u16 0, .int .u8 0, .int .u16 0, .int .u16 0, .int .u64 0] 56)) := (Keep.refl _).alloc _
  have hl' : (16 : Int) ≤ l.length := by omega
  have HL := Hid.mk hl
  have g1 : (2 : Int) < l.length := by omega
  go_enter Tryz.func64, Tryz.ntmps64
  go_wp2_with fail
  refine (peekID_c _ l _ (hb.keep hw)).mono ?_
  rintro e w1 ⟨rfl, k1⟩
  rw [hp]
  have m2 := (hw.trans k1).cell (hcell 2 (by omega))
  have F := (Five.new w (.int .u16 0) (.int .u8 0) (.int .u16 0) (.int .u16 0) (.int .u64 0)).keep k1
  have hf := l[2].toNat_lt
  generalize hfv : l[2].toNat = f at m2 hf
  have kw1 := hw.trans k1
  clear k1 hw
  go_wp2_with fail
  have kg := (Keep.refl w1).alloc (.cells #[.int .u16 id, .int .u8 f, .int .u16 0, .int .u16 0, .int .u64 0] 56)
  refine (checkFlags_c id f _ (by omega) hf).mono ?_
  rintro e w2 ⟨rfl, k2⟩
  have G := (Five.new w1 (.int .u16 id) (.int .u8 f) (.int .u16 0) (.int .u16 0) (.int .u64 0)).keep k2
  have F2 := F.keep (kg.trans k2)
  have kw2 := kw1.trans (kg.trans k2)
  have hgg : w.heap.size ≠ w1.heap.size := by have := blk_lt F; omega
  have hg2 : w.heap.size ≤ w1.heap.size := kw1.size
  have hcell2 : ∀ k (hk : k < l.length), w2.cell? ⟨b, o + k, none⟩ = some (.int .u8 l[k].toNat) := fun k hk => kw2.cell (hcell k hk)
  have hb2 := hb.keep kw2
  clear k2 kg F m2 hcell
  obtain ⟨f0, f1, f2, f3, f4⟩ := F2.cells
  obtain ⟨y0, y1, y2, y3, y4⟩ := F2.thaw
  have HF := Hid.mk (show (l.getD 2 0).toNat = f by rw [getD_get (by omega)]; exact hfv)
  clear hfv
  rcases cf_or id f with hc | hc
  · have HP := Hid.mk (show parse l = (3, 0, 0, 0, 0, 0) by simp only [parse, hp, HF.out, hc]; simp)
    rw [hc]
    clear hc hp hcell2 G
    go_wp2
    rw [HP.out]
    refine bodyPost_ret (v := .tuple #[.agg #[.int .u16 0, .int .u8 0, .int .u16 0, .int .u16 0, .int .u64 0], .int .i64 3]) (by simp [results, Tryz.results64, go_sem, f0, f1, f2, f3, f4]) rfl ⟨rfl, Keep.set5 kw2 (Nat.le_refl _) _ _ _ _ _⟩
  · rw [hc]
    have HP := Hid.mk (show parse l = if ∃ i, i < fil id ∧ l.getD (3 + i) 0 ≠ 255 then (11, 0, 0, 0, 0, 0) else if id = 1284 then (0, id, f, num ((l.drop 4).take 2), num ((l.drop 6).take 2), num ((l.drop 8).take 8)) else (0, id, f, 0, 0, num ((l.drop 8).take 8)) by simp only [parse, hp, HF.out, hc]; simp)
    clear hc hp
    rcases hid with rfl | rfl
    · have HFil := Hid.mk (show fil 1284 = 1 from rfl)
      go_wp2_with fail
      go_loop [8] (fun iv => ∃ k : Nat, k ≤ 1 ∧ iv = .int .i64 k ∧ ∀ i, i < k → l.getD (3 + i) 0 = 255) (fun i => 1 - (intOf i).toNat)
      case atStart => exact ⟨0, by omega, rfl, fun i hi => by omega⟩
      case round =>
        obtain ⟨k, hk, rfl, hall⟩ := hrel
        by_cases hlt : k < 1
        · have hlt' : (k : Int) < 1 := by omega
          have hlt2 : (3 + k : Int) < l.length := by omega
          have mk := hcell2 (3 + k) (by omega)
          have HG := Hid.mk (getD_get (l := l) (i := 3 + k) (by omega))
          have HA := Hid.mk hall
          clear hall
          cases hx : ((l[3 + k].toNat : Int) != 255) with
          | true =>
            go_wp2
            rw [HP.out, if_pos ⟨k, by rw [HFil.out]; omega, fun e => by rw [HG.out] at e; rw [e] at hx; simp at hx⟩]
            refine bodyPost_ret (v := .tuple #[.agg #[.int .u16 0, .int .u8 0, .int .u16 0, .int .u16 0, .int .u64 0], .int .i64 11]) (by simp [results, Tryz.results64, go_sem, f0, f1, f2, f3, f4]) rfl ⟨rfl, Keep.set5 kw2 (Nat.le_refl _) _ _ _ _ _⟩
          | false =>
            go_wp2
            go_round
            case rel =>
              refine ⟨k + 1, by omega, by go_num, fun i hi => ?_⟩
              by_cases hik : i < k
              · exact HA.out i hik
              · have : i = k := by omega
                subst this
                rw [HG.out]
                exact UInt8.toNat_inj.1 (show l[3 + i].toNat = 255 by simp at hx; omega)
            case measure => simp [intOf]; omega
        · have hlt' : ¬ (k : Int) < 1 := by omega
          have hno : ¬ ∃ i, i < fil 1284 ∧ l.getD (3 + i) 0 ≠ 255 := by
            rintro ⟨i, hi, hne⟩
            rw [HFil.out] at hi
            exact hne (hall i (by omega))
          rw [if_neg hno] at HP
          clear hno hall hcell2
          have q0 : 8 ≤ c := by omega
          have q1 : (16 : Int) ≤ c := by omega
          have q2 : ¬ c = 8 := by omega
          have q3 : ¬ c = 4 := by omega
          have q4 : ¬ c = 6 := by omega
          have q5 : 4 ≤ c := by omega
          have q6 : 6 ≤ c := by omega
          have q7 : (8 : Int) ≤ c := by omega
          have q8 : (6 : Int) ≤ c := by omega
          have s3 : ∀ (W : World), Keep w W → Bs W (.slice (some ⟨b, o + 8, none⟩) 8 (c - 8)) ((l.drop 8).take 8) := fun W kW => by
            have := Bs.part (hb.keep kW) (i := 8) (j := 16) (by omega) (by omega) (some ⟨b, o + 8, none⟩) (fun _ => by simp [Addr.add])
            simpa using this
          rw [if_pos trivial] at HP
          have hgg' : w1.heap.size ≠ w.heap.size := fun e => hgg e.symm
          have s1 : Bs w2 (.slice (some ⟨b, o + 4, none⟩) 2 (c - 4)) ((l.drop 4).take 2) := by
            have := Bs.part hb2 (i := 4) (j := 6) (by omega) (by omega) (some ⟨b, o + 4, none⟩) (fun _ => by simp [Addr.add])
            simpa using this
          have n1 := num2_lt ((l.drop 4).take 2) (by rw [List.length_take]; omega)
          have n2 := num2_lt ((l.drop 6).take 2) (by rw [List.length_take]; omega)
          have u1 : IntKind.u16.wrap (num ((l.drop 4).take 2) : Int) = num ((l.drop 4).take 2) := by simp [IntKind.wrap, IntKind.signed, IntKind.bits]; omega
          have u2 : IntKind.u16.wrap (num ((l.drop 6).take 2) : Int) = num ((l.drop 6).take 2) := by simp [IntKind.wrap, IntKind.signed, IntKind.bits]; omega
          generalize hn1 : num ((l.drop 4).take 2) = a1 at HP n1 u1
          generalize hn2 : num ((l.drop 6).take 2) = a2 at HP n2 u2
          go_wp2_with fail
          refine (number_c _ _ _ s1 (by rw [List.length_take]; omega)).mono ?_
          rintro e w3 ⟨rfl, k3⟩
          rw [hn1]
          have G3 := G.keep k3
          have i2 := G3.cells.2.2.1
          have j2 := G3.thaw.2.2.1
          have G3' := G3.set2 (.int .u16 a1)
          have kw3 := (kw2.trans k3).setCell (p := ⟨w1.heap.size, 2, none⟩) hg2 (.int .u16 a1)
          have F3 := (F2.keep k3).other 2 (.int .u16 a1) hgg
          have s2 : Bs (w3.setCell ⟨w1.heap.size, 2, none⟩ (.int .u16 a1)) (.slice (some ⟨b, o + 6, none⟩) 2 (c - 6)) ((l.drop 6).take 2) := by
            have := Bs.part (hb.keep kw3) (i := 6) (j := 8) (by omega) (by omega) (some ⟨b, o + 6, none⟩) (fun _ => by simp [Addr.add])
            simpa using this
          go_wp2_with fail
          refine (number_c _ _ _ s2 (by rw [List.length_take]; omega)).mono ?_
          rintro e w4 ⟨rfl, k4⟩
          rw [hn2]
          have G4 := G3'.keep k4
          have i3 := G4.cells.2.2.2.1
          have j3 := G4.thaw.2.2.2.1
          have G4' := G4.set3 (.int .u16 a2)
          have kw4 := (kw3.trans k4).setCell (p := ⟨w1.heap.size, 3, none⟩) hg2 (.int .u16 a2)
          have F4 := (F3.keep k4).other 3 (.int .u16 a2) hgg
          clear i2 j2
          go_wp2_with fail
          refine (number_c _ _ _ (s3 _ kw4) (by rw [List.length_take]; omega)).mono ?_
          rintro e w5 ⟨rfl, k5⟩
          have G5 := G4'.keep k5
          have FF := F4.keep k5
          have kw5 := kw4.trans k5
          clear i3 j3 s1 s2
          obtain ⟨e0, e1, e2, e3, e4⟩ := G5.cells
          obtain ⟨x0, x1, x2, x3, x4⟩ := G5.thaw
          obtain ⟨d0, d1, d2, d3, d4⟩ := FF.cells
          obtain ⟨t0, t1, t2, t3, t4⟩ := FF.thaw
          generalize hns : num ((l.drop 8).take 8) = ns at HP
          clear f0 f1 f2 f3 f4 y0 y1 y2 y3 y4
          go_wp2
          rw [HP.out]
          refine bodyPost_ret (v := .tuple #[.agg #[.int .u16 1284, .int .u8 f, .int .u16 a1, .int .u16 a2, .int .u64 ns], .int .i64 0]) (by simp [results, Tryz.results64, go_sem, d0, d1, d2, d3, d4, e0, e1, e2, e3, e4, hgg, hgg']) rfl ⟨rfl, Keep.set5 (kw5.setCell hg2 _) (Nat.le_refl _) _ _ _ _ _⟩
    · have HFil := Hid.mk (show fil 1028 = 5 from rfl)
      go_wp2_with fail
      go_loop [8] (fun iv => ∃ k : Nat, k ≤ 5 ∧ iv = .int .i64 k ∧ ∀ i, i < k → l.getD (3 + i) 0 = 255) (fun i => 5 - (intOf i).toNat)
      case atStart => exact ⟨0, by omega, rfl, fun i hi => by omega⟩
      case round =>
        obtain ⟨k, hk, rfl, hall⟩ := hrel
        by_cases hlt : k < 5
        · have hlt' : (k : Int) < 5 := by omega
          have hlt2 : (3 + k : Int) < l.length := by omega
          have mk := hcell2 (3 + k) (by omega)
          have HG := Hid.mk (getD_get (l := l) (i := 3 + k) (by omega))
          have HA := Hid.mk hall
          clear hall
          cases hx : ((l[3 + k].toNat : Int) != 255) with
          | true =>
            go_wp2
            rw [HP.out, if_pos ⟨k, by rw [HFil.out]; omega, fun e => by rw [HG.out] at e; rw [e] at hx; simp at hx⟩]
            refine bodyPost_ret (v := .tuple #[.agg #[.int .u16 0, .int .u8 0, .int .u16 0, .int .u16 0, .int .u64 0], .int .i64 11]) (by simp [results, Tryz.results64, go_sem, f0, f1, f2, f3, f4]) rfl ⟨rfl, Keep.set5 kw2 (Nat.le_refl _) _ _ _ _ _⟩
          | false =>
            go_wp2
            go_round
            case rel =>
              refine ⟨k + 1, by omega, by go_num, fun i hi => ?_⟩
              by_cases hik : i < k
              · exact HA.out i hik
              · have : i = k := by omega
                subst this
                rw [HG.out]
                exact UInt8.toNat_inj.1 (show l[3 + i].toNat = 255 by simp at hx; omega)
            case measure => simp [intOf]; omega
        · have hlt' : ¬ (k : Int) < 5 := by omega
          have hno : ¬ ∃ i, i < fil 1028 ∧ l.getD (3 + i) 0 ≠ 255 := by
            rintro ⟨i, hi, hne⟩
            rw [HFil.out] at hi
            exact hne (hall i (by omega))
          rw [if_neg hno] at HP
          clear hno hall hcell2
          have q0 : 8 ≤ c := by omega
          have q1 : (16 : Int) ≤ c := by omega
          have q2 : ¬ c = 8 := by omega
          have q3 : ¬ c = 4 := by omega
          have q4 : ¬ c = 6 := by omega
          have q5 : 4 ≤ c := by omega
          have q6 : 6 ≤ c := by omega
          have q7 : (8 : Int) ≤ c := by omega
          have q8 : (6 : Int) ≤ c := by omega
          have s3 : ∀ (W : World), Keep w W → Bs W (.slice (some ⟨b, o + 8, none⟩) 8 (c - 8)) ((l.drop 8).take 8) := fun W kW => by
            have := Bs.part (hb.keep kW) (i := 8) (j := 16) (by omega) (by omega) (some ⟨b, o + 8, none⟩) (fun _ => by simp [Addr.add])
            simpa using this
          rw [if_neg (by omega)] at HP
          have hgg' : w1.heap.size ≠ w.heap.size := fun e => hgg e.symm
          go_wp2_with fail
          refine (number_c _ _ _ (s3 _ kw2) (by rw [List.length_take]; omega)).mono ?_
          rintro e w5 ⟨rfl, k5⟩
          have G5 := G.keep k5
          have FF := F2.keep k5
          have kw5 := kw2.trans k5
          obtain ⟨e0, e1, e2, e3, e4⟩ := G5.cells
          obtain ⟨x0, x1, x2, x3, x4⟩ := G5.thaw
          obtain ⟨d0, d1, d2, d3, d4⟩ := FF.cells
          obtain ⟨t0, t1, t2, t3, t4⟩ := FF.thaw
          generalize hns : num ((l.drop 8).take 8) = ns at HP
          clear f0 f1 f2 f3 f4 y0 y1 y2 y3 y4
          go_wp2
          rw [HP.out]
          refine bodyPost_ret (v := .tuple #[.agg #[.int .u16 1028, .int .u8 f, .int .u16 0, .int .u16 0, .int .u64 ns], .int .i64 0]) (by simp [results, Tryz.results64, go_sem, d0, d1, d2, d3, d4, e0, e1, e2, e3, e4, hgg, hgg']) rfl ⟨rfl, Keep.set5 (kw5.setCell hg2 _) (Nat.le_refl _) _ _ _ _ _⟩

theorem parseHeader_c (v : Value) (l : List UInt8) (w : World) (h : Bs w v l) :
    Calls Tryz.prog 64 #[v] w fun e w' => e = .returned (.tuple #[.agg #[.int .u16 (parse l).2.1, .int .u8 (parse l).2.2.1, .int .u16 (parse l).2.2.2.1, .int .u16 (parse l).2.2.2.2.1, .int .u64 (parse l).2.2.2.2.2], .int .i64 (parse l).1]) ∧ Keep w w' := by
  rcases peek_cases l with ⟨hl, hp⟩ | ⟨hl, hp⟩ | ⟨hl, hp⟩ | ⟨hl, hp⟩
  · have HP : parse l = (8, 0, 0, 0, 0, 0) := by simp [parse, hp]
    rw [HP]; exact parseHeader_bad v l w h 8 hp (by omega)
  · have HP : parse l = (10, 0, 0, 0, 0, 0) := by simp [parse, hp]
    rw [HP]; exact parseHeader_bad v l w h 10 hp (by omega)
  · exact parseHeader_ok v l w h 1284 hl hp (by omega)
  · exact parseHeader_ok v l w h 1028 hl hp (by omega)
end Go.Proofs.Qxb6500771aGreat
