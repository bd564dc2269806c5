/- mergem: Dump. -/
import Derived.Test.Qxb6500767aJh
import Derived.Test.Qxb6500767aVb
namespace Go.Proofs.Qxb6500767a
open Go.RowKit Go.Qm
set_option linter.unusedVariables false
set_option linter.unusedSimpArgs false
attribute [local go_sem ↓] Go.wp_at_zero Go.wp_at_succ
theorem own_ne {B g : Nat} {w : World} {v : Value} {xs cs : List Value} {t : TypeId} (h : Own B 5 w v xs) (hA : Arr w g t cs) (ht : t ≠ 5) : v.ownBlock ≠ some g := by
  intro e
  rcases h.2 with ⟨hv, -⟩ | ⟨g', cap, cur, hv, -, hg, -⟩
  · rw [hv] at e; simp [Value.ownBlock] at e
  · rw [hv] at e
    simp [Value.ownBlock] at e
    subst e
    unfold Arr at hA
    rw [hg] at hA
    have e2 := Option.some.inj hA
    injection e2 with _ e3 _
    exact ht e3.symm
set_option maxRecDepth 6000 in
set_option maxHeartbeats 16000000 in
theorem dump_c (gt : Nat) (T : List Nd) (w : World) (h : TR w gt T) (b : DB T) : Calls Try.prog 17 #[.pointer (some ⟨gt, 0, none⟩)] w fun e w' => e = .returned (str (dumpF T)) ∧ Keep w w' := by
  have HTR := Hid.mk h
  have HB := Hid.mk b
  have hlen := b.len
  clear h b
  go_enter Try.func17, Try.ntmps17
  go_wp2_with fail
  go_loopg [3, 4] T.length (fun gk ov iv wr => ∃ (k : Nat) (v : Value), k + gk = T.length ∧ iv = .int .i64 k ∧ ov = v ∧ Own w.heap.size 5 wr v ((dumpK T k).map cb) ∧ Keep w wr)
  case atStart => exact ⟨0, .slice none 0 0, by omega, rfl, rfl, World.ownsRow_nil _ _ _ _, Keep.refl _⟩
  case round =>
    obtain ⟨k, ov, hk, rfl, hov, hown, kw⟩ := hrel
    rw [hov]
    have HOV := Hid.mk hov
    clear hov
    obtain ⟨g1, hg1⟩ : ∃ g1, g1 = gk := ⟨_, rfl⟩
    subst hg1
    have HK := Hid.mk hk
    obtain ⟨bn, cap, c0, t1, t2, nodes⟩ := HTR.out
    replace c0 := kw.cell c0
    unfold maxLen at t2
    have HOWN := Hid.mk hown
    clear hk hown
    by_cases hlt : k < T.length
    · have i1 : (k : Int) < T.length := by omega
      have i0 : (0 : Int) ≤ k := by omega
      obtain ⟨dv, ev, m0, m1, m2, m3, m4, m5, m6, bs, es⟩ := nodes k hlt
      replace m0 := kw.cell m0
      replace m1 := kw.cell m1
      replace m2 := kw.cell m2
      replace m3 := kw.cell m3
      replace m4 := kw.cell m4
      replace m5 := kw.cell m5
      replace m6 := kw.cell m6
      have HBS := Hid.mk bs
      have HES := Hid.mk es
      obtain ⟨da, dc, hdv, hd1, hd2, -⟩ := bs.form
      obtain ⟨ea, ec', hev, he1, he2, he3⟩ := es
      have HE3 := Hid.mk he3
      clear he3
      subst hdv hev
      clear nodes bs
      have HX : Hid (at' T k = at' T k) := Hid.mk rfl
      obtain ⟨x, hx⟩ : ∃ x, x = at' T k := ⟨_, rfl⟩
      have hb1 := HB.out.kind k
      have hb2 := HB.out.mode k
      have hb3 := HB.out.links k
      have hb4 := HB.out.opens k
      have hb5 := HB.out.par k
      have hb6 := HB.out.data k
      have hb7 := HB.out.few k
      have hb8 := HB.out.edg k
      have hhl := hdrF_len HB.out (i := k) (by omega)
      have hkl := dumpK_len HB.out k (by omega)
      have hel := fun e he => edgF_len HB.out (i := k) (e := e) he
      have HDN : Hid (dumpN T k = if x.kind = 0 then [] else hdrF k x ++ x.data ++ x.edges.flatMap edgF ++ [10]) := Hid.mk (by rw [hx]; rfl)
      rw [← hx] at m0 m1 m2 m3 m4 m5 m6 HBS HES HE3 hd1 he1 hb1 hb2 hb3 hb4 hb5 hb6 hb7 hb8 hhl hel
      clear hx HX
      obtain ⟨nkd, nmd, nlk, nop, npr, ndt, nes⟩ := x
      simp only at m0 m1 m2 m3 m4 m5 m6 HBS HES HE3 hd1 he1 hb1 hb2 hb3 hb4 hb5 hb6 hb7 hb8 hhl hel HDN
      by_cases hk0 : nkd = 0
      · have HD0 : Hid (dumpN T k = []) := Hid.mk (by rw [HDN.out, if_pos hk0])
        subst hk0
        go_wp2_with fail
        go_roundg (g1 - 1)
        case measure => have := HK.out; omega
        case rel => exact ⟨k + 1, _, by have := HK.out; omega, by go_num, rfl, by rw [dumpK_succ, HD0.out, List.append_nil]; exact HOWN.out.alloc _, kw.alloc _⟩
      · have z1 : ((nkd : Int) == 0) = false := by simp; omega
        have HD0 := HDN.out
        rw [if_neg hk0] at HD0
        have HD1 := Hid.mk HD0
        clear HD0 HDN hk0
        obtain ⟨w0, hw0⟩ : ∃ w0, w0 = wr := ⟨_, rfl⟩
        subst hw0
        go_upto_region 7 with fail
        have A1 : Arr (w0.alloc (.cells #[.int .i64 (nkd : Nat), .int .i64 nmd, .int .i64 (nlk : Nat), .int .i64 (nop : Nat), .int .i64 (npr : Nat), .slice da ndt.length dc, .slice ea nes.length ec'] 67)) w0.heap.size 67 [.int .i64 (nkd : Nat), .int .i64 nmd, .int .i64 (nlk : Nat), .int .i64 (nop : Nat), .int .i64 (npr : Nat), .slice da ndt.length dc, .slice ea nes.length ec'] := Arr.new w0 67 _
        have K1 := (Keep.refl w0).alloc (.cells #[.int .i64 (nkd : Nat), .int .i64 nmd, .int .i64 (nlk : Nat), .int .i64 (nop : Nat), .int .i64 (npr : Nat), .slice da ndt.length dc, .slice ea nes.length ec'] 67)
        have hoX : ∀ q, ov.ownBlock = some q → q ≠ w0.heap.size := fun q hq e => by have := (HOWN.out.lt q hq).2; omega
        generalize w0.alloc (.cells #[.int .i64 (nkd : Nat), .int .i64 nmd, .int .i64 (nlk : Nat), .int .i64 (nop : Nat), .int .i64 (npr : Nat), .slice da ndt.length dc, .slice ea nes.length ec'] 67) = w1 at *
        have hgXge : w.heap.size ≤ w0.heap.size := kw.size
        generalize w0.heap.size = gX at *
        have x0 : w1.cell? ⟨gX, 0, none⟩ = some (.int .i64 (nkd : Nat)) := A1.cell 0
        have x1 : w1.cell? ⟨gX, 1, none⟩ = some (.int .i64 nmd) := A1.cell 1
        have x2 : w1.cell? ⟨gX, 2, none⟩ = some (.int .i64 (nlk : Nat)) := A1.cell 2
        have x3 : w1.cell? ⟨gX, 3, none⟩ = some (.int .i64 (nop : Nat)) := A1.cell 3
        have x4 : w1.cell? ⟨gX, 4, none⟩ = some (.int .i64 (npr : Nat)) := A1.cell 4
        have x5 : w1.cell? ⟨gX, 5, none⟩ = some (.slice da ndt.length dc) := A1.cell 5
        have HA1 := Hid.mk A1
        have HOX := Hid.mk hoX
        have D0 := fun W => digits_c k (by omega) W
        have D1 := fun W => digits_c nkd (by omega) W
        have D2 := fun W => digitsI_c nmd hb2.1 hb2.2 W
        have D3 := fun W => digits_c nlk (by omega) W
        have D4 := fun W => digits_c nop (by omega) W
        have D5 := fun W => digits_c npr (by omega) W
        have D6 := fun W => digits_c ndt.length (by omega) W
        have l0 := digN_le (n := k) (by omega)
        have l1 := digN_le (n := nkd) (by omega)
        have l2 := digI_len hb2.1 hb2.2
        have l3 := digN_le (n := nlk) (by omega)
        have l4 := digN_le (n := nop) (by omega)
        have l5 := digN_le (n := npr) (by omega)
        have l6 := digN_le (n := ndt.length) (by omega)
        have HHD : Hid (hdrF k ⟨nkd, nmd, nlk, nop, npr, ndt, nes⟩ = hdrF k ⟨nkd, nmd, nlk, nop, npr, ndt, nes⟩) := Hid.mk rfl
        unfold hdrF at HD1 hhl
        simp only at HD1 hhl
        generalize digN k = d0 at *
        generalize digN nkd = d1 at *
        generalize digI nmd = d2 at *
        generalize digN nlk = d3 at *
        generalize digN nop = d4 at *
        generalize digN npr = d5 at *
        generalize digN ndt.length = d6 at *
        clear HHD A1 hoX
        have L0 : ([35] : List UInt8).length ≤ 1 := Nat.le_refl _
        obtain ⟨P1, hP1⟩ : ∃ P1, P1 = ([35] : List UInt8) ++ d0 := ⟨_, rfl⟩
        have L1 : P1.length ≤ 7 := by rw [hP1, List.length_append]; exact Nat.add_le_add L0 l0
        rw [← hP1] at HD1
        have q1 : ([32, 107, 105, 110, 100, 32] : List UInt8).length ≤ 6 := Nat.le_refl _
        obtain ⟨P2, hP2⟩ : ∃ P2, P2 = P1 ++ ([32, 107, 105, 110, 100, 32] : List UInt8) := ⟨_, rfl⟩
        have L2 : P2.length ≤ 13 := by rw [hP2, List.length_append]; exact Nat.add_le_add L1 q1
        rw [← hP2] at HD1
        obtain ⟨P3, hP3⟩ : ∃ P3, P3 = P2 ++ d1 := ⟨_, rfl⟩
        have L3 : P3.length ≤ 19 := by rw [hP3, List.length_append]; exact Nat.add_le_add L2 l1
        rw [← hP3] at HD1
        have q3 : ([32, 109, 111, 100, 101, 32] : List UInt8).length ≤ 6 := Nat.le_refl _
        obtain ⟨P4, hP4⟩ : ∃ P4, P4 = P3 ++ ([32, 109, 111, 100, 101, 32] : List UInt8) := ⟨_, rfl⟩
        have L4 : P4.length ≤ 25 := by rw [hP4, List.length_append]; exact Nat.add_le_add L3 q3
        rw [← hP4] at HD1
        obtain ⟨P5, hP5⟩ : ∃ P5, P5 = P4 ++ d2 := ⟨_, rfl⟩
        have L5 : P5.length ≤ 45 := by rw [hP5, List.length_append]; exact Nat.add_le_add L4 l2
        rw [← hP5] at HD1
        have q5 : ([32, 108, 105, 110, 107, 115, 32] : List UInt8).length ≤ 7 := Nat.le_refl _
        obtain ⟨P6, hP6⟩ : ∃ P6, P6 = P5 ++ ([32, 108, 105, 110, 107, 115, 32] : List UInt8) := ⟨_, rfl⟩
        have L6 : P6.length ≤ 52 := by rw [hP6, List.length_append]; exact Nat.add_le_add L5 q5
        rw [← hP6] at HD1
        obtain ⟨P7, hP7⟩ : ∃ P7, P7 = P6 ++ d3 := ⟨_, rfl⟩
        have L7 : P7.length ≤ 58 := by rw [hP7, List.length_append]; exact Nat.add_le_add L6 l3
        rw [← hP7] at HD1
        have q7 : ([32, 111, 112, 101, 110, 115, 32] : List UInt8).length ≤ 7 := Nat.le_refl _
        obtain ⟨P8, hP8⟩ : ∃ P8, P8 = P7 ++ ([32, 111, 112, 101, 110, 115, 32] : List UInt8) := ⟨_, rfl⟩
        have L8 : P8.length ≤ 65 := by rw [hP8, List.length_append]; exact Nat.add_le_add L7 q7
        rw [← hP8] at HD1
        obtain ⟨P9, hP9⟩ : ∃ P9, P9 = P8 ++ d4 := ⟨_, rfl⟩
        have L9 : P9.length ≤ 71 := by rw [hP9, List.length_append]; exact Nat.add_le_add L8 l4
        rw [← hP9] at HD1
        have q9 : ([32, 112, 97, 114, 101, 110, 116, 32] : List UInt8).length ≤ 8 := Nat.le_refl _
        obtain ⟨P10, hP10⟩ : ∃ P10, P10 = P9 ++ ([32, 112, 97, 114, 101, 110, 116, 32] : List UInt8) := ⟨_, rfl⟩
        have L10 : P10.length ≤ 79 := by rw [hP10, List.length_append]; exact Nat.add_le_add L9 q9
        rw [← hP10] at HD1
        obtain ⟨P11, hP11⟩ : ∃ P11, P11 = P10 ++ d5 := ⟨_, rfl⟩
        have L11 : P11.length ≤ 85 := by rw [hP11, List.length_append]; exact Nat.add_le_add L10 l5
        rw [← hP11] at HD1
        have q11 : ([32, 100, 97, 116, 97, 32] : List UInt8).length ≤ 6 := Nat.le_refl _
        obtain ⟨P12, hP12⟩ : ∃ P12, P12 = P11 ++ ([32, 100, 97, 116, 97, 32] : List UInt8) := ⟨_, rfl⟩
        have L12 : P12.length ≤ 91 := by rw [hP12, List.length_append]; exact Nat.add_le_add L11 q11
        rw [← hP12] at HD1
        obtain ⟨P13, hP13⟩ : ∃ P13, P13 = P12 ++ d6 := ⟨_, rfl⟩
        have L13 : P13.length ≤ 97 := by rw [hP13, List.length_append]; exact Nat.add_le_add L12 l6
        rw [← hP13] at HD1
        have q13 : ([58] : List UInt8).length ≤ 1 := Nat.le_refl _
        obtain ⟨P14, hP14⟩ : ∃ P14, P14 = P13 ++ ([58] : List UInt8) := ⟨_, rfl⟩
        have L14 : P14.length ≤ 98 := by rw [hP14, List.length_append]; exact Nat.add_le_add L13 q13
        rw [← hP14] at HD1
        have HNE : Hid (P14 ≠ []) := Hid.mk (by rw [hP14]; simp)
        have HSZ : Hid ((dumpK T k).length + P14.length ≤ 2 ^ 46) := Hid.mk (by omega)
        have HL14 := Hid.mk L14
        have HOWN1 := Hid.mk (HOWN.out.keep K1)
        have HKW := Hid.mk kw
        have HK1 := Hid.mk K1
        have hk7 : k ≤ 70001 := by omega
        have HLT := Hid.mk hlt
        have HBB := Hid.mk (And.intro hk7 (And.intro hb6 (And.intro hb7 (And.intro hb8 (And.intro hel (And.intro hkl (And.intro hd1 (And.intro hd2 (And.intro he1 he2)))))))))
        have hB1 : w.heap.size ≤ w1.heap.size := Nat.le_trans kw.size K1.size
        clear hk7 kw K1 hb1 hb2 hb3 hb4 hb5 hb6 hb7 hb8 hel hkl hhl hd1 hd2 he1 he2 m0 m1 m2 m3 m4 m5 m6 c0 t1 t2 i1 i0 hlt z1 hlen x0 x1 x2 x3 x4 x5
        go_cut [3] from 27 to 63 (fun o2 wx => Own w.heap.size 5 wx o2 ((dumpK T k ++ P14).map cb) ∧ Arr wx gX 67 [.int .i64 (nkd : Nat), .int .i64 nmd, .int .i64 (nlk : Nat), .int .i64 (nop : Nat), .int .i64 (npr : Nat), .slice da ndt.length dc, .slice ea nes.length ec'] ∧ Keep w wx)
        case first =>
          refine region7_c ov gX k nkd nmd nlk nop npr da ndt.length dc ea nes.length ec' (by rfl) (by rfl) (by rfl) (by rfl) HA1.out D0 D1 D2 D3 D4 D5 D6 hP1 (Nat.le_trans L1 (by decide)) hP2 (Nat.le_trans L2 (by decide)) hP3 (Nat.le_trans L3 (by decide)) hP4 (Nat.le_trans L4 (by decide)) hP5 (Nat.le_trans L5 (by decide)) hP6 (Nat.le_trans L6 (by decide)) hP7 (Nat.le_trans L7 (by decide)) hP8 (Nat.le_trans L8 (by decide)) hP9 (Nat.le_trans L9 (by decide)) hP10 (Nat.le_trans L10 (by decide)) hP11 (Nat.le_trans L11 (by decide)) hP12 (Nat.le_trans L12 (by decide)) hP13 (Nat.le_trans L13 (by decide)) hP14 (Nat.le_trans L14 (by decide)) HOWN1.out HNE.out HSZ.out hB1 ?_
          intro w2 v2 w3 k2 ho hg
          have HO2 := Hid.mk ho
          have HA2 := Hid.mk (arrK (HA1.out.keep k2) hg (own_ne HOWN1.out HA1.out (by decide)))
          have HK2 := Hid.mk (((HKW.out.trans HK1.out).trans k2).grown hg (fun q hq => (HOWN1.out.lt q hq).1))
          clear ho hg k2 D0 D1 D2 D3 D4 D5 D6
          simp only [lay, o7L, List.foldl, Act.put, List.setIfInBounds_toArray, List.set_cons_succ, List.set_cons_zero]
          go_wp2_with fail
          go_meet
          case rel => exact ⟨HO2.out, HA2.out, HK2.out⟩
        case rest =>
          obtain ⟨hO, hA, kx⟩ := hcut
          clear D0 D1 D2 D3 D4 D5 D6 hP1 hP2 hP3 hP4 hP5 hP6 hP7 hP8 hP9 hP10 hP11 hP12 hP13 hP14 L0 L1 L2 L3 L4 L5 L6 L7 L8 L9 L10 L11 L12 L13 L14 q1 q3 q5 q7 q9 q11 q13 l0 l1 l2 l3 l4 l5 l6 hB1
          obtain ⟨hk7, hb6, hb7, hb8, hel, hkl, hd1, hd2, he1, he2⟩ := HBB.out
          obtain ⟨w8, hw8⟩ : ∃ w8, w8 = wc := ⟨_, rfl⟩
          subst hw8
          have hL14 := HL14.out
          have S8 : Sl w8 (.slice da ndt.length dc) (ndt.map cb) := HBS.out.keep kx
          have y5 : w8.cell? ⟨gX, 5, none⟩ = some (.slice da ndt.length dc) := hA.cell 5
          have Z1 : Hid (((dumpK T k ++ P14).map cb).length + (ndt.map cb).length ≤ 2 ^ 46) := Hid.mk (by simp only [List.length_map, List.length_append]; omega)
          have hs8 := kx.size
          have HOX := Hid.mk (own_ne hO hA (by decide))
          go_upto_region 8 with fail
          go_cut [3] from 64 to 67 (fun o2 wx => Own w.heap.size 5 wx o2 ((dumpK T k ++ P14 ++ ndt).map cb) ∧ Arr wx gX 67 [.int .i64 (nkd : Nat), .int .i64 nmd, .int .i64 (nlk : Nat), .int .i64 (nop : Nat), .int .i64 (npr : Nat), .slice da ndt.length dc, .slice ea nes.length ec'] ∧ Keep w wx)
          case first =>
            have HO := Hid.mk hO
            have HA := Hid.mk hA
            have HK := Hid.mk kx
            have HS8 := Hid.mk S8
            clear hk7 hO hA kx S8 hb6 hb7 hb8 hel hkl hd1 hd2 he1 he2 hL14
            go_wp2_with (at_builtin; refine wpList_app (by rfl) _ _ _ (by rfl) Try.underlying64 inf5 rfl w.heap.size HO.out HS8.out (by intro u hu; obtain ⟨b, -, rfl⟩ := List.mem_map.1 hu; rfl) (by rfl) (by rfl) (by have := Z1.out; unfold maxLen; omega) (by have := Z1.out; omega) hs8 ?_; intro v' w' hown' hgr hob)
            go_meet
            case rel => exact ⟨by rw [List.map_append]; exact hown', arrK HA.out hgr HOX.out, HK.out.grown hgr (fun q hq => (HO.out.lt q hq).1)⟩
          case rest =>
            obtain ⟨hO9, hA9, kx9⟩ := hcut
            clear hO hA kx S8 y5 hs8 HOX Z1
            obtain ⟨W9, hW9⟩ : ∃ W9, W9 = wc := ⟨_, rfl⟩
            subst hW9
            have HHB := Hid.mk (And.intro hk7 (And.intro hb6 (And.intro hb7 (And.intro hb8 (And.intro hel (And.intro hkl hL14))))))
            have he1' := he1
            unfold maxLen at he2
            clear hk7 hb6 hb7 hb8 hel hkl hd1 hd2 hL14
            generalize hXS : dumpK T k ++ P14 ++ ndt = XS at *
            have HXS := Hid.mk hXS
            clear hXS
            go_wp2_with fail
            go_loopg [3, 6] nes.length (fun g2 o3 iv wx => ∃ (j : Nat) (v : Value), j + g2 = nes.length ∧ iv = .int .i64 j ∧ o3 = v ∧ Own w.heap.size 5 wx v ((XS ++ (nes.take j).flatMap edgF).map cb) ∧ Arr wx gX 67 [.int .i64 (nkd : Nat), .int .i64 nmd, .int .i64 (nlk : Nat), .int .i64 (nop : Nat), .int .i64 (npr : Nat), .slice da ndt.length dc, .slice ea nes.length ec'] ∧ Keep w wx)
            case atStart => exact ⟨0, _, by omega, rfl, rfl, by simpa using hO9, hA9, kx9⟩
            case round =>
              obtain ⟨j, o3, hj, rfl, ho3, hO, hA, kx⟩ := hrel
              clear hO9 hA9 kx9
              rw [ho3]
              have HO3 := Hid.mk ho3
              clear ho3
              obtain ⟨g2, hg2⟩ : ∃ g2, g2 = gk := ⟨_, rfl⟩
              subst hg2
              obtain ⟨wE, hwE⟩ : ∃ wE, wE = wr := ⟨_, rfl⟩
              subst hwE
              have HJ := Hid.mk hj
              have y6 : wE.cell? ⟨gX, 6, none⟩ = some (.slice ea nes.length ec') := hA.cell 6
              have HO := Hid.mk hO
              have HA := Hid.mk hA
              have HKe := Hid.mk kx
              obtain ⟨hk7, hb6, hb7, hb8, hel, hkl, hL14⟩ := HHB.out
              by_cases hlt2 : j < nes.length
              · have i3 : (j : Int) < nes.length := by omega
                have i4 : (0 : Int) ≤ j := by omega
                obtain ⟨ge, rfl, e0, e1, e2⟩ := HE3.out j hlt2
                replace e0 := kx.cell e0
                replace e1 := kx.cell e1
                replace e2 := kx.cell e2
                obtain ⟨hky, hsp, hnn⟩ := hb8 nes[j] (List.getElem_mem hlt2)
                have HT : Hid ((nes.take (j + 1)).flatMap edgF = (nes.take j).flatMap edgF ++ edgF nes[j]) := Hid.mk (by rw [List.take_succ_eq_append_getElem hlt2, List.flatMap_append]; simp)
                have HTL : ((nes.take j).flatMap edgF).length ≤ 308000000 := by
                  have h1 := edg_flat (l := nes.take j) (fun e he => hel e (List.mem_of_mem_take he))
                  have h2 : (nes.take j).length ≤ 70000 := by rw [List.length_take]; omega
                  exact Nat.le_trans h1 (Nat.mul_le_mul_right 4400 h2)
                have HEF0 : edgF nes[j] = edgF nes[j] := rfl
                have HEF : Hid (edgF nes[j] = [32, 91] ++ digN nes[j].key.length ++ [58] ++ nes[j].key ++ [32] ++ digN nes[j].spl.length ++ [58] ++ nes[j].spl ++ [32] ++ digN nes[j].node ++ [93]) := Hid.mk rfl
                have C0 := fun W => digits_c nes[j].key.length (by omega) W
                have C1 := fun W => digits_c nes[j].spl.length (by omega) W
                have C2 := fun W => digits_c nes[j].node (by omega) W
                have r0 := digN_le (n := nes[j].key.length) (by omega)
                have r1 := digN_le (n := nes[j].spl.length) (by omega)
                have r2 := digN_le (n := nes[j].node) (by omega)
                clear HEF0 hel hb6 hb7 hb8 hA hO kx
                generalize edgF nes[j] = EF at *
                generalize hky' : nes[j].key = ky at *
                generalize hsp' : nes[j].spl = sp at *
                generalize hnd' : nes[j].node = en at *
                clear hky' hsp' hnd'
                generalize digN ky.length = d0 at *
                generalize digN sp.length = d1 at *
                generalize digN en = d2 at *
                have M0 : ([32, 91] : List UInt8).length ≤ 2 := Nat.le_refl _
                obtain ⟨EP1, hEP1⟩ : ∃ EP1, EP1 = ([32, 91] : List UInt8) ++ d0 := ⟨_, rfl⟩
                have M1 : EP1.length ≤ 8 := by rw [hEP1, List.length_append]; exact Nat.add_le_add M0 r0
                rw [← hEP1] at HEF
                have t1 : ([58] : List UInt8).length ≤ 1 := Nat.le_refl _
                obtain ⟨EP2, hEP2⟩ : ∃ EP2, EP2 = EP1 ++ ([58] : List UInt8) := ⟨_, rfl⟩
                have M2 : EP2.length ≤ 9 := by rw [hEP2, List.length_append]; exact Nat.add_le_add M1 t1
                rw [← hEP2] at HEF
                obtain ⟨EP3, hEP3⟩ : ∃ EP3, EP3 = EP2 ++ ky := ⟨_, rfl⟩
                have M3 : EP3.length ≤ 4009 := by rw [hEP3, List.length_append]; exact Nat.add_le_add M2 hky
                rw [← hEP3] at HEF
                have t3 : ([32] : List UInt8).length ≤ 1 := Nat.le_refl _
                obtain ⟨EP4, hEP4⟩ : ∃ EP4, EP4 = EP3 ++ ([32] : List UInt8) := ⟨_, rfl⟩
                have M4 : EP4.length ≤ 4010 := by rw [hEP4, List.length_append]; exact Nat.add_le_add M3 t3
                rw [← hEP4] at HEF
                obtain ⟨EP5, hEP5⟩ : ∃ EP5, EP5 = EP4 ++ d1 := ⟨_, rfl⟩
                have M5 : EP5.length ≤ 4016 := by rw [hEP5, List.length_append]; exact Nat.add_le_add M4 r1
                rw [← hEP5] at HEF
                have t5 : ([58] : List UInt8).length ≤ 1 := Nat.le_refl _
                obtain ⟨EP6, hEP6⟩ : ∃ EP6, EP6 = EP5 ++ ([58] : List UInt8) := ⟨_, rfl⟩
                have M6 : EP6.length ≤ 4017 := by rw [hEP6, List.length_append]; exact Nat.add_le_add M5 t5
                rw [← hEP6] at HEF
                obtain ⟨EP7, hEP7⟩ : ∃ EP7, EP7 = EP6 ++ sp := ⟨_, rfl⟩
                have M7 : EP7.length ≤ 4272 := by rw [hEP7, List.length_append]; exact Nat.add_le_add M6 hsp
                rw [← hEP7] at HEF
                have t7 : ([32] : List UInt8).length ≤ 1 := Nat.le_refl _
                obtain ⟨EP8, hEP8⟩ : ∃ EP8, EP8 = EP7 ++ ([32] : List UInt8) := ⟨_, rfl⟩
                have M8 : EP8.length ≤ 4273 := by rw [hEP8, List.length_append]; exact Nat.add_le_add M7 t7
                rw [← hEP8] at HEF
                obtain ⟨EP9, hEP9⟩ : ∃ EP9, EP9 = EP8 ++ d2 := ⟨_, rfl⟩
                have M9 : EP9.length ≤ 4279 := by rw [hEP9, List.length_append]; exact Nat.add_le_add M8 r2
                rw [← hEP9] at HEF
                have t9 : ([93] : List UInt8).length ≤ 1 := Nat.le_refl _
                obtain ⟨EP10, hEP10⟩ : ∃ EP10, EP10 = EP9 ++ ([93] : List UInt8) := ⟨_, rfl⟩
                have M10 : EP10.length ≤ 4280 := by rw [hEP10, List.length_append]; exact Nat.add_le_add M9 t9
                rw [← hEP10] at HEF
                have HNE2 : Hid (EP10 ≠ []) := Hid.mk (by rw [hEP10]; simp)
                have hXL : XS.length = (dumpK T k).length + P14.length + ndt.length := by rw [← HXS.out]; simp only [List.length_append]
                have HB6 := HHB.out.2.1
                have HSZ2 : Hid ((XS ++ (nes.take j).flatMap edgF).length + EP10.length ≤ 2 ^ 46) := Hid.mk (by rw [List.length_append]; omega)
                clear hXL HB6 hkl HTL hL14 hk7
                go_upto_region 13 with fail
                have A2 : Arr (wE.alloc (.cells #[str ky, str sp, .int .i64 (en : Nat)] 102)) wE.heap.size 102 [str ky, str sp, .int .i64 (en : Nat)] := Arr.new wE 102 _
                have HO1 := Hid.mk (HO.out.alloc (.cells #[str ky, str sp, .int .i64 (en : Nat)] 102))
                have HA1e := Hid.mk (HA.out.keep ((Keep.refl wE).alloc (.cells #[str ky, str sp, .int .i64 (en : Nat)] 102)))
                have HK1e := Hid.mk (HKe.out.alloc (.cells #[str ky, str sp, .int .i64 (en : Nat)] 102))
                refine region13_c o3 wE.heap.size ky sp en (by rfl) (by rfl) (by rfl) A2 C0 C1 C2 hEP1 (Nat.le_trans M1 (by decide)) hEP2 (Nat.le_trans M2 (by decide)) hEP3 (Nat.le_trans M3 (by decide)) hEP4 (Nat.le_trans M4 (by decide)) hEP5 (Nat.le_trans M5 (by decide)) hEP6 (Nat.le_trans M6 (by decide)) hEP7 (Nat.le_trans M7 (by decide)) hEP8 (Nat.le_trans M8 (by decide)) hEP9 (Nat.le_trans M9 (by decide)) hEP10 (Nat.le_trans M10 (by decide)) HO1.out HNE2.out HSZ2.out HK1e.out.size ?_
                intro w2 v2 w3 k2 ho hg
                have HO2 := Hid.mk ho
                have HA2 := Hid.mk (arrK (HA1e.out.keep k2) hg (own_ne HO1.out HA1e.out (by decide)))
                have HK2 := Hid.mk ((HK1e.out.trans k2).grown hg (fun q hq => (HO1.out.lt q hq).1))
                clear ho hg k2 C0 C1 C2 A2
                simp only [lay, o13L, List.foldl, Act.put, List.setIfInBounds_toArray, List.set_cons_succ, List.set_cons_zero]
                go_wp2_with fail
                go_roundg (g2 - 1)
                case measure => have := HJ.out; omega
                case rel => exact ⟨j + 1, _, by have := HJ.out; omega, by go_num, rfl, by rw [HT.out, HEF.out, ← List.append_assoc]; exact HO2.out, HA2.out, HK2.out⟩
              · have i3 : ¬ (j : Int) < nes.length := by omega
                have hXL : XS.length = (dumpK T k).length + P14.length + ndt.length := by rw [← HXS.out]; simp only [List.length_append]
                have HTL : ((nes.take j).flatMap edgF).length ≤ 308000000 := by
                  have h1 := edg_flat (l := nes.take j) (fun e he => hel e (List.mem_of_mem_take he))
                  have h2 : (nes.take j).length ≤ 70000 := by rw [List.length_take]; omega
                  exact Nat.le_trans h1 (Nat.mul_le_mul_right 4400 h2)
                have HSZ3 : Hid (((XS ++ (nes.take j).flatMap edgF).map cb).length + 1 ≤ 2 ^ 46) := Hid.mk (by rw [List.length_map, List.length_append]; omega)
                have HFIN : Hid ((XS ++ (nes.take j).flatMap edgF).map cb ++ [.int .u8 10] = (dumpK T (k + 1)).map cb) := Hid.mk (by
                  rw [List.take_of_length_le (by omega), dumpK_succ, HD1.out, ← HXS.out]
                  simp only [List.map_append, List.append_assoc]
                  rfl)
                have hsE := kx.size
                have i5 : (k : Int) ≤ 70001 := by omega
                have i6 : (0 : Int) ≤ k := by omega
                clear hXL HTL hel hb6 hb7 hb8 hkl hL14 hk7 hA hO kx
                go_wp2_with (at_builtin; refine wpList_app (by rfl) _ _ _ (by rfl) Try.underlying64 inf5 rfl w.heap.size (HO.out.alloc _) (Own.lit (B := w.heap.size) [.int .u8 10] hsE (by simp [maxLen])).sl (by simp [Value.oneCell']) (by rfl) (by rfl) (by have := HSZ3.out; simp only [List.length_cons, List.length_nil]; unfold maxLen; omega) (by have := HSZ3.out; simp only [List.length_cons, List.length_nil]; omega) (by simp; omega) ?_; intro v' w' hown' hgr hob)
                go_roundg (g1 - 1)
                case measure => have := HK.out; have := HLT.out; omega
                case rel => have h1 := HHB.out.1; have h2 := HLT.out; have h3 := HK.out; have h4 : (k : Int) ≤ 70001 := (by omega); have h5 : (0 : Int) ≤ k := (by omega); exact ⟨k + 1, _, by have := HK.out; omega, by go_num, rfl, by rw [← HFIN.out]; exact hown', (HKe.out.alloc _).grown hgr (fun q hq => (HO.out.lt q hq).1)⟩
    · have i1 : ¬ (k : Int) < T.length := by omega
      have cv := run_conv HOWN.out.bs
      have HD : Hid (dumpF T = dumpK T k) := Hid.mk (by unfold dumpF; congr 1; have := HK.out; omega)
      clear nodes hlt
      generalize dumpK T k = DK at *
      go_wp2_with fail
      go_ret
      rw [HD.out]
      exact ⟨rfl, kw⟩
end Go.Proofs.Qxb6500767a
