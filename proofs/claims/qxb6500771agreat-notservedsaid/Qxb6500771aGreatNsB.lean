/- The law NotServed: its walk. -/
import Derived.Test.Qxb6500771aGreatNsC
namespace Go.Proofs.Qxb6500771aGreat
open Go.RowKit Go.Qm
set_option linter.unusedVariables false
set_option linter.unusedSimpArgs false
attribute [local go_sem ↓] Go.wp_at_zero Go.wp_at_succ

theorem keyLenQ_c (e : Int) (w : World) (h : srv e) : Calls Tryz.prog 22 #[.int .i32 e] w fun x w' => x = .returned (.int .i64 (kl e)) ∧ w' = w := by
  unfold srv at h
  rcases h with rfl | rfl | rfl | rfl | rfl | rfl
  · go_enter Tryz.func22, Tryz.ntmps22; go_wp2; go_ret; exact ⟨rfl, rfl⟩
  · go_enter Tryz.func22, Tryz.ntmps22; go_wp2; go_ret; exact ⟨rfl, rfl⟩
  · go_enter Tryz.func22, Tryz.ntmps22; go_wp2; go_ret; exact ⟨rfl, rfl⟩
  · go_enter Tryz.func22, Tryz.ntmps22; go_wp2; go_ret; exact ⟨rfl, rfl⟩
  · go_enter Tryz.func22, Tryz.ntmps22; go_wp2; go_ret; exact ⟨rfl, rfl⟩
  · go_enter Tryz.func22, Tryz.ntmps22; go_wp2; go_ret; exact ⟨rfl, rfl⟩
set_option maxRecDepth 3000 in
set_option maxHeartbeats 4000000 in
theorem notServed_c (v : Value) (ss : List OpR) (w : World) (h : Script w v ss) :
    Calls Tryz.prog 4 #[v] w fun e w' => e = .returned (.bool true) ∧ Keep w w' := by
  have hS := h
  obtain ⟨a, c, rfl, hac, hcm, hca⟩ := h
  unfold maxLen at hcm
  go_enter Tryz.func4, Tryz.ntmps4
  go_wp2_with fail
  refine (small_c _ ss w hS).mono ?_
  rintro e w1 ⟨⟨b, rfl, hsm⟩, kw1⟩
  cases b with
  | false =>
    go_wp2
    go_ret
    exact ⟨rfl, kw1⟩
  | true =>
    obtain ⟨hn, hdat⟩ := hsm rfl
    clear hsm
    go_wp2_with fail
    go_loopw [3] (fun iv wr => ∃ k : Nat, k ≤ ss.length ∧ iv = .int .i64 k ∧ Keep w wr) (fun i _ => ss.length - (intOf i).toNat)
    case atStart => exact ⟨0, by omega, rfl, kw1⟩
    case round =>
      obtain ⟨k, hk, rfl, kw⟩ := hrel
      by_cases hlt : k < ss.length
      · obtain ⟨b, o, rfl, hop⟩ := hca k hlt
        replace hop := hop.keep kw
        have hsmall := hdat _ (List.getElem_mem hlt)
        unfold OpSmall at hsmall
        have i1 : (k : Int) < ss.length := by omega
        obtain ⟨L, a2, a9, a10, c2, c9, c10, us, f, ec, rrc, sq, id, fi, hL, hR⟩ := hop.lst
        generalize ss[k] = s at *
        have hnk : s.key.length ≤ 65536 := by omega
        have hnd : s.data.length ≤ 65536 := by omega
        generalize s.key.length = nk at *
        generalize s.conf.length = nc at *
        generalize s.data.length = nd at *
        generalize s.etype = e at *
        have hLs : L.length = 16 := by rw [hL]; rfl
        have hL1 : L.toArray.all (·.oneCell') = true := by rw [hL]; simp [Value.oneCell']
        have HL := Hid.mk hL
        have HLs := Hid.mk hLs
        clear hop hca hdat hS kw1 hL hLs hsmall
        go_upto_region 7 with (first
          | (refine wpList_load_mid (by rfl) 31 (.tmp 29) (by rfl) b (o + k * 16) (by rfl) L _ hR Tryz.underlying31 rfl (by rw [HLs.out]; exact siz31) ?_)
          | (refine wpList_var31 (by rfl) (by rfl) (by rfl) (.tmp 4) (.tmp 30) (by rfl) L.toArray (by rfl) (by rfl) (by rw [List.size_toArray, HLs.out]) hL1 ?_))
        have B4 : Arr (wr.alloc (.cells L.toArray 31)) wr.heap.size 31 L := Arr.new wr 31 L
        have K4 := kw.alloc (.cells L.toArray 31)
        have x1 : (wr.alloc (.cells L.toArray 31)).cell? ⟨wr.heap.size, 1, none⟩ = some (.int .i32 e) := by rw [B4.cell 1, HL.out]; rfl
        have x2 : (wr.alloc (.cells L.toArray 31)).cell? ⟨wr.heap.size, 2, none⟩ = some (.slice a2 nk c2) := by rw [B4.cell 2, HL.out]; rfl
        generalize hWR : wr.alloc (.cells L.toArray 31) = WR at *
        clear hWR
        by_cases hgo : srv e ∧ nk = kl e
        · obtain ⟨hs, hkn⟩ := hgo
          have KQ := fun W => keyLenQ_c e W hs
          have y1 : ((nk : Int) == (kl e : Int)) = true := by simp [hkn]
          clear hkn
          generalize kl e = ke at *
          go_wp2_with fail
          refine (served_yes e _ hs).mono ?_
          rintro x w3 ⟨rfl, rfl⟩
          go_wp2_with fail
          go_quiet ((go_at_call 22; exact Calls.quiet_of_same (KQ _)))
          go_wp2_with fail
          go_roundw
          case rel => exact ⟨k + 1, by omega, by go_num, K4.drewN nq⟩
          case measure => simp [intOf]; omega
        · obtain ⟨q, hq0, hq⟩ : ∃ q : Nat, q ≠ 0 ∧ ((¬ srv e ∧ q = 1) ∨ (srv e ∧ nk ≠ kl e ∧ q = 2)) := by
            by_cases hs : srv e
            · exact ⟨2, by omega, Or.inr ⟨hs, fun hn => hgo ⟨hs, hn⟩, rfl⟩⟩
            · exact ⟨1, by omega, Or.inl ⟨hs, rfl⟩⟩
          have HK := fun W => checkKey_bad e a2 nk c2 q W (by omega) hq
          clear hgo
          have SV : ∃ bb : Bool, (bb = true ↔ srv e) ∧ ∀ W, Calls Tryz.prog 21 #[.int .i32 e] W fun x w' => x = .returned (.bool bb) ∧ w' = W := by
            by_cases hs : srv e
            · exact ⟨true, by simp [hs], fun W => served_yes e W hs⟩
            · exact ⟨false, by simp [hs], fun W => served_no e W hs⟩
          obtain ⟨bb, hbb, SV⟩ := SV
          go_wp2_with fail
          refine (SV _).mono ?_
          rintro x w3 ⟨rfl, rfl⟩
          go_upto_if 33 with fail
          go_cut [5] from 21 to 107 (fun wv wx => wv = .int .i64 q ∧ ∃ nn, wx = w3.drewN nn)
          case first =>
            rcases hq with ⟨hs, rfl⟩ | ⟨hs, hne, rfl⟩
            · have hb : bb = false := by cases bb with | false => rfl | true => exact absurd (hbb.1 rfl) hs
              subst hb
              clear hbb
              go_wp2_with fail
              go_meet
              case rel => exact ⟨rfl, 0, rfl⟩
            · have hb : bb = true := hbb.2 hs
              subst hb
              clear hbb
              have KQ := fun W => keyLenQ_c e W hs
              have y1 : ((nk : Int) == (kl e : Int)) = false := by simp; omega
              clear hne
              generalize kl e = ke at *
              go_wp2_with fail
              go_quiet ((go_at_call 22; exact Calls.quiet_of_same (KQ _)))
              go_wp2_with fail
              go_meet
              case rel => exact ⟨rfl, nq, rfl⟩
          case rest =>
            clear hbb
            obtain ⟨rfl, nn, hwc⟩ := hcut
            have HB := B4.keep ((Keep.refl _).drewN nn)
            have K5 := K4.drewN nn
            rw [← hwc] at HB K5
            clear hwc B4 K4 x1 x2 SV
            go_upto_region 11 with fail
            refine region11_c wr.heap.size L [.int .i32 e, .slice a2 nk c2] [.int .u32 us, .int .u8 f, .int .u64 sq, .int .u16 ec, .int .u16 rrc, .slice a9 nc c9] [.int .u32 us, .bool s.fromAcc] (by rfl) (by rfl) HB HLs.out rfl rfl rfl (by simp [Value.oneCell']) (by simp [Value.oneCell']) (by simp [Value.oneCell'])
              (fun W => by rw [HL.out]; apply keyOf_c) (fun W => by rw [HL.out]; apply sendOf_c) (fun W => by rw [HL.out]; apply expectOf_c) ?_
            intro p6 p7 p8 w5 k5 A6 A7 A8
            have B5 := HB.keep k5
            have K6 := K5.trans k5
            have x10 : w5.cell? ⟨wr.heap.size, 10, none⟩ = some (.slice a10 nd c10) := by rw [B5.cell 10, HL.out]; rfl
            clear HB K5 k5 hR
            simp only [fr11, Act.put]
            have HW := fun W => planWrap_key e a2 nk c2 q us f sq ec rrc a9 nc c9 (lof nd) W hq0 HK
            have HM := fun W => planMIC_key e a2 nk c2 q us f sq ec rrc a9 nc c9 (lof nd) W hq0 HK
            have CW := fun dv W => wrap_ref dv e a2 nk c2 q us f sq ec rrc a9 nc c9 a10 nd c10 W hq0 (by omega) HW
            have CM := fun dv W => mic_ref dv e a2 nk c2 q us f sq ec rrc a9 nc c9 a10 nd c10 W hq0 (by omega) HM
            have CU := fun dv tv W => unwrap_ref dv e a2 nk c2 q us s.fromAcc tv W hq0 HK
            have CV := fun W => verify_ref e a2 nk c2 q us s.fromAcc (.slice a10 nd c10) a10 nd c10 W hq0 HK
            have CJ : ∀ W, Calls Tryz.prog 26 #[.int .i64 q] W fun x w' => x = .returned (.int .u32 851968) ∧ w' = W := by
              intro W
              rcases hq with ⟨-, rfl⟩ | ⟨-, -, rfl⟩
              · exact major1_c W
              · exact major2_c W
            have yq : ((q : Int) != (q : Int)) = false := by simp
            clear HW HM HK hq hq0 HL HLs hL1 hnk hnd
            generalize L.toArray = LA at *
            have q60 := A6.cell 0
            have q61 := A6.cell 1
            have q70 := A7.cell 0
            have q71 := A7.cell 1
            have q72 := A7.cell 2
            have q73 := A7.cell 3
            have q74 := A7.cell 4
            have q75 := A7.cell 5
            have q80 := A8.cell 0
            have q81 := A8.cell 1
            simp only [List.getElem?_cons_zero, List.getElem?_cons_succ] at q60 q61 q70 q71 q72 q73 q74 q75 q80 q81
            have SS : ∀ W, Keep w5 W → W.cell? ⟨p6, 0, none⟩ = some (.int .i32 e) ∧ W.cell? ⟨p6, 1, none⟩ = some (.slice a2 nk c2) ∧ W.cell? ⟨p7, 0, none⟩ = some (.int .u32 us) ∧ W.cell? ⟨p7, 1, none⟩ = some (.int .u8 f) ∧ W.cell? ⟨p7, 2, none⟩ = some (.int .u64 sq) ∧ W.cell? ⟨p7, 3, none⟩ = some (.int .u16 ec) ∧ W.cell? ⟨p7, 4, none⟩ = some (.int .u16 rrc) ∧ W.cell? ⟨p7, 5, none⟩ = some (.slice a9 nc c9) ∧ W.cell? ⟨p8, 0, none⟩ = some (.int .u32 us) ∧ W.cell? ⟨p8, 1, none⟩ = some (.bool s.fromAcc) ∧ W.cell? ⟨wr.heap.size, 10, none⟩ = some (.slice a10 nd c10) :=
              fun W hk => ⟨hk.cell q60, hk.cell q61, hk.cell q70, hk.cell q71, hk.cell q72, hk.cell q73, hk.cell q74, hk.cell q75, hk.cell q80, hk.cell q81, hk.cell x10⟩
            clear q60 q61 q70 q71 q72 q73 q74 q75 q80 q81 x10 A6 A7 A8 B5
            obtain ⟨b1, b2, b3, b4, b5, b6, b7, b8, b9, b10, b11⟩ := SS (w5.alloc (.cells #[] 5)) ((Keep.refl w5).alloc _)
            go_wp2_with fail
            refine (CW _ _).mono ?_
            rintro x y1 ⟨rfl, j1⟩
            have J1 := ((Keep.refl w5).alloc (.cells #[] 5)).trans j1
            clear b1 b2 b3 b4 b5 b6 b7 b8 b9 b10 b11 CW
            obtain ⟨b1, b2, b3, b4, b5, b6, b7, b8, b9, b10, b11⟩ := SS (y1.alloc (.cells #[] 5)) (J1.alloc _)
            go_wp2_with fail
            refine (CM _ _).mono ?_
            rintro x y2 ⟨rfl, j2⟩
            have J2 := (J1.alloc (.cells #[] 5)).trans j2
            clear b1 b2 b3 b4 b5 b6 b7 b8 b9 b10 b11 CM
            obtain ⟨b1, b2, b3, b4, b5, b6, b7, b8, b9, b10, b11⟩ := SS (y2.alloc (.cells #[] 5)) (J2.alloc _)
            go_wp2_with fail
            refine (CU _ _ _).mono ?_
            rintro x y3 ⟨rfl, j3⟩
            have J3 := (J2.alloc (.cells #[] 5)).trans j3
            clear b1 b2 b3 b4 b5 b6 b7 b8 b9 b10 b11 CU
            have J4 := J3.alloc (.cells #[.int .u16 0, .int .u8 0, .int .u16 0, .int .u16 0, .int .u64 0] 56)
            obtain ⟨b1, b2, b3, b4, b5, b6, b7, b8, b9, b10, b11⟩ := SS _ J4
            go_wp2_with fail
            refine (CV _).mono ?_
            rintro x y4 ⟨rfl, j4⟩
            have J5 := J4.trans j4
            clear b1 b2 b3 b4 b5 b6 b7 b8 b9 b10 b11 CV
            have J6 := J5.alloc (.cells #[.int .u16 0, .int .u8 0, .int .u16 0, .int .u16 0, .int .u64 0] 56)
            go_wp2_with fail
            refine (CJ _).mono ?_
            rintro x y5 ⟨rfl, rfl⟩
            go_wp2_with fail
            go_roundw
            case rel => exact ⟨k + 1, by omega, by go_num, K6.trans J6⟩
            case measure => simp [intOf]; omega
      · have hlt' : ¬ (k : Int) < ss.length := by omega
        go_wp2
        go_ret
        exact ⟨rfl, kw⟩
end Go.Proofs.Qxb6500771aGreat
