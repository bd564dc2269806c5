/- The law HeaderCodec: its walk. -/
import Derived.Test.Qxb6500771aHdG
namespace Go.Proofs.Qxb6500771a
open Go.RowKit Go.Qm
set_option linter.unusedVariables false
set_option linter.unusedSimpArgs false
attribute [local go_sem ↓] Go.wp_at_zero Go.wp_at_succ

theorem wpList_load_row_g {P : Program} {ops : Array Oper} {rest : List Oper} {o : Oper} {a : Act} {w : World} {Q : Exit → Act → World → Prop} (hw : Region.wanted o (yielded ops a.tmps) = true) (ty : TypeId) (x : Operand) (ho : o.op = .load ty x)
    (g : Nat) (hx : a.eval x = .pointer (some ⟨g, 0, none⟩)) (t : TypeId) (cs : Array Value) (fr : Nat × Nat) (d : TypeDesc) (hg : w.heap[g]? = some (.cells cs t fr))
    (hu : P.underlying ty = some d) (hd : (match d with | .struct _ | .array _ _ => true | _ => false) = true) (hi : (P.info? ty).map (·.size) = some cs.size)
    (h : wpList P ops Q rest (a.put o.dst (.agg cs)) w) : wpList P ops Q (o :: rest) a w :=
  wpList_step fun K hK => by rw [if_pos hw]; exact wp_load_row ty x ho g hx t cs fr d hg hu hd hi (hK _ _ h)
theorem St.take {wr W : World} {g4 g8 ge : Nat} {L : List Value} {I F E R sq : Nat} (h : St wr W g4 g8 ge L I F E R sq) (k : Nat) (hk : k ≤ 16) : Bs W (.slice (some ⟨ge, 0, none⟩) k 16) ((enc I F E R sq).take k) := by
  have h' : Win W ge 5 [] ((enc I F E R sq).take k) (((enc I F E R sq).drop k).map cb) := h.en.cut (by simp [← List.map_append])
  exact Go.Proofs.Qxb6500771a.Win.bs h' rfl (by rw [List.length_take, enc_length]; omega) hk (by simp [maxLen])
theorem St.drop2 {wr W : World} {g4 g8 ge : Nat} {L : List Value} {I F E R sq : Nat} (h : St wr W g4 g8 ge L I F E R sq) : Bs W (.slice (some ⟨ge, 2, none⟩) 14 14) ((enc I F E R sq).drop 2) := by
  have h' : Win W ge 5 (((enc I F E R sq).take 2).map cb) ((enc I F E R sq).drop 2) [] := h.en.cut (by simp [← List.map_append])
  exact Go.Proofs.Qxb6500771a.Win.bs h' (by simp [enc_length]) (by simp [enc_length]) (by omega) (by simp [maxLen])

theorem enc_get2 {I F E R sq : Nat} (hI : I < 65536) (hE : E < 65536) (hR : R < 65536) (h : 2 < (enc I F E R sq).length) : (enc I F E R sq)[2] = UInt8.ofNat F := by
  obtain ⟨a, b, e4, e5, e6, e7, he, -⟩ := enc_cons I F E R sq hI hE hR
  simp [he]
/-- A copy of the header's octets, of which one octet is about to be spoiled. -/
theorem St.bad {wr W0 W : World} {g4 g8 ge : Nat} {L : List Value} {I F E R sq : Nat} {bv : Value} (h : St wr W0 g4 g8 ge L I F E R sq) (k : Keep W0 W) (ow : Own W0.heap.size 5 W bv ((enc I F E R sq).map cb)) (hI : I < 65536) (hE : E < 65536) (hR : R < 65536) :
    ∃ gb cp, bv = .slice (some ⟨gb, 0, none⟩) 16 cp ∧ 16 ≤ cp ∧ cp ≤ maxLen ∧ (∃ xf : UInt8, xf = UInt8.ofNat F ∧ W.cell? ⟨gb, 2, none⟩ = some (.int .u8 xf.toNat)) ∧ ∀ W2, Keep W W2 → ∀ j, j < 16 →
      W2.frozen? ⟨gb, j, none⟩ = false ∧ (∃ y : UInt8, W2.cell? ⟨gb, j, none⟩ = some (.int .u8 y.toNat)) ∧ ∀ x : UInt8, St wr (W2.setCell ⟨gb, j, none⟩ (.int .u8 x.toNat)) g4 g8 ge L I F E R sq ∧ Bs (W2.setCell ⟨gb, j, none⟩ (.int .u8 x.toNat)) (.slice (some ⟨gb, 0, none⟩) 16 cp) ((enc I F E R sq).set j x) := by
  have hl := enc_length I F E R sq
  rcases ow.win with ⟨_, hnil⟩ | ⟨gb, cp, sp, hbv, hgb, winb, hcb, hcm⟩
  · rw [hnil] at hl; simp at hl
  · rw [hl] at hbv hcb
    refine ⟨gb, cp, hbv, by omega, hcm, ?_, fun W2 k2 j hj => ⟨(winb.keep k2).frozen j, ⟨_, (winb.keep k2).cell (k := j) (by omega) (by simp)⟩, fun x => ⟨?_, ?_⟩⟩⟩
    · exact ⟨_, enc_get2 hI hE hR (by omega), winb.cell (k := 2) (o := 2) (by omega) (by simp)⟩
    · have hlt := h.lt
      have hs := h.keep.size
      exact ((h.step k).step k2).kept (grown_set (grown_refl _ _) j _) (by omega) (by omega) (by omega) (by omega)
    · have hw := (winb.keep k2).set (k := j) (by omega) x (o := j) (by simp)
      exact Go.Proofs.Qxb6500771a.Win.bs hw rfl (by simp [hl]) (by omega) hcm

set_option maxRecDepth 1200 in
set_option maxHeartbeats 4000000 in
theorem headerCodec_c (v : Value) (ss : List OpR) (w : World) (h : Script w v ss) :
    Calls Try.prog 3 #[v] w fun e w' => e = .returned (.bool true) ∧ Keep w w' := by
  have hS := h
  obtain ⟨a, c, rfl, hac, hcm, hca⟩ := h
  unfold maxLen at hcm
  go_enter Try.func3, Try.ntmps3
  go_wp2_with fail
  refine (small_c _ ss w hS).mono ?_
  rintro e w1 ⟨⟨b, rfl, hsm⟩, kw1⟩
  cases b with
  | false =>
    go_wp2
    go_ret
    exact ⟨rfl, kw1⟩
  | true =>
    obtain ⟨hn, hdat⟩ := hsm rfl
    clear hsm
    go_wp2_with fail
    go_loopw [3] (fun iv wr => ∃ k : Nat, k ≤ ss.length ∧ iv = .int .i64 k ∧ Keep w wr) (fun i _ => ss.length - (intOf i).toNat)
    case atStart => exact ⟨0, by omega, rfl, kw1⟩
    case round =>
      obtain ⟨k, hk, rfl, kw⟩ := hrel
      by_cases hlt : k < ss.length
      · obtain ⟨b, o, rfl, hop⟩ := hca k hlt
        replace hop := hop.keep kw
        have hsmall : ss[k].data.length ≤ 65536 := by have := (hdat _ (List.getElem_mem hlt)).2.2; omega
        have i1 : (k : Int) < ss.length := by omega
        obtain ⟨L, id, ec, rrc, sq, fx, fb, aD, dD, hV, hL1, hR, hbD, hid1, hec1, hrrc1, hsq1⟩ := hop.opv
        have r12 := hop.r12
        have r13 := hop.r13
        have r14 := hop.r14
        generalize ss[k] = s at *
        generalize s.data = data at *
        generalize s.off = off at *
        generalize s.n = nn at *
        generalize s.room = room at *
        have hf1 := fx.toNat_lt
        have hLs : L.toArray.size = 16 := by rw [List.size_toArray, hV.size]
        have HLs := Hid.mk hLs
        clear hop hca hdat hS kw1 hLs
        go_wp2_with (first
          | (refine wpList_load_mid (by rfl) 31 (.tmp 25) (by rfl) b (o + k * 16) (by rfl) L _ hR Try.underlying31 rfl (by rw [hV.size]; exact siz31) ?_)
          | (refine wpList_var31 (by rfl) (by rfl) (by rfl) (.tmp 4) (.tmp 26) (by rfl) L.toArray (by rfl) (by rfl) HLs.out hL1 ?_)
          | (refine wpList_load_row (by rfl) 31 (.tmp 4) (by rfl) wr.heap.size (by rfl) 31 L.toArray (0, 0) _ (heap_alloc_new wr _) Try.underlying31 rfl hV.siz ?_))
        -- HeaderOf(op)
        refine (headerOf_L hV _).mono ?_
        rintro e w2 ⟨rfl, k2⟩
        have K1 := ((Keep.refl wr).alloc (.cells L.toArray 31)).trans k2
        have P1 := k2.heap (heap_alloc_new wr (.cells L.toArray 31))
        clear k2 hR
        go_wp2_with fail
        -- AppendHeader([]byte{}, raw)
        refine (appendHeader_any _ id fx.toNat ec rrc sq _ hid1 hf1 hec1 hrrc1 hsq1).mono ?_
        rintro e w3 ⟨a3, n3, rfl, hn3, k3⟩
        have K2 := ((Keep.refl w2).alloc (.cells #[.int .u16 id, .int .u8 fx.toNat, .int .u16 ec, .int .u16 rrc, .int .u64 sq] 33)).alloc (.cells #[] 5)
        have B3 := ((Five.new w2 (.int .u16 id) (.int .u8 fx.toNat) (.int .u16 ec) (.int .u16 rrc) (.int .u64 sq)).keep ((Keep.refl _).alloc (.cells #[] 5))).keep k3
        have K3 := K1.trans (K2.trans k3)
        replace P1 := (K2.trans k3).heap P1
        clear k3 K2 K1
        obtain ⟨b0, b1, b2, b3, b4⟩ := B3.cells
        have HN3 := Hid.mk hn3
        clear hn3
        go_wp2_with fail
        -- HeaderErrno(raw), CheckHeader(raw)
        refine (headerErrno_c id fx.toNat ec rrc sq _ hid1 hf1).mono ?_
        rintro e w4 ⟨rfl, k4⟩
        obtain ⟨b0', b1', b2', b3', b4'⟩ := (B3.keep k4).cells
        go_wp2_with fail
        refine (checkHeader_c id fx.toNat ec rrc sq _ hid1 hf1).mono ?_
        rintro e w5 ⟨rfl, k5⟩
        replace P1 := (k4.trans k5).heap P1
        replace K3 := K3.trans (k4.trans k5)
        clear b0 b1 b2 b3 b4 b0' b1' b2' b3' b4' B3 k4 k5
        generalize chk id fx.toNat ec rrc = q at HN3
        go_upto_region 11 with fail
        go_cut [51] from 17 to 191 (fun cv wx => cv = .bool false ∧ wx = w5)
        case first => as_aux_lemma =>
          rcases HN3.out with hq | hq
          · subst hq
            go_wp2_with fail
            go_meet
            case rel => exact ⟨rfl, rfl⟩
          · subst hq
            by_cases hq : q = 0
            · subst hq
              go_wp2_with fail
              go_meet
              case rel => exact ⟨rfl, rfl⟩
            · have hq' : ((q : Int) != 0) = true := bne_t (by omega)
              go_wp2_with fail
              go_meet
              case rel => exact ⟨rfl, rfl⟩
        case rest => as_aux_lemma =>
          obtain ⟨rfl, rfl⟩ := hcut
          clear HN3
          go_wp2_with (refine wpList_load_row (by rfl) 31 (.tmp 4) (by rfl) wr.heap.size (by rfl) 31 L.toArray (0, 0) _ P1 Try.underlying31 rfl hV.siz ?_)
          -- wellFormed(op)
          refine (wellFormed_L hV _ hid1 hf1).mono ?_
          rintro e w6 ⟨rfl, k6⟩
          obtain ⟨hI, hF, hE⟩ := wf_lt id fx.toNat ec hec1
          have hR := (wf_lt id fx.toNat rrc hrrc1).2.2
          have hC := wf_chk id fx.toNat ec rrc
          generalize wfId id = I at hI hC
          generalize wfF id fx.toNat = F at hF hC
          generalize wfE id ec = E at hE hC
          generalize wfE id rrc = R at hR hC
          go_wp2_with fail
          -- AppendHeader([]byte{}, h)
          have K6 := ((Keep.refl w6).alloc (.cells #[.int .u16 I, .int .u8 F, .int .u16 E, .int .u16 R, .int .u64 sq] 33)).alloc (.cells #[] 5)
          have B6 := (Five.new w6 (.int .u16 I) (.int .u8 F) (.int .u16 E) (.int .u16 R) (.int .u64 sq)).keep ((Keep.refl _).alloc (.cells #[] 5))
          refine (appendHeader_ok _ I F E R sq _ hI hF hE hR hsq1 hC).mono ?_
          rintro e w7 ⟨ge, rfl, hge, win7, k7⟩
          have hs6 := (K3.trans k6).size
          have hge' : w6.heap.size + 2 ≤ ge := by simpa using hge
          have S7 : St wr w7 wr.heap.size w6.heap.size ge L I F E R sq :=
            ⟨K3.trans (k6.trans (K6.trans k7)), (k6.trans (K6.trans k7)).heap P1, B6.keep k7, win7, Nat.le_refl _, hs6, by omega⟩
          have hg46 : wr.heap.size < w6.heap.size := by have := blk_lt (k6.heap P1); omega
          clear P1 k6 K3 hge win7 B6 K6 k7
          obtain ⟨p4, p5, p10, p12, p13, p15⟩ := hV.cells S7.op
          go_wp2_with fail
          -- Join(enc, op.Data)
          refine (join_c _ _ _ data _ S7.bs (hbD.keep S7.keep) (by rw [enc_length]; omega)).mono ?_
          rintro e w8 ⟨jv, rfl, ow8, k8⟩
          go_wp2_with fail
          -- ParseHeader
          refine (parseHeader_c _ _ _ ow8.bs).mono ?_
          rintro e w9 ⟨rfl, k9⟩
          rw [parse_enc data hF hE hR hsq1 hC]
          have S9 := S7.step (k8.trans k9)
          clear ow8 k8 k9 S7 p4 p5 p10 p12 p13 p15
          have S9' := S9.step ((Keep.refl w9).alloc (.cells #[.int .u16 I, .int .u8 F, .int .u16 E, .int .u16 R, .int .u64 sq] 33))
          obtain ⟨b0, b1, b2, b3, b4⟩ := S9.hd.cells
          obtain ⟨e0, e1, e2, e3, e4⟩ := S9'.hd.cells
          have HOP := S9'.op
          go_wp2_with (refine wpList_load_row (by rfl) 31 (.tmp 4) (by rfl) wr.heap.size (by rfl) 31 L.toArray (0, 0) _ HOP Try.underlying31 rfl hV.siz ?_)
          -- lend(op, 16)
          refine (lend_L hV _ r14.1 r14.2).mono ?_
          rintro e w10 ⟨rv, rfl, ow10, k10⟩
          have S10 := S9'.step k10
          have hm0 : (room % 4097).toNat ≤ 4096 := by have := Int.emod_lt_of_pos room (show (0 : Int) < 4097 by omega); omega
          generalize (room % 4097).toNat = m at ow10 hm0
          have hlt9 := S9'.lt
          rcases ow10.win with ⟨_, hnil⟩ | ⟨gr, cr, sp, hrv, hgr, winr, hcr, hcm'⟩
          · simp at hnil
          rw [List.length_replicate] at hrv hcr
          subst hrv
          clear ow10 k10 b0 b1 b2 b3 b4 e0 e1 e2 e3 e4 HOP S9
          go_upto_region 21 with fail
          go_cut [101] from 17 to 191 (fun cv wx => cv = .bool false ∧ St wr wx wr.heap.size w6.heap.size ge L I F E R sq)
          case first => as_aux_lemma =>
            obtain ⟨k0, e1, v2, u3, q9, q11, rfl⟩ := hV
            have S10' := S10.drew
            have n4 : wr.heap.size ≠ gr := by omega
            have n8 : w6.heap.size ≠ gr := by omega
            have ne : ge ≠ gr := by omega
            have q1 : (16 : Int) ≤ cr := by omega
            have q2 : 16 ≤ cr := by omega
            have q3 : (16 : Int) ≤ 16 + m := by omega
            have q4 : cr ≤ 9223372036854775807 := by unfold maxLen at hcm'; omega
            by_cases hcap : cr = 16
            · have hm00 : m = 0 := by omega
              subst hm00
              subst hcap
              simp only [Nat.add_zero] at winr ⊢
              clear q1 q3 q4
              go_region_held3 (fun w' => (w'.cell? ⟨w6.heap.size, 0, none⟩ = some (.int .u16 I) ∧ w'.cell? ⟨w6.heap.size, 1, none⟩ = some (.int .u8 F) ∧ w'.cell? ⟨w6.heap.size, 2, none⟩ = some (.int .u16 E) ∧ w'.cell? ⟨w6.heap.size, 3, none⟩ = some (.int .u16 R) ∧ w'.cell? ⟨w6.heap.size, 4, none⟩ = some (.int .u64 sq)) ∧
                  w'.cell? ⟨wr.heap.size, 0, none⟩ = some k0 ∧ w'.cell? ⟨wr.heap.size, 1, none⟩ = some e1 ∧ w'.cell? ⟨wr.heap.size, 2, none⟩ = some v2 ∧ w'.cell? ⟨wr.heap.size, 3, none⟩ = some u3 ∧ w'.cell? ⟨wr.heap.size, 4, none⟩ = some (.int .u16 id) ∧ w'.cell? ⟨wr.heap.size, 5, none⟩ = some (.int .u8 fx.toNat) ∧ w'.cell? ⟨wr.heap.size, 6, none⟩ = some (.int .u16 ec) ∧ w'.cell? ⟨wr.heap.size, 7, none⟩ = some (.int .u16 rrc) ∧ w'.cell? ⟨wr.heap.size, 8, none⟩ = some (.int .u64 sq) ∧ w'.cell? ⟨wr.heap.size, 9, none⟩ = some q9 ∧ w'.cell? ⟨wr.heap.size, 10, none⟩ = some (.slice aD data.length dD) ∧ w'.cell? ⟨wr.heap.size, 11, none⟩ = some q11 ∧ w'.cell? ⟨wr.heap.size, 12, none⟩ = some (.int .i64 off) ∧ w'.cell? ⟨wr.heap.size, 13, none⟩ = some (.int .i64 nn) ∧ w'.cell? ⟨wr.heap.size, 14, none⟩ = some (.int .i64 room) ∧ w'.cell? ⟨wr.heap.size, 15, none⟩ = some (.int .u8 fb.toNat))
                (first | exact ⟨S13.hd.cells, op16_cells S13.op⟩ | exact ⟨S12.hd.cells, op16_cells S12.op⟩ | exact ⟨S11.hd.cells, op16_cells S11.op⟩ | exact ⟨S10'.hd.cells, op16_cells S10'.op⟩)
                (first
                | (go_at_call 16; refine (putHeader_ok gr 16 16 (List.replicate 16 fb) sp I F E R sq _ (by simp) (by omega) (by omega) hcm' hI hF hE hR hsq1 hC winr.drew).mono ?_; rintro e w11 ⟨rfl, win11, gr11⟩; have S11 := S10'.kept gr11 (by omega) n4 n8 ne; have hs1 := put_head (m := 0) win11 q2 hcm'; have hs2 := S11.bs)
                | (go_at_call 17; refine (same_c _ _ _ _ _ hs1 hs2).mono ?_; rintro e w12 ⟨rfl, k12⟩; rw [decide_eq_true rfl]; have S12 := S11.step k12)
                | (go_at_call 18; refine (untouched_c _ _ _ _ _ _ _ _ _ _ _ _ _ _ _ _ fb [] _ (Bs.nil _ _ (by simp [maxLen])) (by simp)).mono ?_; rintro e w13 ⟨rfl, k13⟩; rw [decide_eq_true (by simp)]; have S13 := S12.step k13))
              all_goals
                go_wp2_with fail
                go_meet
                case rel => exact ⟨rfl, S13⟩
            · go_region_held3 (fun w' => (w'.cell? ⟨w6.heap.size, 0, none⟩ = some (.int .u16 I) ∧ w'.cell? ⟨w6.heap.size, 1, none⟩ = some (.int .u8 F) ∧ w'.cell? ⟨w6.heap.size, 2, none⟩ = some (.int .u16 E) ∧ w'.cell? ⟨w6.heap.size, 3, none⟩ = some (.int .u16 R) ∧ w'.cell? ⟨w6.heap.size, 4, none⟩ = some (.int .u64 sq)) ∧
                  w'.cell? ⟨wr.heap.size, 0, none⟩ = some k0 ∧ w'.cell? ⟨wr.heap.size, 1, none⟩ = some e1 ∧ w'.cell? ⟨wr.heap.size, 2, none⟩ = some v2 ∧ w'.cell? ⟨wr.heap.size, 3, none⟩ = some u3 ∧ w'.cell? ⟨wr.heap.size, 4, none⟩ = some (.int .u16 id) ∧ w'.cell? ⟨wr.heap.size, 5, none⟩ = some (.int .u8 fx.toNat) ∧ w'.cell? ⟨wr.heap.size, 6, none⟩ = some (.int .u16 ec) ∧ w'.cell? ⟨wr.heap.size, 7, none⟩ = some (.int .u16 rrc) ∧ w'.cell? ⟨wr.heap.size, 8, none⟩ = some (.int .u64 sq) ∧ w'.cell? ⟨wr.heap.size, 9, none⟩ = some q9 ∧ w'.cell? ⟨wr.heap.size, 10, none⟩ = some (.slice aD data.length dD) ∧ w'.cell? ⟨wr.heap.size, 11, none⟩ = some q11 ∧ w'.cell? ⟨wr.heap.size, 12, none⟩ = some (.int .i64 off) ∧ w'.cell? ⟨wr.heap.size, 13, none⟩ = some (.int .i64 nn) ∧ w'.cell? ⟨wr.heap.size, 14, none⟩ = some (.int .i64 room) ∧ w'.cell? ⟨wr.heap.size, 15, none⟩ = some (.int .u8 fb.toNat))
                (first | exact ⟨S13.hd.cells, op16_cells S13.op⟩ | exact ⟨S12.hd.cells, op16_cells S12.op⟩ | exact ⟨S11.hd.cells, op16_cells S11.op⟩ | exact ⟨S10'.hd.cells, op16_cells S10'.op⟩)
                (first
                | (go_at_call 16; refine (putHeader_ok gr (16 + m) cr (List.replicate (16 + m) fb) sp I F E R sq _ (by simp) (by omega) (by omega) hcm' hI hF hE hR hsq1 hC winr.drew).mono ?_; rintro e w11 ⟨rfl, win11, gr11⟩; have S11 := S10'.kept gr11 (by omega) n4 n8 ne; have hs1 := put_head win11 q2 hcm'; have hs2 := S11.bs)
                | (go_at_call 17; refine (same_c _ _ _ _ _ hs1 hs2).mono ?_; rintro e w12 ⟨rfl, k12⟩; rw [decide_eq_true rfl]; have S12 := S11.step k12; have hs3 := put_tail (c := cr - 16) (win11.keep k12) (by omega) (by omega))
                | (go_at_call 18; refine (untouched_c _ _ _ _ _ _ _ _ _ _ _ _ _ _ _ _ fb (List.replicate m fb) _ hs3 (by simp; omega)).mono ?_; rintro e w13 ⟨rfl, k13⟩; rw [decide_eq_true (by simp)]; have S13 := S12.step k13))
              all_goals
                go_wp2_with fail
                go_meet
                case rel => exact ⟨rfl, S13⟩
          case rest => as_aux_lemma =>
            obtain ⟨rfl, S11⟩ := hcut
            clear S10 winr hgr hcr hcm' hlt9
            have hpl := plc_le off 15
            generalize hpk : plc off 15 = pk at hpl
            have PL : ∀ W : World, Calls Try.prog 20 #[.int .i64 off, .int .i64 15] W fun e w' => e = .returned (.int .i64 pk) ∧ Keep W w' := fun W => by rw [← hpk]; exact place15_c off W r12
            clear hpk
            go_upto_region 23 with fail
            go_cut [11] from 17 to 191 (fun sv wx => Bs wx sv (List.replicate pk fb) ∧ St wr wx wr.heap.size w6.heap.size ge L I F E R sq)
            case first => as_aux_lemma =>
              have S11' := S11.drew
              go_region_held3 (fun w' => w'.cell? ⟨wr.heap.size, 12, none⟩ = some (.int .i64 off) ∧ w'.cell? ⟨wr.heap.size, 15, none⟩ = some (.int .u8 fb.toNat))
                (first | exact ⟨(hV.cells S13.op).2.2.2.1, (hV.cells S13.op).2.2.2.2.2⟩ | exact ⟨(hV.cells S12.op).2.2.2.1, (hV.cells S12.op).2.2.2.2.2⟩ | exact ⟨(hV.cells S11'.op).2.2.2.1, (hV.cells S11'.op).2.2.2.2.2⟩)
                (first
                | (go_at_call 20; refine (PL _).mono ?_; rintro e w12 ⟨rfl, k12⟩; have S12 := S11'.step k12)
                | (go_at_call 19; refine (repeat_c fb pk _ (by omega)).mono ?_; rintro e w13 ⟨sv, rfl, ow13, k13⟩; have S13 := S12.step k13))
              all_goals
                go_wp2_with fail
                go_meet
                case rel => exact ⟨ow13.bs, S13⟩
            case rest => as_aux_lemma =>
              obtain ⟨hbs, S13⟩ := hcut
              clear S11
              obtain ⟨sa, sc, rfl, hsac, hscm, hsca⟩ := hbs.form
              clear hsca
              rw [List.length_replicate] at hsac hbs ⊢
              have hlr : (List.replicate pk fb).length < 16 := by rw [List.length_replicate]; omega
              -- region 24
              obtain ⟨b0, b1, b2, b3, b4⟩ := S13.hd.cells
              go_wp2_with fail
              refine (putHeader_small _ (List.replicate pk fb) I F E R sq _ hbs hlr hI hF hC).mono ?_
              rintro e w14 ⟨rfl, k14⟩
              have S14 := S13.step k14
              have hbs14 := hbs.keep k14
              clear b0 b1 b2 b3 b4 S13 hbs k14
              have HOP := S14.op
              go_wp2_with (refine wpList_load_row_g (by rfl) 31 (.tmp 4) (by rfl) wr.heap.size (by rfl) 31 L.toArray (0, 0) _ HOP Try.underlying31 rfl hV.siz ?_)
              refine (untouched_L hV _ (List.replicate pk fb) _ hbs14 (by omega)).mono ?_
              rintro e w15 ⟨rfl, k15⟩
              rw [decide_eq_true (by simp)]
              have S15 := S14.step k15
              clear S14 hbs14 HOP k15
              obtain ⟨p4, p5, p10, p12, p13, p15⟩ := hV.cells S15.op
              -- region 26
              go_wp2_with fail
              refine (PL _).mono ?_
              rintro e w16 ⟨rfl, k16⟩
              have S16 := S15.step k16
              clear S15 k16 p4 p5 p10 p12 p13 p15
              have x1 : (0 : Int) ≤ pk := by omega
              have x2 : (pk : Int) ≤ 16 := by omega
              have x3 : pk ≤ 16 := by omega
              go_wp2_with fail
              refine (parseRefuses_c _ _ 8 _ (S16.take pk x3) (parse_short (by rw [List.length_take, enc_length]; omega))).mono ?_
              rintro e w17 ⟨rfl, k17⟩
              have S17 := S16.step k17
              clear S16 k17 x1 x2 x3
              obtain ⟨p4, p5, p10, p12, p13, p15⟩ := hV.cells S17.op
              go_upto_region 28 with fail
              go_cut [134] from 17 to 191 (fun cv wx => cv = .bool false ∧ St wr wx wr.heap.size w6.heap.size ge L I F E R sq)
              case first => as_aux_lemma =>
                by_cases hd16 : data.length < 16
                · have y1 : (data.length : Int) < 16 := by omega
                  go_wp2_with fail
                  refine (parseRefuses_c _ data 8 _ (hbD.keep S17.keep) (parse_short hd16)).mono ?_
                  rintro e w18 ⟨rfl, k18⟩
                  go_wp2_with fail
                  go_meet
                  case rel => exact ⟨rfl, S17.step k18⟩
                · have y1 : ¬ (data.length : Int) < 16 := by omega
                  go_wp2_with fail
                  go_meet
                  case rel => exact ⟨rfl, S17⟩
              case rest => as_aux_lemma =>
                obtain ⟨rfl, S18⟩ := hcut
                clear S17 p4 p5 p10 p12 p13 p15
                obtain ⟨p4, p5, p10, p12, p13, p15⟩ := hV.cells S18.op
                go_upto_region 30 with fail
                go_cut [142] from 17 to 191 (fun cv wx => cv = .bool (decide (id ≠ 1284 ∧ id ≠ 1028)) ∧ St wr wx wr.heap.size w6.heap.size ge L I F E R sq)
                case first => as_aux_lemma =>
                  by_cases hi1 : id = 1284
                  · have y1 : ((id : Int) != 1284) = false := bne_f (by omega)
                    go_wp2_with fail
                    go_meet
                    case rel => exact ⟨by simp [hi1], S18⟩
                  · have y1 : ((id : Int) != 1284) = true := bne_t (by omega)
                    by_cases hi2 : id = 1028
                    · have y2 : ((id : Int) != 1028) = false := bne_f (by omega)
                      go_wp2_with fail
                      go_meet
                      case rel => exact ⟨by simp [hi2], S18⟩
                    · have y2 : ((id : Int) != 1028) = true := bne_t (by omega)
                      go_wp2_with fail
                      go_meet
                      case rel => exact ⟨by simp [hi1, hi2], S18⟩
                case rest => as_aux_lemma =>
                  obtain ⟨rfl, S19⟩ := hcut
                  clear S18 p4 p5 p10 p12 p13 p15
                  go_upto_if 142 with fail
                  go_cut [] from 17 to 191 (fun wx => St wr wx wr.heap.size w6.heap.size ge L I F E R sq)
                  case first => as_aux_lemma =>
                    have S19' := S19.drew
                    by_cases hbad : id ≠ 1284 ∧ id ≠ 1028
                    · rw [decide_eq_true hbad]
                      have x64 : IntKind.u64.wrap (id : Int) = id := by simp [IntKind.wrap, IntKind.signed, IntKind.bits]; omega
                      go_wp2_with fail
                      go_region_held3 (fun w' => w'.cell? ⟨wr.heap.size, 4, none⟩ = some (.int .u16 id)) (first | exact (hV.cells S22.op).1 | exact (hV.cells S21.op).1 | exact (hV.cells S20.op).1 | exact (hV.cells S19'.op).1)
                        (first
                        | (go_at_call 22; refine (digits2_c id _ hid1).mono ?_; rintro e w20 ⟨dv, rfl, ow20, k20⟩; have S20 := S19'.step k20)
                        | (go_at_call 14; refine (join_c _ _ _ _ _ ow20.bs S20.drop2 (by rw [dig_length]; simp [enc_length])).mono ?_; rintro e w21 ⟨jv, rfl, ow21, k21⟩; have S21 := S20.step k21)
                        | (go_at_call 21; refine (parseRefuses_c _ _ 10 _ ow21.bs (parse_badid hid1 hbad.1 hbad.2 hI hE hR)).mono ?_; rintro e w22 ⟨rfl, k22⟩; have S22 := S21.step k22))
                      all_goals
                        go_wp2_with fail
                        go_meet
                        case rel => exact S22
                    · rw [decide_eq_false hbad]
                      go_wp2_with fail
                      go_meet
                      case rel => exact S19
                  case rest => as_aux_lemma =>
                    have S20 := hcut
                    clear S19
                    obtain ⟨p4, p5, p10, p12, p13, p15⟩ := hV.cells S20.op
                    obtain ⟨z, hz, hz8⟩ : ∃ z : Int, bits .andNot .u8 (fx.toNat : Int) 7 = z ∧ (z ≠ 0 ↔ 8 ≤ fx.toNat) := ⟨_, andNot7 ⟨fx.toNat, hf1⟩, by dsimp only; omega⟩
                    go_upto_region 33 with fail
                    go_cut [155] from 17 to 191 (fun cv wx => cv = .bool (decide (8 ≤ fx.toNat)) ∧ St wr wx wr.heap.size w6.heap.size ge L I F E R sq)
                    case first => as_aux_lemma =>
                      by_cases h8 : 8 ≤ fx.toNat
                      · have y1 : (z != 0) = true := bne_t (hz8.2 h8)
                        have H8 := Hid.mk h8
                        clear h8 hz8
                        go_wp2_with fail
                        go_meet
                        case rel => exact ⟨by rw [decide_eq_true H8.out], S20⟩
                      · have y1 : (z != 0) = false := bne_f (Decidable.byContradiction fun hne => h8 (hz8.1 hne))
                        have H8 := Hid.mk h8
                        clear h8 hz8
                        go_wp2_with fail
                        go_meet
                        case rel => exact ⟨by rw [decide_eq_false H8.out], S20⟩
                    case rest => as_aux_lemma =>
                      obtain ⟨rfl, S21⟩ := hcut
                      clear S20 p4 p5 p10 p12 p13 p15 hz hz8
                      go_upto_if 155 with fail
                      go_cut [12] from 17 to 191 (fun bv wx => St wr wx wr.heap.size w6.heap.size ge L I F E R sq)
                      case first => as_aux_lemma =>
                        by_cases h8 : 8 ≤ fx.toNat
                        · rw [decide_eq_true h8]
                          have H8 := Hid.mk h8
                          clear h8
                          go_wp2_with fail
                          refine (copy_c _ _ _ S21.bs (by rw [enc_length]; omega)).mono ?_
                          rintro e w22 ⟨bv, rfl, ow22, k22⟩
                          have S22 := S21.step k22
                          obtain ⟨gb, cp, rfl, hcp, hcpm, ⟨xf, hxf, hc2⟩, hall⟩ := S21.bad k22 ow22 hI hE hR
                          have HX := Hid.mk hxf
                          clear hxf
                          obtain ⟨hfz, -, hset⟩ := hall w22 (Keep.refl _) 2 (by omega)
                          clear hall ow22 k22
                          have p5 := (hV.cells S22.op).2.1
                          have hor := bits_or8 xf fx
                          obtain ⟨S23, hb23⟩ := hset (xf ||| fx)
                          go_wp2_with fail
                          go_region
                          all_goals
                            go_wp2_with fail
                            refine (parseRefuses_c _ _ 3 _ hb23.drew (by rw [HX.out]; exact parse_badflags hI hF hE hR hC H8.out)).mono ?_
                            rintro e w24 ⟨rfl, k24⟩
                            go_wp2_with fail
                            go_meet
                            case rel => exact S23.drew.step k24
                        · rw [decide_eq_false h8]
                          clear h8
                          go_wp2_with fail
                          go_meet
                          case rel => exact S21
                      case rest => as_aux_lemma =>
                        have S23 := hcut
                        clear S21
                        obtain ⟨p4, p5, p10, p12, p13, p15⟩ := hV.cells S23.op
                        by_cases hfb : fb = 255
                        · have y1 : ((fb.toNat : Int) != 255) = false := bne_f (by subst hfb; rfl)
                          set_option maxRecDepth 6000 in go_wp2_with fail
                          set_option maxRecDepth 6000 in go_roundw
                          case rel => exact ⟨k + 1, by omega, by go_num, kw.trans S23.keep⟩
                          case measure => simp [intOf]; omega
                        · have y1 : ((fb.toNat : Int) != 255) = true := bne_t (fun hh => hfb (UInt8.toNat_inj.1 (by have : (255 : UInt8).toNat = 255 := rfl; omega)))
                          go_wp2_with fail
                          refine (copy_c _ _ _ S23.bs (by rw [enc_length]; omega)).mono ?_
                          rintro e w24 ⟨bv, rfl, ow24, k24⟩
                          have S24 := S23.step k24
                          obtain ⟨gb, cp, rfl, hcp, hcpm, -, hall⟩ := S23.bad k24 ow24 hI hE hR
                          clear ow24 k24 p4 p5 p10 p12 p13 p15
                          obtain ⟨p4, p5, p10, p12, p13, p15⟩ := hV.cells S24.op
                          obtain ⟨b0, b1, b2, b3, b4⟩ := S24.hd.cells
                          clear b1 b2 b3 b4 p4 p5 p10 p12
                          rcases chk_zero hC with hI' | hI'
                          · have y2 : ((I : Int) == 1028) = false := beq_f (by omega)
                            obtain ⟨hfz, ⟨y, hcy⟩, hset⟩ := hall w24 (Keep.refl _) 3 (by omega)
                            clear hall p13
                            obtain ⟨S25, hb25⟩ := hset fb
                            go_wp2_with fail
                            refine (parseRefuses_c _ _ 11 _ hb25 (parse_filler (k := 0) hI hF hE hR hC hfb (by unfold fil; split <;> omega))).mono ?_
                            rintro e w26 ⟨rfl, k26⟩
                            set_option maxRecDepth 6000 in go_wp2_with fail
                            set_option maxRecDepth 6000 in go_roundw
                            case rel => exact ⟨k + 1, by omega, by go_num, kw.trans (S25.step k26).keep⟩
                            case measure => simp [intOf]; omega
                          · have y2 : ((I : Int) == 1028) = true := beq_t (by omega)
                            have hpn := plc_le nn 4
                            generalize hpk : plc nn 4 = pn at hpn
                            have PL4 : ∀ W : World, Calls Try.prog 20 #[.int .i64 nn, .int .i64 4] W fun e w' => e = .returned (.int .i64 pn) ∧ Keep W w' := fun W => by rw [← hpk]; exact place4_c nn W r13
                            clear hpk
                            obtain ⟨pq, hpq⟩ : ∃ pq, pq = 3 + pn := ⟨_, rfl⟩
                            have y3 : IntKind.i64.wrap (3 + (pn : Int)) = (pq : Int) := by rw [IntKind.wrap_i64] <;> omega
                            have y4 : (0 : Int) ≤ pq := by omega
                            have y5 : (pq : Int) < 16 := by omega
                            have HPQ := Hid.mk hpq
                            clear hpq
                            go_wp2_with fail
                            go_region_with (go_at_call 20; refine (PL4 _).mono ?_; rintro e w25 ⟨rfl, k25⟩; have p15' := k25.cell p15; obtain ⟨hfz, ⟨y, hcy⟩, hset⟩ := hall w25 ((Keep.refl _).drew.trans k25) pq (by have := HPQ.out; omega); obtain ⟨S26, hb26⟩ := hset fb)
                            all_goals
                              go_wp2_with fail
                              refine (parseRefuses_c _ _ 11 _ hb26 (by rw [HPQ.out]; exact parse_filler (k := pn) hI hF hE hR hC hfb (by unfold fil; rw [if_pos hI']; omega))).mono ?_
                              rintro e w27 ⟨rfl, k27⟩
                              set_option maxRecDepth 6000 in go_wp2_with fail
                              set_option maxRecDepth 6000 in go_roundw
                              case rel => exact ⟨k + 1, by omega, by go_num, kw.trans (S26.step k27).keep⟩
                              case measure => simp [intOf]; omega
      · have hlt' : ¬ (k : Int) < ss.length := by omega
        go_wp2
        go_ret
        exact ⟨rfl, kw⟩
end Go.Proofs.Qxb6500771a
