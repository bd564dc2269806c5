/- blastlaw: play. -/
import Derived.Test.Qxb6500772aSb
import Derived.Test.Qxb6500772aGx
import Derived.Test.Qxb6500772aScript
import Derived.Test.Qxb6500772aHh
import Derived.Deep.RegionWith
import Derived.Test.Qxb6500772aPk
namespace Go.Proofs.Qxb6500772a
open Go Go.RowKit Go.Qm
set_option linter.unusedVariables false
set_option linter.unusedSimpArgs false
attribute [local go_sem ↓] Go.wp_at_zero Go.wp_at_succ
theorem Fr.drewq {R : Nat → Prop} {a b : World} (h : Fr R a b) : Fr R a b.drew := h.trans (Fr.keep (Keep.refl b).drew)
theorem Fr.setq {g j : Nat} {a b : World} (h : Fr (fun q => q = g) a b) (u : Value) : Fr (fun q => q = g) a (b.setCell ⟨g, j, none⟩ u) := Fr.setCell (P := fun q => q = g) (p := ⟨g, j, none⟩) h (Or.inl rfl) u
theorem BSt.keep {B gb k : Nat} {w w' : World} (h : BSt B gb k w) (kk : Keep w w') : BSt B gb k w' := by
  obtain ⟨P, cv, xv, sv, pv, nv, cels, es, ss, bad, cu, nx, cf, nf, hb, bd⟩ := h
  exact ⟨P, cv, xv, sv, pv, nv, cels, es, ss, bad, cu, nx, cf, nf, hb.keep kk, bd⟩
theorem BSt.new {w : World} {gb : Nat} (a : Arr w gb 78 [.slice none 0 0, .slice none 0 0, .slice none 0 0, .int .i64 0, .int .i64 1, .int .i64 0, .int .u64 0, .int .i64 0, .int .i64 0, .slice none 0 0, .slice none 0 0, .slice none 0 0, .bool false, .int .i64 0]) : BSt gb gb 0 w := by
  refine ⟨fun _ => False, .slice none 0 0, .slice none 0 0, .slice none 0 0, .slice none 0 0, .slice none 0 0, [], [], [], ⟨⟨0, 1, 0, 0, 0, 0⟩, .slice none 0 0, .nil, []⟩, [], [], false, 0, ⟨a, Nat.le_refl _, OwnS.nil _ _ _ _ _, OwnS.nil _ _ _ _ _, OwnS.nil _ _ _ _ _, OwnS.nil _ _ _ _ _, OwnS.nil _ _ _ _ _, by simp, by simp, by simp, ⟨by constructor <;> simp [I64], rows_nil _ _ 7, rfl⟩, by simp, by simp, by simp [I64], fun q a => a.elim, fun q a => by simp [Value.ownBlock] at a⟩, by simp, by simp, by simp, by simp, by simp, by simp⟩
/-- What play answers. -/
structure TrialOK (w : World) (P : Nat → Prop) (cels : List Cel) (body : SL) (f : EF) (t : EL) (cv bv kv : Value) : Prop where
  cs : CsW P w cv cels
  bd : ∃ brows, Rows P w bv 8 brows ∧ SLW P w body brows
  ef : EFr f
  kd : ∃ rows, Rows P w kv 7 rows ∧ ELW P w t rows
  cr : ∀ c ∈ cels, CelR c
  cl : cels.length ≤ 1000000
  bl : body.size ≤ 1000000
  pl : ∀ q, P q → q < w.heap.size
theorem TrialOK.fr {w w' : World} {P : Nat → Prop} {cels : List Cel} {body : SL} {f : EF} {t : EL} {cv bv kv : Value} (h : TrialOK w P cels body f t cv bv kv) {R : Nat → Prop} (g : Fr R w w') (hr : ∀ q, P q → ¬ R q) : TrialOK w' P cels body f t cv bv kv := by
  have kp : KP P w w' := KP.fr g hr
  obtain ⟨br, b1, b2⟩ := h.bd
  obtain ⟨kr, k1, k2⟩ := h.kd
  exact ⟨h.cs.step kp, ⟨br, b1.step kp, b2.step kp⟩, h.ef, ⟨kr, k1.step kp, k2.step kp⟩, h.cr, h.cl, h.bl, fun q a => Nat.lt_of_lt_of_le (h.pl q a) g.size⟩
def tag (cv bv kv : Value) (f : EF) (err : Int) (c0 : Value) (b0 : Bool) (n0 : Value) (b1 : Bool) : Value := .agg #[cv, bv, .int .i64 f.k, .int .i64 f.w, .int .i64 f.o, .int .u64 ((f.v : Nat) : Int), .int .i64 f.c, .int .i64 f.l, kv, .int .i64 err, c0, .bool b0, n0, .bool b1]
def StV (w : World) (ws : List Int) (v : Value) (b : Bool) (S : PS) : Prop := ∃ ca cap, v = .slice ca S.cells.length cap ∧ Vs w v S.cells ∧ b = S.fault ∧ StOK ws S
def Trial (w : World) (e : Ending) (w' : World) : Prop := Keep w w' ∧ ∃ P cels body f t cv bv kv c0 b0 n0 b1, e = .returned (tag cv bv kv f ((ckP cels body f t : Nat) : Int) c0 b0 n0 b1) ∧ TrialOK w' P cels body f t cv bv kv ∧ (isSl c0 ∧ isSl n0) ∧ (ckP cels body f t = 0 → ∃ Sc Sn, StV w' (cels.map (·.w)) c0 b0 Sc ∧ StV w' (cels.map (·.w)) n0 b1 Sn)
set_option maxRecDepth 4000 in
set_option maxHeartbeats 4000000 in
theorem play_c {w : World} {v : Value} {sc : List OpR} (hs : Script w v sc) (hl : sc.length ≤ 65536) (EX : ∀ (P : Nat → Prop) (cels : List Cel) (f : EF) (t : SL), cels.length ≤ 1000000 → (∀ c ∈ cels, 1 ≤ c.w ∧ c.w ≤ 64) → ExC P cels f t) :
    Calls Try.prog 7 #[v] w fun e w' => Trial w e w' := by
  obtain ⟨va, vc, rfl, v1, v2, hrow⟩ := hs
  obtain ⟨W, hW⟩ : ∃ W, W = (w.alloc (.cells #[.slice none 0 0, .slice none 0 0, .int .i64 0, .int .i64 0, .int .i64 0, .int .u64 0, .int .i64 0, .int .i64 0, .slice none 0 0, .int .i64 0, .slice none 0 0, .bool false, .slice none 0 0, .bool false] 39)).alloc (.cells #[.slice none 0 0, .slice none 0 0, .slice none 0 0, .int .i64 0, .int .i64 1, .int .i64 0, .int .u64 0, .int .i64 0, .int .i64 0, .slice none 0 0, .slice none 0 0, .slice none 0 0, .bool false, .int .i64 0] 78) := ⟨_, rfl⟩
  have kW : Keep w W := by rw [hW]; exact ((Keep.refl w).alloc _).alloc _
  have z1 : (w.alloc (.cells #[.slice none 0 0, .slice none 0 0, .int .i64 0, .int .i64 0, .int .i64 0, .int .u64 0, .int .i64 0, .int .i64 0, .slice none 0 0, .int .i64 0, .slice none 0 0, .bool false, .slice none 0 0, .bool false] 39)).heap.size = w.heap.size + 1 := by simp
  have aR : Arr W w.heap.size 39 [.slice none 0 0, .slice none 0 0, .int .i64 0, .int .i64 0, .int .i64 0, .int .u64 0, .int .i64 0, .int .i64 0, .slice none 0 0, .int .i64 0, .slice none 0 0, .bool false, .slice none 0 0, .bool false] := by rw [hW]; exact (Arr.new w 39 _).keep ((Keep.refl _).alloc _)
  have aG : Arr W (w.heap.size + 1) 78 [.slice none 0 0, .slice none 0 0, .slice none 0 0, .int .i64 0, .int .i64 1, .int .i64 0, .int .u64 0, .int .i64 0, .int .i64 0, .slice none 0 0, .slice none 0 0, .slice none 0 0, .bool false, .int .i64 0] := by rw [hW, ← z1]; exact Arr.new _ 78 _
  obtain ⟨gR, hgR⟩ : ∃ gR, gR = w.heap.size := ⟨_, rfl⟩
  obtain ⟨gb, hgb⟩ : ∃ gb, gb = w.heap.size + 1 := ⟨_, rfl⟩
  rw [← hgR] at aR
  rw [← hgb] at aG
  have HB0 := Hid.mk (BSt.new aG)
  have HKW := Hid.mk kW
  have HAR := Hid.mk aR
  have HROW := Hid.mk hrow
  have HG : Hid (gR = w.heap.size ∧ gb = w.heap.size + 1) := Hid.mk ⟨hgR, hgb⟩
  have HLT : Hid (gb < W.heap.size) := Hid.mk aG.lt
  have HL := Hid.mk hl
  unfold maxLen at v2
  have hvi : (vc : Int) ≤ 9223372036854775807 := by omega
  have hli : (sc.length : Int) ≤ 65536 := by omega
  clear kW z1 aR aG hrow v1 v2 hl
  go_enter Try.func7, Try.ntmps7
  go_upto_region 2 with fail
  rw [← hW, ← hgb, ← hgR]
  clear hW hgR hgb
  go_wp2_with fail
  go_loopg [12] sc.length (fun gk v12 wr => ∃ (k : Nat), k + gk = sc.length ∧ v12 = .int .i64 k ∧ BSt gb gb k wr ∧ Fr (fun q => gb ≤ q) W wr)
  case atStart => exact ⟨0, by omega, rfl, HB0.out, Fr.refl _ _⟩
  case round =>
    obtain ⟨k, hk, rfl, bs, fr⟩ := hrel
    have HKK := Hid.mk hk
    have HBS := Hid.mk bs
    have HFR := Hid.mk fr
    have kk : Keep w wr := by
      refine ⟨fr.os.trans HKW.out.os, fr.tape.trans HKW.out.tape, fr.output.trans HKW.out.output, Nat.le_trans HKW.out.size fr.size, fun q hq => ?_⟩
      have := HG.out
      rw [fr.block q (Nat.lt_of_lt_of_le hq HKW.out.size) (by omega)]
      exact HKW.out.block q hq
    have HKR := Hid.mk kk
    clear hk bs fr
    by_cases hlt : k < sc.length
    · have j1 : (k : Int) < sc.length := by omega
      have j2 : (0 : Int) ≤ k := by omega
      obtain ⟨b, o, ha, oa⟩ := HROW.out k hlt
      subst ha
      have oa := oa.keep kk
      obtain ⟨c0, c1, c2, c3, c4, r0, r1, r2, r3, r4⟩ := oa
      generalize sc[k] = op at *
      obtain ⟨ok, oA, oB, oC, oD⟩ := op
      simp only at c0 c1 c2 c3 c4 r0 r1 r2 r3 r4
      have HRR : Hid (I64 oA ∧ I64 oB ∧ I64 oC ∧ I64 oD) := Hid.mk ⟨r1, r2, r3, r4⟩
      obtain ⟨V, hV⟩ : ∃ V, V = wr.alloc (.cells #[.int .i64 ok, .int .i64 oA, .int .i64 oB, .int .i64 oC, .int .i64 oD] 81) := ⟨_, rfl⟩
      have kV : Keep wr V := by rw [hV]; exact (Keep.refl wr).alloc _
      have aV : Arr V wr.heap.size 81 [.int .i64 ok, .int .i64 oA, .int .i64 oB, .int .i64 oC, .int .i64 oD] := by rw [hV]; exact Arr.new wr 81 _
      have x0 : V.cell? ⟨wr.heap.size, 0, none⟩ = some (.int .i64 ok) := aV.cell 0
      have x1 : V.cell? ⟨wr.heap.size, 1, none⟩ = some (.int .i64 oA) := aV.cell 1
      have x2 : V.cell? ⟨wr.heap.size, 2, none⟩ = some (.int .i64 oB) := aV.cell 2
      have x3 : V.cell? ⟨wr.heap.size, 3, none⟩ = some (.int .i64 oC) := aV.cell 3
      have x4 : V.cell? ⟨wr.heap.size, 4, none⟩ = some (.int .i64 oD) := aV.cell 4
      have HST := Hid.mk (step_c (K := ok) (HBS.out.keep kV) (by have := HL.out; omega) HRR.out.1 HRR.out.2.1 HRR.out.2.2.1 HRR.out.2.2.2)
      have HKV := Hid.mk kV
      clear kV aV r0 r1 r2 r3 r4 kk
      go_upto_region 5 with fail
      rw [← hV]
      clear hV c0 c1 c2 c3 c4
      go_wp2_with fail
      refine HST.out.mono ?_
      rintro e w5 ⟨rfl, bs5, fr5⟩
      have HB5 := Hid.mk bs5
      have HF5 := Hid.mk ((HFR.out.trans (Fr.keep HKV.out)).trans fr5)
      clear bs5 fr5 x0 x1 x2 x3 x4
      go_wp2_with fail
      go_roundg (gk - 1)
      case measure => have := HKK.out; omega
      case rel => exact ⟨k + 1, by have := HKK.out; omega, by go_num, HB5.out, HF5.out⟩
    · have j1 : ¬ (k : Int) < sc.length := by omega
      obtain rfl : k = sc.length := by have := HKK.out; omega
      obtain ⟨P, cv, xv, sv, pv, nv, cels, es, ss, bad, cu, nx, cf, nf, hb, bd⟩ := HBS.out
      obtain ⟨ca, cc, hcv⟩ := OwnS.len hb.oc
      obtain ⟨sa, sc2, hsv⟩ := OwnS.len hb.os
      obtain ⟨ka, kc, hkv, kc1, kc2⟩ := hb.hb.2.1.form
      obtain ⟨pa2, pc2, hpv⟩ := OwnS.len hb.ou
      obtain ⟨na2, nc2, hnv⟩ := OwnS.len hb.on
      subst hcv hsv hpv hnv
      have HFK : Hid (∀ Z, Keep wr Z → (fun w' => w'.cell? ⟨gb, 0, none⟩ = some (.slice ca cels.length cc) ∧ w'.cell? ⟨gb, 2, none⟩ = some (.slice sa ss.length sc2) ∧ w'.cell? ⟨gb, 3, none⟩ = some (.int .i64 bad.f.k) ∧ w'.cell? ⟨gb, 4, none⟩ = some (.int .i64 bad.f.w) ∧ w'.cell? ⟨gb, 5, none⟩ = some (.int .i64 bad.f.o) ∧ w'.cell? ⟨gb, 6, none⟩ = some (.int .u64 ((bad.f.v : Nat) : Int)) ∧ w'.cell? ⟨gb, 7, none⟩ = some (.int .i64 bad.f.c) ∧ w'.cell? ⟨gb, 8, none⟩ = some (.int .i64 bad.f.l) ∧ w'.cell? ⟨gb, 9, none⟩ = some (.slice ka bad.kr.length kc)) Z) := Hid.mk (fun Z kz => ⟨kz.cell (hb.ar.cell 0), kz.cell (hb.ar.cell 2), kz.cell (hb.ar.cell 3), kz.cell (hb.ar.cell 4), kz.cell (hb.ar.cell 5), kz.cell (hb.ar.cell 6), kz.cell (hb.ar.cell 7), kz.cell (hb.ar.cell 8), kz.cell (by rw [← hkv]; exact hb.ar.cell 9)⟩)
      have HBB := Hid.mk hb
      have HBD := Hid.mk bd
      have HKV := Hid.mk hkv
      have HRL : Hid (gR < gb ∧ gb < wr.heap.size ∧ gR < W.heap.size) := Hid.mk (by have := HG.out; have := HLT.out; have := hb.ar.lt; omega)
      clear hb bd hkv kk kc1 kc2
      go_upto_region 7 with fail
      go_region_held3 (fun w' => w'.cell? ⟨gb, 0, none⟩ = some (.slice ca cels.length cc) ∧ w'.cell? ⟨gb, 2, none⟩ = some (.slice sa ss.length sc2) ∧ w'.cell? ⟨gb, 3, none⟩ = some (.int .i64 bad.f.k) ∧ w'.cell? ⟨gb, 4, none⟩ = some (.int .i64 bad.f.w) ∧ w'.cell? ⟨gb, 5, none⟩ = some (.int .i64 bad.f.o) ∧ w'.cell? ⟨gb, 6, none⟩ = some (.int .u64 ((bad.f.v : Nat) : Int)) ∧ w'.cell? ⟨gb, 7, none⟩ = some (.int .i64 bad.f.c) ∧ w'.cell? ⟨gb, 8, none⟩ = some (.int .i64 bad.f.l) ∧ w'.cell? ⟨gb, 9, none⟩ = some (.slice ka bad.kr.length kc)) (with_reducible first | exact HFK.out _ (Keep.refl _).drew | exact HFK.out _ ((Keep.refl _).alloc _).drew | exact HFK.out _ ((Keep.refl _).drew.alloc _)) (fail)
      rename_i hHd
      clear hHd
      obtain ⟨w7, hw7⟩ : ∃ w7, w7 = (wr.alloc (.cells #[.slice ca cels.length cc, .slice sa ss.length sc2, .int .i64 bad.f.k, .int .i64 bad.f.w, .int .i64 bad.f.o, .int .u64 ((bad.f.v : Nat) : Int), .int .i64 bad.f.c, .int .i64 bad.f.l, .slice ka bad.kr.length kc, .int .i64 0, .slice none 0 0, .bool false, .slice none 0 0, .bool false] 39)).drew := ⟨_, rfl⟩
      rw [← hw7]
      have k7 : Keep wr w7 := by rw [hw7]; exact ((Keep.refl wr).alloc _).drew
      have a7 : Arr w7 wr.heap.size 39 [.slice ca cels.length cc, .slice sa ss.length sc2, .int .i64 bad.f.k, .int .i64 bad.f.w, .int .i64 bad.f.o, .int .u64 ((bad.f.v : Nat) : Int), .int .i64 bad.f.c, .int .i64 bad.f.l, .slice ka bad.kr.length kc, .int .i64 0, .slice none 0 0, .bool false, .slice none 0 0, .bool false] := by rw [hw7]; exact (Arr.new wr 39 _).drew
      obtain ⟨gT, hgT⟩ : ∃ gT, gT = wr.heap.size := ⟨_, rfl⟩
      rw [← hgT] at a7 ⊢
      have hb7 := HBB.out.keep k7
      have TOK : TrialOK w7 (fun q => P q ∨ (Value.slice ca cels.length cc).ownBlock = some q ∨ (Value.slice sa ss.length sc2).ownBlock = some q) cels (mkS ss) bad.f bad.t (.slice ca cels.length cc) (.slice sa ss.length sc2) (.slice ka bad.kr.length kc) := by
        obtain ⟨b1, b2, b3, b4, b5, b6⟩ := HBD.out
        have := HL.out
        refine ⟨OwnS.rows hb7.oc celC_len (fun q a => Or.inr (Or.inl a)), ⟨_, OwnS.rows hb7.os nsC_len (fun q a => Or.inr (Or.inr a)), mkS_ok (fun x hx => (hb7.hs x hx).weak (fun q a => Or.inl a))⟩, hb7.hb.1, ⟨bad.kr, ?_, ELW.weak (fun q a => Or.inl a) hb7.hb.2.2⟩, hb7.hc, by omega, by rw [mkS_size]; omega, fun q a => ?_⟩
        · have := hb7.hb.2.1.weak (Q := (fun q => P q ∨ (Value.slice ca cels.length cc).ownBlock = some q ∨ (Value.slice sa ss.length sc2).ownBlock = some q)) (fun q a => Or.inl a)
          rw [HKV.out] at this
          exact this
        · rcases a with a | a | a
          · exact (hb7.sp q a).2.1
          · exact (hb7.oc.lt q a).2
          · exact (hb7.os.lt q a).2
      have HTK := Hid.mk TOK
      have HLOW : Hid (∀ q, (fun q => P q ∨ (Value.slice ca cels.length cc).ownBlock = some q ∨ (Value.slice sa ss.length sc2).ownBlock = some q) q → gb ≤ q ∧ q < gT) := Hid.mk (fun q a => by
        rw [hgT]
        rcases a with a | a | a
        · exact ⟨(HBB.out.sp q a).1, (HBB.out.sp q a).2.1⟩
        · exact HBB.out.oc.lt q a
        · exact HBB.out.os.lt q a)
      have HGT : Hid (gT = wr.heap.size) := Hid.mk hgT
      have HB7 := Hid.mk hb7
      have HA7 := Hid.mk a7
      have HK7 := Hid.mk k7
      have hck : ∀ Z, Keep w7 Z → Calls Try.prog 23 #[prA (.slice ca cels.length cc) (.slice sa ss.length sc2) bad.f (.slice ka bad.kr.length kc)] Z fun e w' => e = .returned (.int .i64 ((ckP cels (mkS ss) bad.f bad.t : Nat) : Int)) ∧ Keep Z w' := fun Z kz => by
        obtain ⟨br, hb1, hb2⟩ := TOK.bd
        obtain ⟨kr, hk1, hk2⟩ := TOK.kd
        exact check_c TOK.cl TOK.cr TOK.bl (TOK.cs.step (KP.of kz)) (hb1.step (KP.of kz)) (hb2.step (KP.of kz)) TOK.ef (hk1.step (KP.of kz)) (hk2.step (KP.of kz))
      simp only [prA] at hck
      have HCK := Hid.mk hck
      obtain ⟨er, her⟩ : ∃ er, ckP cels (mkS ss) bad.f bad.t = er := ⟨_, rfl⟩
      rw [her] at HCK
      have HER := Hid.mk her
      have t0 : w7.cell? ⟨gT, 0, none⟩ = some (.slice ca cels.length cc) := a7.cell 0
      have t1 : w7.cell? ⟨gT, 1, none⟩ = some (.slice sa ss.length sc2) := a7.cell 1
      have t2 : w7.cell? ⟨gT, 2, none⟩ = some (.int .i64 bad.f.k) := a7.cell 2
      have t3 : w7.cell? ⟨gT, 3, none⟩ = some (.int .i64 bad.f.w) := a7.cell 3
      have t4 : w7.cell? ⟨gT, 4, none⟩ = some (.int .i64 bad.f.o) := a7.cell 4
      have t5 : w7.cell? ⟨gT, 5, none⟩ = some (.int .u64 ((bad.f.v : Nat) : Int)) := a7.cell 5
      have t6 : w7.cell? ⟨gT, 6, none⟩ = some (.int .i64 bad.f.c) := a7.cell 6
      have t7 : w7.cell? ⟨gT, 7, none⟩ = some (.int .i64 bad.f.l) := a7.cell 7
      have t8 : w7.cell? ⟨gT, 8, none⟩ = some (.slice ka bad.kr.length kc) := a7.cell 8
      have t9 : w7.cell? ⟨gT, 9, none⟩ = some (.int .i64 0) := a7.cell 9
      have t10 : w7.cell? ⟨gT, 10, none⟩ = some (.slice none 0 0) := a7.cell 10
      have t11 : w7.cell? ⟨gT, 11, none⟩ = some (.bool false) := a7.cell 11
      have t12 : w7.cell? ⟨gT, 12, none⟩ = some (.slice none 0 0) := a7.cell 12
      have t13 : w7.cell? ⟨gT, 13, none⟩ = some (.bool false) := a7.cell 13
      clear hb7 TOK a7 k7 hw7 hgT hck her
      go_wp2_with fail
      refine (HCK.out w7 (Keep.refl _)).mono ?_
      rintro e w8 ⟨rfl, k8⟩
      have HK8 := Hid.mk k8
      have HA8 := Hid.mk (HA7.out.keep k8)
      have t9' : w8.cell? ⟨gT, 9, none⟩ = some (.int .i64 0) := HA8.out.cell 9
      have u9 := HA8.out.frozen 9
      clear k8 t0 t1 t2 t3 t4 t5 t6 t7 t8 t9 t10 t11 t12 t13
      go_upto_region 9 with fail
      obtain ⟨w9, hw9⟩ : ∃ w9, w9 = w8.setCell ⟨gT, 9, none⟩ (.int .i64 ((er : Nat) : Int)) := ⟨_, rfl⟩
      rw [← hw9]
      have a9 : Arr w9 gT 39 [.slice ca cels.length cc, .slice sa ss.length sc2, .int .i64 bad.f.k, .int .i64 bad.f.w, .int .i64 bad.f.o, .int .u64 ((bad.f.v : Nat) : Int), .int .i64 bad.f.c, .int .i64 bad.f.l, .slice ka bad.kr.length kc, .int .i64 ((er : Nat) : Int), .slice none 0 0, .bool false, .slice none 0 0, .bool false] := by rw [hw9]; exact HA8.out.set 9 _
      have f9 : Fr (fun q => q = gT) w8 w9 := by rw [hw9]; exact Fr.setCell (P := fun q => q = gT) (p := ⟨gT, 9, none⟩) (Fr.refl _ w8) (Or.inl rfl) _
      have HA9 := Hid.mk a9
      have HF9 := Hid.mk (((Fr.keep HK7.out).trans (Fr.keep HK8.out)).trans f9)
      have HF79 := Hid.mk ((Fr.keep HK8.out).trans f9)
      have aR9 : Arr w9 gR 39 [.slice none 0 0, .slice none 0 0, .int .i64 0, .int .i64 0, .int .i64 0, .int .u64 0, .int .i64 0, .int .i64 0, .slice none 0 0, .int .i64 0, .slice none 0 0, .bool false, .slice none 0 0, .bool false] := f9.arr (fun e => by have := HRL.out; have := HGT.out; omega) (((HFR.out.arr (fun e => by have := HRL.out; omega) HAR.out).keep HK7.out).keep HK8.out)
      have HR9 := Hid.mk aR9
      clear t9' u9 hw9 a9 f9 aR9
      by_cases he : er = 0
      · subst he
        have e1 : ((((0 : Nat) : Nat) : Int) != 0) = false := rfl
        have OKQ := ckP_ok HER.out
        have HOK := Hid.mk OKQ
        have hci : (cels.length : Int) ≤ 1000000 := by have := OKQ.cl; omega
        have hmk := run_make1 (P := Try.prog) Try.underlying35 inf28 rfl (cels.length : Int) (cels.length : Int) (by omega) (by omega) (by omega) (by omega)
        simp only [Int.toNat_natCast] at hmk
        have hb9 := HB7.out.frN HF79.out (fun q e => by
          have h1 := HGT.out
          have : q = gT := e
          exact ⟨fun a => by have := HBB.out.low q a; omega, fun a => by have := (HBB.out.sp q a).2.1; omega⟩)
        have HB9 := Hid.mk hb9
        have d0 : w9.cell? ⟨gb, 0, none⟩ = some (.slice ca cels.length cc) := hb9.ar.cell 0
        have d12 : w9.cell? ⟨gb, 12, none⟩ = some (.bool cf) := hb9.ar.cell 12
        have a9 := HA9.out
        have t9 : w9.cell? ⟨gT, 9, none⟩ = some (.int .i64 0) := a9.cell 9
        have t10 : w9.cell? ⟨gT, 10, none⟩ = some (.slice none 0 0) := a9.cell 10
        have u10 := a9.frozen 10
        have t11 : w9.cell? ⟨gT, 11, none⟩ = some (.bool false) := a9.cell 11
        have u11 := a9.frozen 11
        have ne1 : gb ≠ gT := by have := HRL.out; have := HGT.out; omega
        have HKG : Hid (∀ Z, Fr (fun q => q = gT) w9 Z → Z.cell? ⟨gb, 0, none⟩ = some (.slice ca cels.length cc) ∧ Z.cell? ⟨gb, 12, none⟩ = some (.bool cf)) := Hid.mk (fun Z kz => ⟨Fr.cellq kz ne1 d0, Fr.cellq kz ne1 d12⟩)
        have HGL : Hid (gT < w9.heap.size ∧ gb < w9.heap.size) := Hid.mk ⟨a9.lt, hb9.ar.lt⟩
        clear hb9 a9 OKQ
        go_upto_region 11 with fail
        have hlT : gT < w9.heap.size := HGL.out.1
        have hlB : gb < w9.heap.size := HGL.out.2
        go_region
        obtain ⟨gC, hgC⟩ : ∃ gC, gC = w9.heap.size := ⟨_, rfl⟩
        rw [← hgC]
        obtain ⟨w11, hw11⟩ : ∃ w11, w11 = (((w9.setCell ⟨gT, 10, none⟩ (.slice (some ⟨gC, 0, none⟩) cels.length cels.length)).setCell ⟨gT, 11, none⟩ (.bool cf)).alloc (.cells (rep cels.length (.int .u64 0)) 28)).drew := ⟨_, rfl⟩
        rw [← hw11]
        have f11 : Fr (fun q => q = gT) w9 w11 := by rw [hw11]; (repeat (first | apply Fr.drewq | apply Fr.setq | apply Fr.alloc)); exact Fr.refl _ _
        have a11 : Arr w11 gT 39 [.slice ca cels.length cc, .slice sa ss.length sc2, .int .i64 bad.f.k, .int .i64 bad.f.w, .int .i64 bad.f.o, .int .u64 ((bad.f.v : Nat) : Int), .int .i64 bad.f.c, .int .i64 bad.f.l, .slice ka bad.kr.length kc, .int .i64 0, .slice (some ⟨gC, 0, none⟩) cels.length cels.length, .bool cf, .slice none 0 0, .bool false] := by rw [hw11]; exact (((HA9.out.set 10 _).set 11 _).keep ((Keep.refl _).alloc _)).drew
        have e0 : rep cels.length (.int .u64 0) = ((List.replicate cels.length 0).map uv ++ []).toArray := by simp [rep, uv]
        have hsz : ((w9.setCell ⟨gT, 10, none⟩ (.slice (some ⟨gC, 0, none⟩) cels.length cels.length)).setCell ⟨gT, 11, none⟩ (.bool cf)).heap.size = gC := by rw [hgC]; simp
        have aC : Arr w11 gC 28 ((List.replicate cels.length 0).map uv ++ []) := by
          have h1 := Arr.new ((w9.setCell ⟨gT, 10, none⟩ (.slice (some ⟨gC, 0, none⟩) cels.length cels.length)).setCell ⟨gT, 11, none⟩ (.bool cf)) 28 ((List.replicate cels.length 0).map uv ++ [])
          rw [hsz, ← e0] at h1
          rw [hw11]
          exact h1.drew
        have hlr : (List.replicate cels.length 0).length = cels.length := List.length_replicate
        have cl11 : Cl w11.drew gC (some ⟨gC, 0, none⟩) cels.length [] (List.replicate cels.length 0) := ⟨fun _ => ⟨rfl, aC.drew⟩, by rw [hlr]; exact Nat.le_refl _, by simp [maxLen]; have := HOK.out.cl; omega⟩
        have so11 : StOK (cels.map (·.w)) ⟨List.replicate cels.length 0, false⟩ := ⟨by simp, fun j hj => by
          simp only [List.length_map] at hj
          simp [List.getD_eq_getElem?_getD, List.getElem?_replicate, hj]
          exact Nat.two_pow_pos _⟩
        have F79 := HF79.out.trans f11
        have hb11 := HB7.out.frN F79 (fun q e => by
          have h1 := HGT.out
          have : q = gT := e
          exact ⟨fun a => by have := HBB.out.low q a; omega, fun a => by have := (HBB.out.sp q a).2.1; omega⟩)
        have tk11 := HTK.out.fr F79 (fun q a e => by have := HLOW.out q a; have : q = gT := e; omega)
        have hcw : ∀ c ∈ cels, 1 ≤ c.w ∧ c.w ≤ 64 := fun c hc => ⟨(HOK.out.ce c hc).w1, (HOK.out.ce c hc).w2⟩
        have HCW := Hid.mk hcw
        have kd11 := (Keep.refl w11).drew
        have hszz : gT < gC := by rw [hgC]; exact HGL.out.1
        have HGC : Hid (gT < gC ∧ gC < w11.heap.size) := Hid.mk ⟨hszz, aC.lt⟩
        have HGW : Hid (w7.heap.size ≤ gC) := Hid.mk (by rw [hgC]; exact HF79.out.size)
        have AP := apply_c (o := 10) (kb := .slice ka bad.kr.length kc) (f := bad.f) (bv := .slice sa ss.length sc2) tk11.cl hcw (tk11.cs.step (KP.of kd11)) ⟨_, _, _, rfl⟩ ⟨_, _, _, rfl⟩ (by rw [hlr]; exact kd11.cell (a11.cell 10)) cl11 so11 (hb11.ou.keep kd11) hb11.hu (by have := HBD.out; have := HL.out; omega) (by omega) (fun a => by have := HLOW.out _ a; omega) (fun e => by have := (HBB.out.ou.lt _ e).2; have := HGT.out; omega) (Nat.lt_of_lt_of_le aC.lt kd11.size)
        simp only [prA] at AP
        have HAP := Hid.mk AP
        have HA11 := Hid.mk a11
        have HF11 := Hid.mk F79
        have HAC := Hid.mk aC
        have HB11 := Hid.mk hb11
        have HTK11 := Hid.mk tk11
        have d10 : w11.cell? ⟨gb, 10, none⟩ = some (.slice pa2 cu.length pc2) := hb11.ar.cell 10
        have t0 : w11.cell? ⟨gT, 0, none⟩ = some (.slice ca cels.length cc) := a11.cell 0
        have t1 : w11.cell? ⟨gT, 1, none⟩ = some (.slice sa ss.length sc2) := a11.cell 1
        have t2 : w11.cell? ⟨gT, 2, none⟩ = some (.int .i64 bad.f.k) := a11.cell 2
        have t3 : w11.cell? ⟨gT, 3, none⟩ = some (.int .i64 bad.f.w) := a11.cell 3
        have t4 : w11.cell? ⟨gT, 4, none⟩ = some (.int .i64 bad.f.o) := a11.cell 4
        have t5 : w11.cell? ⟨gT, 5, none⟩ = some (.int .u64 ((bad.f.v : Nat) : Int)) := a11.cell 5
        have t6 : w11.cell? ⟨gT, 6, none⟩ = some (.int .i64 bad.f.c) := a11.cell 6
        have t7 : w11.cell? ⟨gT, 7, none⟩ = some (.int .i64 bad.f.l) := a11.cell 7
        have t8 : w11.cell? ⟨gT, 8, none⟩ = some (.slice ka bad.kr.length kc) := a11.cell 8
        have t9 : w11.cell? ⟨gT, 9, none⟩ = some (.int .i64 0) := a11.cell 9
        have t10 : w11.cell? ⟨gT, 10, none⟩ = some (.slice (some ⟨gC, 0, none⟩) cels.length cels.length) := a11.cell 10
        have t11 : w11.cell? ⟨gT, 11, none⟩ = some (.bool cf) := a11.cell 11
        clear f11 a11 e0 hsz aC hlr cl11 so11 F79 hb11 tk11 kd11 hszz AP hw11 hgC hmk d0 d12 u10 u11 hlT hlB hcw ne1
        go_upto_region 12 with fail
        refine p12_c gT gb _ _ _ _ _ _ _ _ _ _ rfl rfl rfl (HA11.out.drew.cell 0) (HA11.out.drew.cell 1) (HA11.out.drew.cell 2) (HA11.out.drew.cell 3) (HA11.out.drew.cell 4) (HA11.out.drew.cell 5) (HA11.out.drew.cell 6) (HA11.out.drew.cell 7) (HA11.out.drew.cell 8) (HB11.out.ar.drew.cell 10) _ HAP.out ?_
        rintro vs12 w12 ⟨l1, hl1, so1, cl1, fr12⟩
        simp only [Lmx, p12T, List.filterMap_cons, List.filterMap_nil, ment, Option.map_some, Option.map_none, mval, lay, List.foldl_cons, List.foldl_nil]
        simp only [put_litx, List.set_cons_succ, List.set_cons_zero]
        have hgc := HGC.out
        have hsd : w11.drew.heap.size = w11.heap.size := rfl
        have a12 : Arr w12 gT 39 [.slice ca cels.length cc, .slice sa ss.length sc2, .int .i64 bad.f.k, .int .i64 bad.f.w, .int .i64 bad.f.o, .int .u64 ((bad.f.v : Nat) : Int), .int .i64 bad.f.c, .int .i64 bad.f.l, .slice ka bad.kr.length kc, .int .i64 0, .slice (some ⟨gC, 0, none⟩) cels.length cels.length, .bool cf, .slice none 0 0, .bool false] := fr12.arr (fun e => by have : gT = gC := e; omega) HA11.out.drew
        have F712 : Fr (fun q => w7.heap.size ≤ q ∨ q = gT) w7 w12 := ((HF11.out.mono (fun q _ e => Or.inr e)).trans (Fr.keep (Keep.refl w11).drew)).trans (fr12.mono (fun q _ e => Or.inl (by have h1 := HF79.out.size; have h2 := HGL.out; have : q = gC := e; have := HGW.out; omega)))
        have sepw : ∀ q, (w7.heap.size ≤ q ∨ q = gT) → ¬ fpB gb (.slice ca cels.length cc) xv (.slice sa ss.length sc2) (.slice pa2 cu.length pc2) (.slice na2 nx.length nc2) q ∧ ¬ P q := fun q e => by
          have h1 := HGT.out
          have h2 := HK7.out.size
          exact ⟨fun a => by have := HBB.out.low q a; rcases e with e | e <;> omega, fun a => by have := (HBB.out.sp q a).2.1; rcases e with e | e <;> omega⟩
        have HSEP := Hid.mk sepw
        have septk : ∀ q, (fun q => P q ∨ (Value.slice ca cels.length cc).ownBlock = some q ∨ (Value.slice sa ss.length sc2).ownBlock = some q) q → ¬ (w7.heap.size ≤ q ∨ q = gT) := fun q a e => by have h1 := HLOW.out q a; have h2 := HTK.out.pl q a; rcases e with e | e <;> omega
        have HSTK := Hid.mk septk
        have tk12 := HTK.out.fr F712 septk
        have hb12 := HB7.out.frN F712 sepw
        have hl1' : l1.length = cels.length := by rw [hl1]; exact List.length_replicate
        have so1' : StOK (cels.map (·.w)) ⟨l1, cf⟩ := ⟨so1.1, so1.2⟩
        obtain ⟨br, hbr1, hbr2⟩ := tk12.bd
        have SC := scan_c (EX _ cels bad.f (mkS ss) tk12.cl HCW.out) (kb := .slice ka bad.kr.length kc) (S := ⟨l1, cf⟩) (sa := some ⟨gC, 0, none⟩) (sc := cels.length) tk12.cl tk12.cs hbr1 hbr2 ⟨_, _, _, rfl⟩ HOK.out.wb cl1.vs so1' tk12.pl
        simp only [prA] at SC
        rw [hl1'] at SC
        have so2 := exL_ok (ws := cels.map (·.w)) (fun a ha => by obtain ⟨c, hc, rfl⟩ := List.mem_map.1 ha; exact HCW.out c hc) HOK.out.wb so1'
        generalize exL (cels.map (·.w)) (mkS ss) ⟨l1, cf⟩ = S2 at SC so2
        have hl2 : S2.cells.length = cels.length := by have := so2.1; simpa using this
        have HSC := Hid.mk SC
        have HL1 := Hid.mk hl1'
        have HSO1 := Hid.mk so1'
        have HSO2 := Hid.mk so2
        have HLS2 := Hid.mk hl2
        have HCL1 := Hid.mk cl1
        have HA12 := Hid.mk a12
        have HF712 := Hid.mk F712
        have HB12 := Hid.mk hb12
        have HS12 : Hid (gC < w12.heap.size ∧ w7.heap.size ≤ w12.heap.size ∧ gT < w12.heap.size) := Hid.mk ⟨by have := fr12.size; omega, F712.size, a12.lt⟩
        have t0 : w12.cell? ⟨gT, 0, none⟩ = some (.slice ca cels.length cc) := a12.cell 0
        have t1 : w12.cell? ⟨gT, 1, none⟩ = some (.slice sa ss.length sc2) := a12.cell 1
        have t2 : w12.cell? ⟨gT, 2, none⟩ = some (.int .i64 bad.f.k) := a12.cell 2
        have t3 : w12.cell? ⟨gT, 3, none⟩ = some (.int .i64 bad.f.w) := a12.cell 3
        have t4 : w12.cell? ⟨gT, 4, none⟩ = some (.int .i64 bad.f.o) := a12.cell 4
        have t5 : w12.cell? ⟨gT, 5, none⟩ = some (.int .u64 ((bad.f.v : Nat) : Int)) := a12.cell 5
        have t6 : w12.cell? ⟨gT, 6, none⟩ = some (.int .i64 bad.f.c) := a12.cell 6
        have t7 : w12.cell? ⟨gT, 7, none⟩ = some (.int .i64 bad.f.l) := a12.cell 7
        have t8 : w12.cell? ⟨gT, 8, none⟩ = some (.slice ka bad.kr.length kc) := a12.cell 8
        have t9 : w12.cell? ⟨gT, 9, none⟩ = some (.int .i64 0) := a12.cell 9
        have t10 : w12.cell? ⟨gT, 10, none⟩ = some (.slice (some ⟨gC, 0, none⟩) cels.length cels.length) := a12.cell 10
        have t11 : w12.cell? ⟨gT, 11, none⟩ = some (.bool cf) := a12.cell 11
        clear hgc hsd a12 F712 sepw septk tk12 hb12 hl1' so1' so1 hbr1 hbr2 SC so2 hl2 hl1 cl1 fr12
        go_wp2_with fail
        refine HSC.out.mono ?_
        rintro e w13 ⟨⟨gC2, ca2, cap2, sp2, he, cl2, g2a, g2b⟩, k13⟩
        rw [HLS2.out] at he
        subst he
        have a13 := HA12.out.keep k13
        have z12 : w13.cell? ⟨gT, 12, none⟩ = some (.slice none 0 0) := a13.cell 12
        have z12f := a13.frozen 12
        have z13 : w13.cell? ⟨gT, 13, none⟩ = some (.bool false) := a13.cell 13
        have z13f := a13.frozen 13
        have HA13 := Hid.mk a13
        have HK13 := Hid.mk k13
        have HCL2 := Hid.mk cl2
        have HGC2 : Hid (w12.heap.size ≤ gC2 ∧ gC2 < w13.heap.size ∧ gC < gC2 ∧ gT < gC2 ∧ w7.heap.size ≤ gC2) := Hid.mk (by have := HS12.out; omega)
        clear a13 k13 cl2 g2a g2b t0 t1 t2 t3 t4 t5 t6 t7 t8 t9 t10 t11
        go_upto_region 14 with fail
        obtain ⟨w14, hw14⟩ : ∃ w14, w14 = (w13.setCell ⟨gT, 12, none⟩ (.slice ca2 cels.length cap2)).setCell ⟨gT, 13, none⟩ (.bool S2.fault) := ⟨_, rfl⟩
        rw [← hw14]
        have f14 : Fr (fun q => q = gT) w13 w14 := by rw [hw14]; (repeat (first | apply Fr.drewq | apply Fr.setq | apply Fr.alloc)); exact Fr.refl _ _
        have a14 : Arr w14 gT 39 [.slice ca cels.length cc, .slice sa ss.length sc2, .int .i64 bad.f.k, .int .i64 bad.f.w, .int .i64 bad.f.o, .int .u64 ((bad.f.v : Nat) : Int), .int .i64 bad.f.c, .int .i64 bad.f.l, .slice ka bad.kr.length kc, .int .i64 0, .slice (some ⟨gC, 0, none⟩) cels.length cels.length, .bool cf, .slice ca2 cels.length cap2, .bool S2.fault] := by rw [hw14]; exact (HA13.out.set 12 _).set 13 _
        have F714 := (HF712.out.trans (Fr.keep HK13.out)).trans (f14.mono (fun q _ e => Or.inr e))
        have F714d := F714.trans (Fr.keep (Keep.refl w14).drew)
        have tk14 := HTK.out.fr F714d HSTK.out
        have hb14 := HB7.out.frN F714d HSEP.out
        have hgc2 := HGC2.out
        have cl14 := (HCL2.out.fr f14 (fun e => by have : gC2 = gT := e; omega)).fr (Fr.keep (P := fun _ => False) (Keep.refl w14).drew) (fun a => a)
        have AP2 := apply_c (o := 12) (gT := gT) (kb := .slice ka bad.kr.length kc) (f := bad.f) (bv := .slice sa ss.length sc2) tk14.cl HCW.out tk14.cs ⟨_, _, _, rfl⟩ ⟨_, _, _, rfl⟩ (by rw [HLS2.out]; exact (a14.drew).cell 12) cl14 ⟨HSO2.out.1, HSO2.out.2⟩ hb14.on hb14.hn (by have := HBD.out; have := HL.out; omega) (by omega) (fun a => by have := HLOW.out _ a; omega) (fun e => by have := (HBB.out.on.lt _ e).2; have := HGT.out; have := HK7.out.size; omega) (by have := f14.size; have : w14.drew.heap.size = w14.heap.size := rfl; omega)
        simp only [prA] at AP2
        have HAP2 := Hid.mk AP2
        have HA14 := Hid.mk a14
        have HF714 := Hid.mk F714d
        have HB14 := Hid.mk hb14
        have cl1d := ((HCL1.out.fr (Fr.keep (P := fun _ => False) HK13.out) (fun a => a)).fr f14 (fun e => by have : gC = gT := e; have := HGC.out; omega)).fr (Fr.keep (P := fun _ => False) (Keep.refl w14).drew) (fun a => a)
        have HCL1D := Hid.mk cl1d
        have d11 : w14.cell? ⟨gb, 11, none⟩ = some (.slice na2 nx.length nc2) := (HB7.out.frN F714 HSEP.out).ar.cell 11
        have t0 : w14.cell? ⟨gT, 0, none⟩ = some (.slice ca cels.length cc) := a14.cell 0
        have t1 : w14.cell? ⟨gT, 1, none⟩ = some (.slice sa ss.length sc2) := a14.cell 1
        have t2 : w14.cell? ⟨gT, 2, none⟩ = some (.int .i64 bad.f.k) := a14.cell 2
        have t3 : w14.cell? ⟨gT, 3, none⟩ = some (.int .i64 bad.f.w) := a14.cell 3
        have t4 : w14.cell? ⟨gT, 4, none⟩ = some (.int .i64 bad.f.o) := a14.cell 4
        have t5 : w14.cell? ⟨gT, 5, none⟩ = some (.int .u64 ((bad.f.v : Nat) : Int)) := a14.cell 5
        have t6 : w14.cell? ⟨gT, 6, none⟩ = some (.int .i64 bad.f.c) := a14.cell 6
        have t7 : w14.cell? ⟨gT, 7, none⟩ = some (.int .i64 bad.f.l) := a14.cell 7
        have t8 : w14.cell? ⟨gT, 8, none⟩ = some (.slice ka bad.kr.length kc) := a14.cell 8
        have t9 : w14.cell? ⟨gT, 9, none⟩ = some (.int .i64 0) := a14.cell 9
        have t10 : w14.cell? ⟨gT, 10, none⟩ = some (.slice (some ⟨gC, 0, none⟩) cels.length cels.length) := a14.cell 10
        have t11 : w14.cell? ⟨gT, 11, none⟩ = some (.bool cf) := a14.cell 11
        have t12 : w14.cell? ⟨gT, 12, none⟩ = some (.slice ca2 cels.length cap2) := a14.cell 12
        have t13 : w14.cell? ⟨gT, 13, none⟩ = some (.bool S2.fault) := a14.cell 13
        clear f14 a14 F714 F714d tk14 hb14 hgc2 cl14 AP2 cl1d hw14 z12 z12f z13 z13f
        refine p14_c gT gb _ _ _ _ _ _ _ _ _ _ rfl rfl rfl (HA14.out.drew.cell 0) (HA14.out.drew.cell 1) (HA14.out.drew.cell 2) (HA14.out.drew.cell 3) (HA14.out.drew.cell 4) (HA14.out.drew.cell 5) (HA14.out.drew.cell 6) (HA14.out.drew.cell 7) (HA14.out.drew.cell 8) (HB14.out.ar.cell 11) _ HAP2.out ?_
        rintro vs15 w15 ⟨l2, hl2, so3, cl3, fr15⟩
        simp only [Lmx, p14T, List.filterMap_cons, List.filterMap_nil, ment, Option.map_some, Option.map_none, mval, lay, List.foldl_cons, List.foldl_nil]
        simp only [put_litx, List.set_cons_succ, List.set_cons_zero]
        have hgc2 := HGC2.out
        have hgc := HGC.out
        have a15 : Arr w15 gT 39 [.slice ca cels.length cc, .slice sa ss.length sc2, .int .i64 bad.f.k, .int .i64 bad.f.w, .int .i64 bad.f.o, .int .u64 ((bad.f.v : Nat) : Int), .int .i64 bad.f.c, .int .i64 bad.f.l, .slice ka bad.kr.length kc, .int .i64 0, .slice (some ⟨gC, 0, none⟩) cels.length cels.length, .bool cf, .slice ca2 cels.length cap2, .bool S2.fault] := fr15.arr (fun e => by have : gT = gC2 := e; omega) HA14.out.drew
        have F715 : Fr (fun q => w7.heap.size ≤ q ∨ q = gT) w7 w15 := HF714.out.trans (fr15.mono (fun q _ e => Or.inl (by have : q = gC2 := e; omega)))
        have HF715 := Hid.mk F715
        have HA15 := Hid.mk a15
        have HSO3 := Hid.mk so3
        have HL2 : Hid (l2.length = cels.length) := Hid.mk (by rw [hl2]; exact HLS2.out)
        have HCL3 := Hid.mk cl3
        have HCL1E := Hid.mk (HCL1D.out.fr fr15 (fun e => by have : gC = gC2 := e; omega))
        have aR15 := (((HFR.out.arr (fun e => by have := HRL.out; omega) HAR.out).keep HK7.out))
        have aR15' := F715.arr (fun e => by have h1 := HRL.out; have h2 := HK7.out.size; have h3 := HGT.out; rcases e with e | e <;> omega) aR15
        have HR15 := Hid.mk aR15'
        have hb15 := HB7.out.frN F715 HSEP.out
        have dn : w15.cell? ⟨gb, 13, none⟩ = some (.int .i64 nf) := hb15.ar.cell 13
        clear a15 F715 so3 hl2 cl3 fr15 aR15 aR15' hb15 hgc2 hgc t0 t1 t2 t3 t4 t5 t6 t7 t8 t9 t10 t11 t12 t13 d11
        by_cases hnf : nf = 0
        · subst hnf
          have en : ((0 : Int) != 0) = false := rfl
          have HR17 := HR15
          have HCL1F := HCL1E
          have HCL3F := HCL3
          have a17 := HA15.out
          have t0 : w15.cell? ⟨gT, 0, none⟩ = some (.slice ca cels.length cc) := a17.cell 0
          have t1 : w15.cell? ⟨gT, 1, none⟩ = some (.slice sa ss.length sc2) := a17.cell 1
          have t2 : w15.cell? ⟨gT, 2, none⟩ = some (.int .i64 bad.f.k) := a17.cell 2
          have t3 : w15.cell? ⟨gT, 3, none⟩ = some (.int .i64 bad.f.w) := a17.cell 3
          have t4 : w15.cell? ⟨gT, 4, none⟩ = some (.int .i64 bad.f.o) := a17.cell 4
          have t5 : w15.cell? ⟨gT, 5, none⟩ = some (.int .u64 ((bad.f.v : Nat) : Int)) := a17.cell 5
          have t6 : w15.cell? ⟨gT, 6, none⟩ = some (.int .i64 bad.f.c) := a17.cell 6
          have t7 : w15.cell? ⟨gT, 7, none⟩ = some (.int .i64 bad.f.l) := a17.cell 7
          have t8 : w15.cell? ⟨gT, 8, none⟩ = some (.slice ka bad.kr.length kc) := a17.cell 8
          have t9 : w15.cell? ⟨gT, 9, none⟩ = some (.int .i64 0) := a17.cell 9
          have t10 : w15.cell? ⟨gT, 10, none⟩ = some (.slice (some ⟨gC, 0, none⟩) cels.length cels.length) := a17.cell 10
          have t11 : w15.cell? ⟨gT, 11, none⟩ = some (.bool cf) := a17.cell 11
          have t12 : w15.cell? ⟨gT, 12, none⟩ = some (.slice ca2 cels.length cap2) := a17.cell 12
          have t13 : w15.cell? ⟨gT, 13, none⟩ = some (.bool S2.fault) := a17.cell 13
          have aR17 := HR17.out
          have r0 : w15.cell? ⟨gR, 0, none⟩ = some (.slice none 0 0) := aR17.cell 0
          have f0 := aR17.frozen 0
          have r1 : w15.cell? ⟨gR, 1, none⟩ = some (.slice none 0 0) := aR17.cell 1
          have f1 := aR17.frozen 1
          have r2 : w15.cell? ⟨gR, 2, none⟩ = some (.int .i64 0) := aR17.cell 2
          have f2 := aR17.frozen 2
          have r3 : w15.cell? ⟨gR, 3, none⟩ = some (.int .i64 0) := aR17.cell 3
          have f3 := aR17.frozen 3
          have r4 : w15.cell? ⟨gR, 4, none⟩ = some (.int .i64 0) := aR17.cell 4
          have f4 := aR17.frozen 4
          have r5 : w15.cell? ⟨gR, 5, none⟩ = some (.int .u64 0) := aR17.cell 5
          have f5 := aR17.frozen 5
          have r6 : w15.cell? ⟨gR, 6, none⟩ = some (.int .i64 0) := aR17.cell 6
          have f6 := aR17.frozen 6
          have r7 : w15.cell? ⟨gR, 7, none⟩ = some (.int .i64 0) := aR17.cell 7
          have f7 := aR17.frozen 7
          have r8 : w15.cell? ⟨gR, 8, none⟩ = some (.slice none 0 0) := aR17.cell 8
          have f8 := aR17.frozen 8
          have r9 : w15.cell? ⟨gR, 9, none⟩ = some (.int .i64 0) := aR17.cell 9
          have f9 := aR17.frozen 9
          have r10 : w15.cell? ⟨gR, 10, none⟩ = some (.slice none 0 0) := aR17.cell 10
          have f10 := aR17.frozen 10
          have r11 : w15.cell? ⟨gR, 11, none⟩ = some (.bool false) := aR17.cell 11
          have f11 := aR17.frozen 11
          have r12 : w15.cell? ⟨gR, 12, none⟩ = some (.slice none 0 0) := aR17.cell 12
          have f12 := aR17.frozen 12
          have r13 : w15.cell? ⟨gR, 13, none⟩ = some (.bool false) := aR17.cell 13
          have f13 := aR17.frozen 13
          clear a17 aR17
          go_wp2_with fail
          have A9 := ((((((((((((((HR17.out.set 0 (.slice ca cels.length cc)).set 1 (.slice sa ss.length sc2)).set 2 (.int .i64 bad.f.k)).set 3 (.int .i64 bad.f.w)).set 4 (.int .i64 bad.f.o)).set 5 (.int .u64 ((bad.f.v : Nat) : Int))).set 6 (.int .i64 bad.f.c)).set 7 (.int .i64 bad.f.l)).set 8 (.slice ka bad.kr.length kc)).set 9 (.int .i64 0)).set 10 (.slice (some ⟨gC, 0, none⟩) cels.length cels.length)).set 11 (.bool cf)).set 12 (.slice ca2 cels.length cap2)).set 13 (.bool S2.fault))
          have F9 : Fr (fun q => q = gR) w15 _ := (Fr.setCell (P := fun q => q = gR) (p := ⟨gR, 13, none⟩) (Fr.setCell (P := fun q => q = gR) (p := ⟨gR, 12, none⟩) (Fr.setCell (P := fun q => q = gR) (p := ⟨gR, 11, none⟩) (Fr.setCell (P := fun q => q = gR) (p := ⟨gR, 10, none⟩) (Fr.setCell (P := fun q => q = gR) (p := ⟨gR, 9, none⟩) (Fr.setCell (P := fun q => q = gR) (p := ⟨gR, 8, none⟩) (Fr.setCell (P := fun q => q = gR) (p := ⟨gR, 7, none⟩) (Fr.setCell (P := fun q => q = gR) (p := ⟨gR, 6, none⟩) (Fr.setCell (P := fun q => q = gR) (p := ⟨gR, 5, none⟩) (Fr.setCell (P := fun q => q = gR) (p := ⟨gR, 4, none⟩) (Fr.setCell (P := fun q => q = gR) (p := ⟨gR, 3, none⟩) (Fr.setCell (P := fun q => q = gR) (p := ⟨gR, 2, none⟩) (Fr.setCell (P := fun q => q = gR) (p := ⟨gR, 1, none⟩) (Fr.setCell (P := fun q => q = gR) (p := ⟨gR, 0, none⟩) (Fr.refl (fun q => q = gR) w15) (Or.inl rfl) (.slice ca cels.length cc)) (Or.inl rfl) (.slice sa ss.length sc2)) (Or.inl rfl) (.int .i64 bad.f.k)) (Or.inl rfl) (.int .i64 bad.f.w)) (Or.inl rfl) (.int .i64 bad.f.o)) (Or.inl rfl) (.int .u64 ((bad.f.v : Nat) : Int))) (Or.inl rfl) (.int .i64 bad.f.c)) (Or.inl rfl) (.int .i64 bad.f.l)) (Or.inl rfl) (.slice ka bad.kr.length kc)) (Or.inl rfl) (.int .i64 0)) (Or.inl rfl) (.slice (some ⟨gC, 0, none⟩) cels.length cels.length)) (Or.inl rfl) (.bool cf)) (Or.inl rfl) (.slice ca2 cels.length cap2)) (Or.inl rfl) (.bool S2.fault))
          have y0 := A9.cell 0
          have y1 := A9.cell 1
          have y2 := A9.cell 2
          have y3 := A9.cell 3
          have y4 := A9.cell 4
          have y5 := A9.cell 5
          have y6 := A9.cell 6
          have y7 := A9.cell 7
          have y8 := A9.cell 8
          have y9 := A9.cell 9
          have y10 := A9.cell 10
          have y11 := A9.cell 11
          have y12 := A9.cell 12
          have y13 := A9.cell 13
          simp only [List.set_cons_zero, List.set_cons_succ, List.getElem?_cons_zero, List.getElem?_cons_succ] at y0 y1 y2 y3 y4 y5 y6 y7 y8 y9 y10 y11 y12 y13
          refine bodyPost_ret (v := .agg #[.slice ca cels.length cc, .slice sa ss.length sc2, .int .i64 bad.f.k, .int .i64 bad.f.w, .int .i64 bad.f.o, .int .u64 ((bad.f.v : Nat) : Int), .int .i64 bad.f.c, .int .i64 bad.f.l, .slice ka bad.kr.length kc, .int .i64 0, .slice (some ⟨gC, 0, none⟩) cels.length cels.length, .bool cf, .slice ca2 cels.length cap2, .bool S2.fault]) (by simp [results, Try.results7, go_sem, y0, y1, y2, y3, y4, y5, y6, y7, y8, y9, y10, y11, y12, y13]) rfl ?_
          have FZ : Fr (fun q => q = gR ∨ w7.heap.size ≤ q ∨ q = gT) w7 _ := (HF715.out.mono (fun q _ e => Or.inr e)).trans (F9.mono (fun q _ e => Or.inl e))
          have hgc2 := HGC2.out
          have hgc := HGC.out
          have hg := HG.out
          have hgt := HGT.out
          have hrl := HRL.out
          refine ⟨Fr.keep' ((Fr.keep (HKR.out.trans HK7.out)).trans (FZ.mono (fun q _ e => by have := HKR.out.size; have := HK7.out.size; rcases e with e | e | e <;> omega))), (fun q => P q ∨ (Value.slice ca cels.length cc).ownBlock = some q ∨ (Value.slice sa ss.length sc2).ownBlock = some q), cels, mkS ss, bad.f, bad.t, _, _, _, _, _, _, _, by rw [HER.out]; rfl, HTK.out.fr FZ (fun q a e => by have h1 := HLOW.out q a; have h2 := HTK.out.pl q a; rcases e with e | e | e <;> omega), ⟨⟨_, _, _, rfl⟩, ⟨_, _, _, rfl⟩⟩, fun _ => ⟨⟨l1, cf⟩, ⟨l2, S2.fault⟩, ⟨some ⟨gC, 0, none⟩, cels.length, by rw [HL1.out], ?_, rfl, HSO1.out⟩, ⟨ca2, cap2, by rw [HL2.out], ?_, rfl, ⟨HSO3.out.1, HSO3.out.2⟩⟩⟩⟩
          · have h9 := ((HCL1F.out).fr F9 (fun e => by have : gC = gR := e; omega)).vs
            rw [HL1.out] at h9
            exact h9
          · have h9 := ((HCL3F.out).fr F9 (fun e => by have : gC2 = gR := e; omega)).vs
            rw [HL2.out] at h9
            exact h9
        · have en : (nf != 0) = true := by simpa using hnf
          have z13 : w15.cell? ⟨gT, 13, none⟩ = some (.bool S2.fault) := HA15.out.cell 13
          have z13f := HA15.out.frozen 13
          go_upto_region 17 with fail
          obtain ⟨w16, hw16⟩ : ∃ w16, w16 = w15.setCell ⟨gT, 13, none⟩ (.bool (nf == 2)) := ⟨_, rfl⟩
          rw [← hw16]
          have f16 : Fr (fun q => q = gT) w15 w16 := by rw [hw16]; (repeat (first | apply Fr.drewq | apply Fr.setq | apply Fr.alloc)); exact Fr.refl _ _
          have a16 : Arr w16 gT 39 [.slice ca cels.length cc, .slice sa ss.length sc2, .int .i64 bad.f.k, .int .i64 bad.f.w, .int .i64 bad.f.o, .int .u64 ((bad.f.v : Nat) : Int), .int .i64 bad.f.c, .int .i64 bad.f.l, .slice ka bad.kr.length kc, .int .i64 0, .slice (some ⟨gC, 0, none⟩) cels.length cels.length, .bool cf, .slice ca2 cels.length cap2, .bool (nf == 2)] := by rw [hw16]; exact HA15.out.set 13 _
          have HA16 := Hid.mk a16
          have HF716 := Hid.mk (HF715.out.trans (f16.mono (fun q _ e => Or.inr e)))
          have HR17 := Hid.mk (f16.arr (fun e => by have h1 := HRL.out; have h3 := HGT.out; have : gR = gT := e; omega) HR15.out)
          have HCL1F := Hid.mk (HCL1E.out.fr f16 (fun e => by have : gC = gT := e; have := HGC.out; omega))
          have HCL3F := Hid.mk (HCL3.out.fr f16 (fun e => by have : gC2 = gT := e; have := HGC2.out; omega))
          clear a16 f16 hw16 z13 z13f dn
          have a17 := HA16.out
          have t0 : w16.cell? ⟨gT, 0, none⟩ = some (.slice ca cels.length cc) := a17.cell 0
          have t1 : w16.cell? ⟨gT, 1, none⟩ = some (.slice sa ss.length sc2) := a17.cell 1
          have t2 : w16.cell? ⟨gT, 2, none⟩ = some (.int .i64 bad.f.k) := a17.cell 2
          have t3 : w16.cell? ⟨gT, 3, none⟩ = some (.int .i64 bad.f.w) := a17.cell 3
          have t4 : w16.cell? ⟨gT, 4, none⟩ = some (.int .i64 bad.f.o) := a17.cell 4
          have t5 : w16.cell? ⟨gT, 5, none⟩ = some (.int .u64 ((bad.f.v : Nat) : Int)) := a17.cell 5
          have t6 : w16.cell? ⟨gT, 6, none⟩ = some (.int .i64 bad.f.c) := a17.cell 6
          have t7 : w16.cell? ⟨gT, 7, none⟩ = some (.int .i64 bad.f.l) := a17.cell 7
          have t8 : w16.cell? ⟨gT, 8, none⟩ = some (.slice ka bad.kr.length kc) := a17.cell 8
          have t9 : w16.cell? ⟨gT, 9, none⟩ = some (.int .i64 0) := a17.cell 9
          have t10 : w16.cell? ⟨gT, 10, none⟩ = some (.slice (some ⟨gC, 0, none⟩) cels.length cels.length) := a17.cell 10
          have t11 : w16.cell? ⟨gT, 11, none⟩ = some (.bool cf) := a17.cell 11
          have t12 : w16.cell? ⟨gT, 12, none⟩ = some (.slice ca2 cels.length cap2) := a17.cell 12
          have t13 : w16.cell? ⟨gT, 13, none⟩ = some (.bool (nf == 2)) := a17.cell 13
          have aR17 := HR17.out
          have r0 : w16.cell? ⟨gR, 0, none⟩ = some (.slice none 0 0) := aR17.cell 0
          have f0 := aR17.frozen 0
          have r1 : w16.cell? ⟨gR, 1, none⟩ = some (.slice none 0 0) := aR17.cell 1
          have f1 := aR17.frozen 1
          have r2 : w16.cell? ⟨gR, 2, none⟩ = some (.int .i64 0) := aR17.cell 2
          have f2 := aR17.frozen 2
          have r3 : w16.cell? ⟨gR, 3, none⟩ = some (.int .i64 0) := aR17.cell 3
          have f3 := aR17.frozen 3
          have r4 : w16.cell? ⟨gR, 4, none⟩ = some (.int .i64 0) := aR17.cell 4
          have f4 := aR17.frozen 4
          have r5 : w16.cell? ⟨gR, 5, none⟩ = some (.int .u64 0) := aR17.cell 5
          have f5 := aR17.frozen 5
          have r6 : w16.cell? ⟨gR, 6, none⟩ = some (.int .i64 0) := aR17.cell 6
          have f6 := aR17.frozen 6
          have r7 : w16.cell? ⟨gR, 7, none⟩ = some (.int .i64 0) := aR17.cell 7
          have f7 := aR17.frozen 7
          have r8 : w16.cell? ⟨gR, 8, none⟩ = some (.slice none 0 0) := aR17.cell 8
          have f8 := aR17.frozen 8
          have r9 : w16.cell? ⟨gR, 9, none⟩ = some (.int .i64 0) := aR17.cell 9
          have f9 := aR17.frozen 9
          have r10 : w16.cell? ⟨gR, 10, none⟩ = some (.slice none 0 0) := aR17.cell 10
          have f10 := aR17.frozen 10
          have r11 : w16.cell? ⟨gR, 11, none⟩ = some (.bool false) := aR17.cell 11
          have f11 := aR17.frozen 11
          have r12 : w16.cell? ⟨gR, 12, none⟩ = some (.slice none 0 0) := aR17.cell 12
          have f12 := aR17.frozen 12
          have r13 : w16.cell? ⟨gR, 13, none⟩ = some (.bool false) := aR17.cell 13
          have f13 := aR17.frozen 13
          clear a17 aR17
          go_wp2_with fail
          have A9 := ((((((((((((((HR17.out.set 0 (.slice ca cels.length cc)).set 1 (.slice sa ss.length sc2)).set 2 (.int .i64 bad.f.k)).set 3 (.int .i64 bad.f.w)).set 4 (.int .i64 bad.f.o)).set 5 (.int .u64 ((bad.f.v : Nat) : Int))).set 6 (.int .i64 bad.f.c)).set 7 (.int .i64 bad.f.l)).set 8 (.slice ka bad.kr.length kc)).set 9 (.int .i64 0)).set 10 (.slice (some ⟨gC, 0, none⟩) cels.length cels.length)).set 11 (.bool cf)).set 12 (.slice ca2 cels.length cap2)).set 13 (.bool (nf == 2)))
          have F9 : Fr (fun q => q = gR) w16 _ := (Fr.setCell (P := fun q => q = gR) (p := ⟨gR, 13, none⟩) (Fr.setCell (P := fun q => q = gR) (p := ⟨gR, 12, none⟩) (Fr.setCell (P := fun q => q = gR) (p := ⟨gR, 11, none⟩) (Fr.setCell (P := fun q => q = gR) (p := ⟨gR, 10, none⟩) (Fr.setCell (P := fun q => q = gR) (p := ⟨gR, 9, none⟩) (Fr.setCell (P := fun q => q = gR) (p := ⟨gR, 8, none⟩) (Fr.setCell (P := fun q => q = gR) (p := ⟨gR, 7, none⟩) (Fr.setCell (P := fun q => q = gR) (p := ⟨gR, 6, none⟩) (Fr.setCell (P := fun q => q = gR) (p := ⟨gR, 5, none⟩) (Fr.setCell (P := fun q => q = gR) (p := ⟨gR, 4, none⟩) (Fr.setCell (P := fun q => q = gR) (p := ⟨gR, 3, none⟩) (Fr.setCell (P := fun q => q = gR) (p := ⟨gR, 2, none⟩) (Fr.setCell (P := fun q => q = gR) (p := ⟨gR, 1, none⟩) (Fr.setCell (P := fun q => q = gR) (p := ⟨gR, 0, none⟩) (Fr.refl (fun q => q = gR) w16) (Or.inl rfl) (.slice ca cels.length cc)) (Or.inl rfl) (.slice sa ss.length sc2)) (Or.inl rfl) (.int .i64 bad.f.k)) (Or.inl rfl) (.int .i64 bad.f.w)) (Or.inl rfl) (.int .i64 bad.f.o)) (Or.inl rfl) (.int .u64 ((bad.f.v : Nat) : Int))) (Or.inl rfl) (.int .i64 bad.f.c)) (Or.inl rfl) (.int .i64 bad.f.l)) (Or.inl rfl) (.slice ka bad.kr.length kc)) (Or.inl rfl) (.int .i64 0)) (Or.inl rfl) (.slice (some ⟨gC, 0, none⟩) cels.length cels.length)) (Or.inl rfl) (.bool cf)) (Or.inl rfl) (.slice ca2 cels.length cap2)) (Or.inl rfl) (.bool (nf == 2)))
          have y0 := A9.cell 0
          have y1 := A9.cell 1
          have y2 := A9.cell 2
          have y3 := A9.cell 3
          have y4 := A9.cell 4
          have y5 := A9.cell 5
          have y6 := A9.cell 6
          have y7 := A9.cell 7
          have y8 := A9.cell 8
          have y9 := A9.cell 9
          have y10 := A9.cell 10
          have y11 := A9.cell 11
          have y12 := A9.cell 12
          have y13 := A9.cell 13
          simp only [List.set_cons_zero, List.set_cons_succ, List.getElem?_cons_zero, List.getElem?_cons_succ] at y0 y1 y2 y3 y4 y5 y6 y7 y8 y9 y10 y11 y12 y13
          refine bodyPost_ret (v := .agg #[.slice ca cels.length cc, .slice sa ss.length sc2, .int .i64 bad.f.k, .int .i64 bad.f.w, .int .i64 bad.f.o, .int .u64 ((bad.f.v : Nat) : Int), .int .i64 bad.f.c, .int .i64 bad.f.l, .slice ka bad.kr.length kc, .int .i64 0, .slice (some ⟨gC, 0, none⟩) cels.length cels.length, .bool cf, .slice ca2 cels.length cap2, .bool (nf == 2)]) (by simp [results, Try.results7, go_sem, y0, y1, y2, y3, y4, y5, y6, y7, y8, y9, y10, y11, y12, y13]) rfl ?_
          have FZ : Fr (fun q => q = gR ∨ w7.heap.size ≤ q ∨ q = gT) w7 _ := (HF716.out.mono (fun q _ e => Or.inr e)).trans (F9.mono (fun q _ e => Or.inl e))
          have hgc2 := HGC2.out
          have hgc := HGC.out
          have hg := HG.out
          have hgt := HGT.out
          have hrl := HRL.out
          refine ⟨Fr.keep' ((Fr.keep (HKR.out.trans HK7.out)).trans (FZ.mono (fun q _ e => by have := HKR.out.size; have := HK7.out.size; rcases e with e | e | e <;> omega))), (fun q => P q ∨ (Value.slice ca cels.length cc).ownBlock = some q ∨ (Value.slice sa ss.length sc2).ownBlock = some q), cels, mkS ss, bad.f, bad.t, _, _, _, _, _, _, _, by rw [HER.out]; rfl, HTK.out.fr FZ (fun q a e => by have h1 := HLOW.out q a; have h2 := HTK.out.pl q a; rcases e with e | e | e <;> omega), ⟨⟨_, _, _, rfl⟩, ⟨_, _, _, rfl⟩⟩, fun _ => ⟨⟨l1, cf⟩, ⟨l2, nf == 2⟩, ⟨some ⟨gC, 0, none⟩, cels.length, by rw [HL1.out], ?_, rfl, HSO1.out⟩, ⟨ca2, cap2, by rw [HL2.out], ?_, rfl, ⟨HSO3.out.1, HSO3.out.2⟩⟩⟩⟩
          · have h9 := ((HCL1F.out).fr F9 (fun e => by have : gC = gR := e; omega)).vs
            rw [HL1.out] at h9
            exact h9
          · have h9 := ((HCL3F.out).fr F9 (fun e => by have : gC2 = gR := e; omega)).vs
            rw [HL2.out] at h9
            exact h9
      · have e1 : (((er : Nat) : Int) != 0) = true := by simp; omega
        have a9 := HA9.out
        have aR9 := HR9.out
        have t0 : w9.cell? ⟨gT, 0, none⟩ = some (.slice ca cels.length cc) := a9.cell 0
        have t1 : w9.cell? ⟨gT, 1, none⟩ = some (.slice sa ss.length sc2) := a9.cell 1
        have t2 : w9.cell? ⟨gT, 2, none⟩ = some (.int .i64 bad.f.k) := a9.cell 2
        have t3 : w9.cell? ⟨gT, 3, none⟩ = some (.int .i64 bad.f.w) := a9.cell 3
        have t4 : w9.cell? ⟨gT, 4, none⟩ = some (.int .i64 bad.f.o) := a9.cell 4
        have t5 : w9.cell? ⟨gT, 5, none⟩ = some (.int .u64 ((bad.f.v : Nat) : Int)) := a9.cell 5
        have t6 : w9.cell? ⟨gT, 6, none⟩ = some (.int .i64 bad.f.c) := a9.cell 6
        have t7 : w9.cell? ⟨gT, 7, none⟩ = some (.int .i64 bad.f.l) := a9.cell 7
        have t8 : w9.cell? ⟨gT, 8, none⟩ = some (.slice ka bad.kr.length kc) := a9.cell 8
        have t9 : w9.cell? ⟨gT, 9, none⟩ = some (.int .i64 ((er : Nat) : Int)) := a9.cell 9
        have t10 : w9.cell? ⟨gT, 10, none⟩ = some (.slice none 0 0) := a9.cell 10
        have t11 : w9.cell? ⟨gT, 11, none⟩ = some (.bool false) := a9.cell 11
        have t12 : w9.cell? ⟨gT, 12, none⟩ = some (.slice none 0 0) := a9.cell 12
        have t13 : w9.cell? ⟨gT, 13, none⟩ = some (.bool false) := a9.cell 13
        have r0 : w9.cell? ⟨gR, 0, none⟩ = some (.slice none 0 0) := aR9.cell 0
        have f0 := aR9.frozen 0
        have r1 : w9.cell? ⟨gR, 1, none⟩ = some (.slice none 0 0) := aR9.cell 1
        have f1 := aR9.frozen 1
        have r2 : w9.cell? ⟨gR, 2, none⟩ = some (.int .i64 0) := aR9.cell 2
        have f2 := aR9.frozen 2
        have r3 : w9.cell? ⟨gR, 3, none⟩ = some (.int .i64 0) := aR9.cell 3
        have f3 := aR9.frozen 3
        have r4 : w9.cell? ⟨gR, 4, none⟩ = some (.int .i64 0) := aR9.cell 4
        have f4 := aR9.frozen 4
        have r5 : w9.cell? ⟨gR, 5, none⟩ = some (.int .u64 0) := aR9.cell 5
        have f5 := aR9.frozen 5
        have r6 : w9.cell? ⟨gR, 6, none⟩ = some (.int .i64 0) := aR9.cell 6
        have f6 := aR9.frozen 6
        have r7 : w9.cell? ⟨gR, 7, none⟩ = some (.int .i64 0) := aR9.cell 7
        have f7 := aR9.frozen 7
        have r8 : w9.cell? ⟨gR, 8, none⟩ = some (.slice none 0 0) := aR9.cell 8
        have f8 := aR9.frozen 8
        have r9 : w9.cell? ⟨gR, 9, none⟩ = some (.int .i64 0) := aR9.cell 9
        have f9 := aR9.frozen 9
        have r10 : w9.cell? ⟨gR, 10, none⟩ = some (.slice none 0 0) := aR9.cell 10
        have f10 := aR9.frozen 10
        have r11 : w9.cell? ⟨gR, 11, none⟩ = some (.bool false) := aR9.cell 11
        have f11 := aR9.frozen 11
        have r12 : w9.cell? ⟨gR, 12, none⟩ = some (.slice none 0 0) := aR9.cell 12
        have f12 := aR9.frozen 12
        have r13 : w9.cell? ⟨gR, 13, none⟩ = some (.bool false) := aR9.cell 13
        have f13 := aR9.frozen 13
        clear a9 aR9
        go_wp2_with fail
        have A9 := ((((((((((((((HR9.out.set 0 (.slice ca cels.length cc)).set 1 (.slice sa ss.length sc2)).set 2 (.int .i64 bad.f.k)).set 3 (.int .i64 bad.f.w)).set 4 (.int .i64 bad.f.o)).set 5 (.int .u64 ((bad.f.v : Nat) : Int))).set 6 (.int .i64 bad.f.c)).set 7 (.int .i64 bad.f.l)).set 8 (.slice ka bad.kr.length kc)).set 9 (.int .i64 ((er : Nat) : Int))).set 10 (.slice none 0 0)).set 11 (.bool false)).set 12 (.slice none 0 0)).set 13 (.bool false))
        have F9 : Fr (fun q => q = gR) w9 _ := (Fr.setCell (P := fun q => q = gR) (p := ⟨gR, 13, none⟩) (Fr.setCell (P := fun q => q = gR) (p := ⟨gR, 12, none⟩) (Fr.setCell (P := fun q => q = gR) (p := ⟨gR, 11, none⟩) (Fr.setCell (P := fun q => q = gR) (p := ⟨gR, 10, none⟩) (Fr.setCell (P := fun q => q = gR) (p := ⟨gR, 9, none⟩) (Fr.setCell (P := fun q => q = gR) (p := ⟨gR, 8, none⟩) (Fr.setCell (P := fun q => q = gR) (p := ⟨gR, 7, none⟩) (Fr.setCell (P := fun q => q = gR) (p := ⟨gR, 6, none⟩) (Fr.setCell (P := fun q => q = gR) (p := ⟨gR, 5, none⟩) (Fr.setCell (P := fun q => q = gR) (p := ⟨gR, 4, none⟩) (Fr.setCell (P := fun q => q = gR) (p := ⟨gR, 3, none⟩) (Fr.setCell (P := fun q => q = gR) (p := ⟨gR, 2, none⟩) (Fr.setCell (P := fun q => q = gR) (p := ⟨gR, 1, none⟩) (Fr.setCell (P := fun q => q = gR) (p := ⟨gR, 0, none⟩) (Fr.refl (fun q => q = gR) w9) (Or.inl rfl) (.slice ca cels.length cc)) (Or.inl rfl) (.slice sa ss.length sc2)) (Or.inl rfl) (.int .i64 bad.f.k)) (Or.inl rfl) (.int .i64 bad.f.w)) (Or.inl rfl) (.int .i64 bad.f.o)) (Or.inl rfl) (.int .u64 ((bad.f.v : Nat) : Int))) (Or.inl rfl) (.int .i64 bad.f.c)) (Or.inl rfl) (.int .i64 bad.f.l)) (Or.inl rfl) (.slice ka bad.kr.length kc)) (Or.inl rfl) (.int .i64 ((er : Nat) : Int))) (Or.inl rfl) (.slice none 0 0)) (Or.inl rfl) (.bool false)) (Or.inl rfl) (.slice none 0 0)) (Or.inl rfl) (.bool false))
        have y0 := A9.cell 0
        have y1 := A9.cell 1
        have y2 := A9.cell 2
        have y3 := A9.cell 3
        have y4 := A9.cell 4
        have y5 := A9.cell 5
        have y6 := A9.cell 6
        have y7 := A9.cell 7
        have y8 := A9.cell 8
        have y9 := A9.cell 9
        have y10 := A9.cell 10
        have y11 := A9.cell 11
        have y12 := A9.cell 12
        have y13 := A9.cell 13
        simp only [List.set_cons_zero, List.set_cons_succ, List.getElem?_cons_zero, List.getElem?_cons_succ] at y0 y1 y2 y3 y4 y5 y6 y7 y8 y9 y10 y11 y12 y13
        refine bodyPost_ret (v := .agg #[.slice ca cels.length cc, .slice sa ss.length sc2, .int .i64 bad.f.k, .int .i64 bad.f.w, .int .i64 bad.f.o, .int .u64 ((bad.f.v : Nat) : Int), .int .i64 bad.f.c, .int .i64 bad.f.l, .slice ka bad.kr.length kc, .int .i64 ((er : Nat) : Int), .slice none 0 0, .bool false, .slice none 0 0, .bool false]) (by simp [results, Try.results7, go_sem, y0, y1, y2, y3, y4, y5, y6, y7, y8, y9, y10, y11, y12, y13]) rfl ?_
        have hg := HG.out
        have hgt := HGT.out
        have hrl := HRL.out
        have FZ : Fr (fun q => q = gR ∨ q = gT) w7 _ := (HF79.out.mono (fun q _ e => Or.inr e)).trans (F9.mono (fun q _ e => Or.inl e))
        refine ⟨Fr.keep' ((Fr.keep (HKR.out.trans HK7.out)).trans (FZ.mono (fun q _ e => by have := HKR.out.size; rcases e with e | e <;> omega))), (fun q => P q ∨ (Value.slice ca cels.length cc).ownBlock = some q ∨ (Value.slice sa ss.length sc2).ownBlock = some q), cels, mkS ss, bad.f, bad.t, _, _, _, _, _, _, _, by rw [HER.out]; rfl, HTK.out.fr FZ (fun q a e => by have := HLOW.out q a; rcases e with e | e <;> omega), ⟨⟨_, _, _, rfl⟩, ⟨_, _, _, rfl⟩⟩, fun h0 => by rw [HER.out] at h0; exact absurd h0 he⟩
end Go.Proofs.Qxb6500772a
