/- token.writeUnsealed. -/
import Derived.Test.Qxb6500771aGreatId
import Derived.Test.Qxb6500771aGreatHc
namespace Go.Proofs.Qxb6500771aGreat
open Go.RowKit Go.Qm
set_option linter.unusedVariables false
set_option linter.unusedSimpArgs false
attribute [local go_sem ↓] Go.wp_at_zero Go.wp_at_succ
theorem wpList_appE {P : Program} {ops : Array Oper} {rest : List Oper} {o : Oper} {a : Act} {Q : Exit → Act → World → Prop} {w : World} (hgd : o.guard = none) (s x : Operand) (t : TypeId)
    (ho : o.op = .call { callee := .builtin .append, args := #[s, x], argTypes := #[t, t] }) {v xv v' : Value} {w' : World} (hs : a.eval s = v) (hx : a.eval x = xv)
    (hr : (Builtin.append_ #[t, t] o.type #[v, xv]).run P w = .ok v' w') (h : wpList P ops Q rest (a.put o.dst v') w') : wpList P ops Q (o :: rest) a w := by
  refine wpList_plain hgd fun _ hK => ?_
  unfold Oper.wp execOp
  simp only [ho, resolve, invoke, builtin, Sem.run_bind, Sem.run_pure, Result.andThen_ok, List.map_toArray, List.map_cons, List.map_nil, hs, hx, hr]
  exact hK _ _ h
/-- A plan, a key and what is to be sent, each in a box of its own. -/
structure Bx3 (w : World) (g : Nat) (pl ky sd : List Value) : Prop where
  a : Arr w g 87 pl
  b : Arr w (g + 1) 43 ky
  c : Arr w (g + 1 + 1) 46 sd
theorem Bx3.keep {w w' : World} {g : Nat} {pl ky sd : List Value} (h : Bx3 w g pl ky sd) (k : Keep w w') : Bx3 w' g pl ky sd := ⟨h.a.keep k, h.b.keep k, h.c.keep k⟩
theorem Bx3.new (w : World) (pl ky sd : List Value) : Bx3 (((w.alloc (.cells pl.toArray 87)).alloc (.cells ky.toArray 43)).alloc (.cells sd.toArray 46)) w.heap.size pl ky sd :=
  ⟨((Arr.new w 87 pl).keep ((Keep.refl _).alloc _)).keep ((Keep.refl _).alloc _), (new2 w _ 43 ky).keep ((Keep.refl _).alloc _), new3 w _ _ 46 sd⟩
theorem grown_two {a b c : World} {g k : Nat} (h : a.grownBy b (some g)) (h2 : b.grownBy c (some k)) (hk : a.heap.size ≤ k) : a.grownBy c (some g) :=
  ⟨h2.os.trans h.os, h2.tape.trans h.tape, h2.output.trans h.output, Nat.le_trans h.size h2.size, fun q hq hne => by
    rw [h2.block q (Nat.lt_of_lt_of_le hq h.size) (by simp; omega), h.block q hq hne]⟩
set_option maxRecDepth 4000 in
set_option maxHeartbeats 4000000 in
theorem writeUnsealed_c {e : Int} (hS : srv e) (g N c n tot : Nat) (m msg key : List UInt8) (post : List Value) (ka : Option Addr) (kn kc : Nat) (us f sq ec rrc : Nat) (ac : Option Addr) (nc cc gp : Nat) (ma : Option Addr) (mc : Nat) (w : World)
    (hN : N = m.length) (hn : N = 16 + (n + cl e)) (hnb : n ≤ 1048576) (hnc : N ≤ c) (hcm : c ≤ maxLen) (hg : Win w g 5 [] m post)
    (hk : Bs w (.slice ka kn kc) key) (hkl : key.length = kl e) (hus : us < 4294967296) (hf : f < 256) (hsq : sq < 2 ^ 64) (hrrc : rrc < 65536)
    (hp : w.cell? ⟨gp, 0, none⟩ = some (.slice ma n mc)) (hm : Bs w (.slice ma n mc) msg) (hml : msg.length = n) (hcl0 : 0 < cl e) :
    Calls Tryz.prog 60 #[.slice (some ⟨g, 0, none⟩) N c, .agg #[.int .i64 (kl e), .int .i64 16, .int .i64 (cl e), .bool false, .int .i64 n, .int .i64 tot], .agg #[.int .i32 e, .slice ka kn kc], .agg #[.int .u32 us, .int .u8 f, .int .u64 sq, .int .u16 ec, .int .u16 rrc, .slice ac nc cc], .slice (some ⟨gp, 0, none⟩) 1 1] w fun x w' =>
      x = .returned (.tuple #[]) ∧ Win w' g 5 [] (enc 1284 f (cl e) rrc sq ++ rtr (msg ++ mcF e (drvF e key us 153) (msg ++ enc 1284 f 0 0 sq)) (rrc % (n + cl e))) post ∧ w.grownBy w' (some g) := by
  obtain ⟨W, hW⟩ : ∃ W, W = ((w.alloc (.cells #[.int .i64 (kl e), .int .i64 16, .int .i64 (cl e), .bool false, .int .i64 n, .int .i64 tot] 87)).alloc (.cells #[.int .i32 e, .slice ka kn kc] 43)).alloc (.cells #[.int .u32 us, .int .u8 f, .int .u64 sq, .int .u16 ec, .int .u16 rrc, .slice ac nc cc] 46) := ⟨_, rfl⟩
  have kW : Keep w W := by rw [hW]; exact (((Keep.refl w).alloc _).alloc _).alloc _
  have B0 : Bx3 W w.heap.size [.int .i64 (kl e), .int .i64 16, .int .i64 (cl e), .bool false, .int .i64 n, .int .i64 tot] [.int .i32 e, .slice ka kn kc] [.int .u32 us, .int .u8 f, .int .u64 sq, .int .u16 ec, .int .u16 rrc, .slice ac nc cc] := by rw [hW]; exact Bx3.new _ _ _ _
  obtain ⟨g6, hg6⟩ : ∃ g6, g6 = w.heap.size := ⟨_, rfl⟩
  rw [← hg6] at B0
  have hgW := hg.lt
  have kW0 := kW.size
  have HCL := cl_le e
  have a0 : W.cell? ⟨g6, 2, none⟩ = some (.int .i64 (cl e)) := B0.a.cell 2
  have a1 : W.cell? ⟨g6, 4, none⟩ = some (.int .i64 n) := B0.a.cell 4
  have b0 : W.cell? ⟨g6 + 1, 0, none⟩ = some (.int .i32 e) := B0.b.cell 0
  have b1 : W.cell? ⟨g6 + 1, 1, none⟩ = some (.slice ka kn kc) := B0.b.cell 1
  have c0 : W.cell? ⟨g6 + 1 + 1, 0, none⟩ = some (.int .u32 us) := B0.c.cell 0
  have c1 : W.cell? ⟨g6 + 1 + 1, 1, none⟩ = some (.int .u8 f) := B0.c.cell 1
  have c2 : W.cell? ⟨g6 + 1 + 1, 2, none⟩ = some (.int .u64 sq) := B0.c.cell 2
  have c4 : W.cell? ⟨g6 + 1 + 1, 4, none⟩ = some (.int .u16 rrc) := B0.c.cell 4
  have HALL : Hid (∀ Z, Keep W Z → Z.cell? ⟨g6, 2, none⟩ = some (.int .i64 (cl e)) ∧ Z.cell? ⟨g6, 4, none⟩ = some (.int .i64 n) ∧ Z.cell? ⟨g6 + 1, 0, none⟩ = some (.int .i32 e) ∧ Z.cell? ⟨g6 + 1, 1, none⟩ = some (.slice ka kn kc) ∧ Z.cell? ⟨g6 + 1 + 1, 0, none⟩ = some (.int .u32 us) ∧ Z.cell? ⟨g6 + 1 + 1, 4, none⟩ = some (.int .u16 rrc)) :=
    Hid.mk (fun Z kz => ⟨kz.cell a0, kz.cell a1, kz.cell b0, kz.cell b1, kz.cell c0, kz.cell c4⟩)
  have x1 : IntKind.i64.wrap ((n : Int) + 16) = ((n + 16 : Nat) : Int) := by rw [IntKind.wrap_i64]; omega
  have x2 : n + 16 - n = 16 := by omega
  have x3 : (n : Int) ≤ ((n + 16 : Nat) : Int) := by omega
  have x4 : (n : Int) ≤ (n : Int) + 16 := by omega
  have x5 : (0 : Int) ≤ n := by omega
  have x6 : n ≤ n + 16 := by omega
  have HK := Hid.mk hk
  have HM := Hid.mk hm
  have HP := Hid.mk hp
  have HKL := Hid.mk hkl
  have HML := Hid.mk hml
  have HG := Hid.mk hg
  have HKW := Hid.mk kW
  have HN := Hid.mk hN
  have Hn := Hid.mk hn
  have HNB := Hid.mk hnb
  have HNC := Hid.mk hnc
  have HCM := Hid.mk hcm
  have HG6 := Hid.mk hg6
  have HSq := Hid.mk hsq
  clear hk hm hp hkl hml hg kW hN hn B0 hcm hnc hsq
  have hWs : W.heap.size = g6 + 1 + 1 + 1 := by rw [hW, World.size_alloc, World.size_alloc, World.size_alloc, hg6]
  obtain ⟨W1, hW1⟩ : ∃ W1, W1 = W.alloc (.cells #[.int .u16 1284, .int .u8 f, .int .u16 0, .int .u16 0, .int .u64 sq] 56) := ⟨_, rfl⟩
  have k1 : Keep W W1 := by rw [hW1]; exact (Keep.refl W).alloc _
  have F1 : Five W1 (g6 + 1 + 1 + 1) (.int .u16 1284) (.int .u8 f) (.int .u16 0) (.int .u16 0) (.int .u64 sq) := by rw [hW1, ← hWs]; exact Five.new _ _ _ _ _ _
  have hW1s : W1.heap.size = g6 + 1 + 1 + 1 + 1 := by rw [hW1, World.size_alloc, hWs]
  have hmk := run_make1 (P := Tryz.prog) Tryz.underlying26 inf5 rfl ((n : Int) + 16) ((n : Int) + 16) (by omega) (by omega) (by omega) (by omega) W1
  have hto : ((n : Int) + 16).toNat = n + 16 := by omega
  rw [hto] at hmk
  obtain ⟨W2, hW2⟩ : ∃ W2, W2 = W1.alloc (.cells (rep (n + 16) (.int .u8 0)) 5) := ⟨_, rfl⟩
  rw [← hW2, hW1s] at hmk
  have k2 : Keep W1 W2 := by rw [hW2]; exact (Keep.refl W1).alloc _
  have V2 : Win W2 (g6 + 1 + 1 + 1 + 1) 5 [] (List.replicate (n + 16) 0) [] := by
    show W2.heap[g6 + 1 + 1 + 1 + 1]? = _
    rw [hW2, ← hW1s, heap_alloc_new, rep_cb]; simp
  have K2 := k1.trans k2
  have KW2 := HKW.out.trans K2
  have C3 := Hid.mk (gather_c (g6 + 1 + 1 + 1 + 1) 0 (n + 16) (n + 16) gp ma n mc [] [] (List.replicate (n + 16) 0) msg W2 rfl (by simp) (by omega) (by omega) (Nat.le_refl _) (by unfold maxLen; omega) V2 (KW2.cell HP.out) (HM.out.keep KW2) HML.out (by omega))
  have HK2 := Hid.mk K2
  have HKW2 := Hid.mk KW2
  have HF2 := Hid.mk (F1.keep k2)
  have HLB : Hid (w.heap.size ≤ g6 + 1 + 1 + 1 + 1 ∧ W.heap.size ≤ g6 + 1 + 1 + 1 + 1) := Hid.mk ⟨by omega, by omega⟩
  clear K2 KW2 V2 k1 k2 F1 hto
  rw [hW1, hW, hg6] at hmk
  clear a0 a1 b0 b1 c0 c1 c2 c4
  go_enter Tryz.func60, Tryz.ntmps60
  go_wp2_with fail
  rw [← hg6, ← hW, ← hW1, ← hW2]
  clear hmk hW hW1 hW2
  refine C3.out.mono ?_
  rintro x W3 ⟨rfl, V3, gr3⟩
  obtain ⟨gb, hgb⟩ : ∃ gb, gb = g6 + 1 + 1 + 1 + 1 := ⟨_, rfl⟩
  obtain ⟨gh, hgh⟩ : ∃ gh, gh = g6 + 1 + 1 + 1 := ⟨_, rfl⟩
  have hgne : gh ≠ gb := by omega
  rw [← hgb] at V3 gr3 HLB
  rw [← hgb, ← hgh]
  rw [← hgh] at HF2
  have HGH : Hid (W.heap.size ≤ gh ∧ w.heap.size ≤ gh) := Hid.mk ⟨by omega, by omega⟩
  have K3 : Keep W W3 := HK2.out.grown gr3 (fun k hk => by cases hk; exact HLB.out.2)
  have F3 := HF2.out.kept gr3 hgne
  have V3a : Win W3 gb 5 (msg.map cb) (List.replicate 16 0) [] := V3.cut (by rw [List.drop_replicate, x2]; simp)
  obtain ⟨d0, d1, d2, d3, d4, d5⟩ := HALL.out W3 K3
  obtain ⟨h0, h1, h2, h3, h4⟩ := F3.cells
  have C4 := Hid.mk (writeHeader_c gb n 16 (msg.map cb) [] (List.replicate 16 0) 1284 f 0 0 sq W3.drew (by rw [List.length_map, HML.out]) (by simp) (by omega) (by unfold maxLen; omega) (Or.inl rfl) hf (by omega) (by omega) HSq.out V3a)
  have HK3 := Hid.mk K3
  have HF3 := Hid.mk F3
  have HS4 : Hid (∀ Z, Keep W Z ∧ Five Z gh (.int .u16 1284) (.int .u8 f) (.int .u16 0) (.int .u16 0) (.int .u64 sq) → Z.cell? ⟨g6, 4, none⟩ = some (.int .i64 n) ∧ Z.cell? ⟨gh, 0, none⟩ = some (.int .u16 1284) ∧ Z.cell? ⟨gh, 1, none⟩ = some (.int .u8 f) ∧ Z.cell? ⟨gh, 2, none⟩ = some (.int .u16 0) ∧ Z.cell? ⟨gh, 3, none⟩ = some (.int .u16 0) ∧ Z.cell? ⟨gh, 4, none⟩ = some (.int .u64 sq)) := Hid.mk (fun Z hz => ⟨(HALL.out Z hz.1).2.1, hz.2.cells⟩)
  have Q0 : Keep W W3.drew ∧ Five W3.drew gh (.int .u16 1284) (.int .u8 f) (.int .u16 0) (.int .u16 0) (.int .u64 sq) := ⟨K3.drew, F3⟩
  clear V3 V3a gr3 K3 F3 hgb hgh hWs hW1s C3 hg6
  go_upto_region 4 with fail
  go_region_held3 (fun Z => Z.cell? ⟨g6, 4, none⟩ = some (.int .i64 n) ∧ Z.cell? ⟨gh, 0, none⟩ = some (.int .u16 1284) ∧ Z.cell? ⟨gh, 1, none⟩ = some (.int .u8 f) ∧ Z.cell? ⟨gh, 2, none⟩ = some (.int .u16 0) ∧ Z.cell? ⟨gh, 3, none⟩ = some (.int .u16 0) ∧ Z.cell? ⟨gh, 4, none⟩ = some (.int .u64 sq))
    ((refine HS4.out _ ?_; first | (with_reducible exact Q1) | (with_reducible exact Q0)))
    (first
    | (go_at_call 62; refine C4.out.mono ?_; rintro x W4 ⟨rfl, V4, gr4⟩; have Q1 : Keep W W4 ∧ Five W4 gh (.int .u16 1284) (.int .u8 f) (.int .u16 0) (.int .u16 0) (.int .u64 sq) := ⟨Q0.1.grown gr4 (fun k hk => by cases hk; exact HLB.out.2), Q0.2.kept gr4 hgne⟩))
  rename_i hHd
  have HV4 : Hid (Win W4 gb 5 [] (msg ++ enc 1284 f 0 0 sq) []) := Hid.mk (V4.cut (by simp))
  have HK4 := Hid.mk Q1.1
  have HF4 := Hid.mk Q1.2
  have HL4 : Hid ((msg ++ enc 1284 f 0 0 sq).length = n + 16) := Hid.mk (by rw [List.length_append, HML.out, enc_length])
  obtain ⟨d0, d1, d2, d3, d4, d5⟩ := HALL.out W4 HK4.out
  have C5 := Hid.mk (getMIC_c hS ka kn kc key us (.slice (some ⟨gb, 0, none⟩) (n + 16) (n + 16)) (msg ++ enc 1284 f 0 0 sq) W4 (HK.out.keep (HKW.out.trans HK4.out)) HKL.out hus (Win.bs HV4.out HL4.out.symm (Nat.le_refl _) (by unfold maxLen; omega)) (by rw [HL4.out]; omega))
  clear hHd V4 gr4 Q0 Q1 C4 h0 h1 h2 h3 h4 HS4 HF3 HK3
  go_wp2_with fail
  refine C5.out.mono ?_
  rintro x W5 ⟨sv, rfl, b5, k5⟩
  have HSL : Hid ((mcF e (drvF e key us 153) (msg ++ enc 1284 f 0 0 sq)).length = cl e) := Hid.mk (mcF_length hS _ _ (drv_key hS key us 153 HKL.out).2.1)
  have HSE : ∃ sm, sm = mcF e (drvF e key us 153) (msg ++ enc 1284 f 0 0 sq) := ⟨_, rfl⟩
  obtain ⟨sm, hsm⟩ := HSE
  rw [← hsm] at b5 HSL
  have HSM := Hid.mk hsm
  clear hsm
  have V5 := HV4.out.keep k5
  have OA : Own W.heap.size 5 W5 (.slice (some ⟨gb, 0, none⟩) n (n + 16)) (msg.map cb) := by
    have h1 := Own.of_win (B := W.heap.size) (sp := (enc 1284 f 0 0 sq).map cb) (cap := n + 16) HLB.out.2 (V5.cut (pre' := []) (m' := msg) (by simp)) (by rw [HML.out, List.length_map, enc_length]) (by unfold maxLen; omega)
    rw [HML.out] at h1
    exact h1
  have HK5 := Hid.mk (HK4.out.trans k5)
  have HF5 := Hid.mk (HF4.out.keep k5)
  obtain ⟨d0, d1, d2, d3, d4, d5⟩ := HALL.out W5 HK5.out
  have hBs : W.heap.size ≤ W5.heap.size := HK5.out.size
  have HXL : Hid ((msg.map cb).length = n) := Hid.mk (by rw [List.length_map, HML.out])
  have HYL : Hid ((sm.map cb).length = cl e) := Hid.mk (by rw [List.length_map, HSL.out])
  have HB5 := Hid.mk b5
  clear C5 k5 V5 b5
  obtain ⟨v6, W6, hap, O6, gr6, ob6⟩ := run_app (P := Tryz.prog) (t := 26) (ty := 26) Tryz.underlying26 inf5 rfl OA HB5.out (cb_one sm) (by rw [HXL.out, HYL.out]; simp [maxLen]; omega) (by rw [HXL.out, HYL.out]; simp; omega) hBs
  have hob : v6.ownBlock ≠ some gh := own_ne_arr O6 (p := gh) (t := 56) (cs := [.int .u16 1284, .int .u8 f, .int .u16 0, .int .u16 0, .int .u64 sq]) (HF5.out.kept gr6 hgne) (by decide)
  rw [← List.map_append] at O6
  have HL6 : Hid ((msg ++ sm).length = n + cl e) := Hid.mk (by rw [List.length_append, HML.out, HSL.out])
  rcases O6.win with ⟨-, hz⟩ | ⟨gs, cs, sp, hv, hBg, V6, hcs, hcsm⟩
  · exact absurd (congrArg List.length hz) (by rw [HL6.out]; simp; omega)
  rw [HL6.out] at hv hcs
  subst hv
  have hgsh : gs ≠ gh := by intro h; exact hob (by rw [h]; rfl)
  have hgsg : gs ≠ g := by omega
  have K6 : Keep W W6 := HK5.out.grown gr6 (fun k hk => by cases hk; exact HLB.out.2)
  have F6 := HF5.out.kept gr6 hgne
  have F7 := F6.set2 (.int .u16 (cl e))
  have F8 := F7.set3 (.int .u16 rrc)
  have K7 := K6.setCell (p := ⟨gh, 2, none⟩) HGH.out.1 (.int .u16 (cl e))
  have K8 := K7.setCell (p := ⟨gh, 3, none⟩) HGH.out.1 (.int .u16 rrc)
  have y1 : IntKind.u16.wrap (cl e : Int) = cl e := by simp [IntKind.wrap, IntKind.signed, IntKind.bits]; omega
  obtain ⟨d0, -⟩ := HALL.out W6 K6
  obtain ⟨-, -, -, -, -, d5⟩ := HALL.out _ K7
  obtain ⟨-, -, f2, f3, -⟩ := F6.cells
  obtain ⟨-, -, t2, t3, -⟩ := F6.thaw
  obtain ⟨-, -, -, s3, -⟩ := F7.cells
  obtain ⟨-, -, -, u3, -⟩ := F7.thaw
  obtain ⟨p0, p1, p2, p3, p4⟩ := F8.cells
  have V8 : Win ((W6.setCell ⟨gh, 2, none⟩ (.int .u16 (cl e))).setCell ⟨gh, 3, none⟩ (.int .u16 rrc)) gs 5 [] (msg ++ sm) sp := (V6.kept (grown_set (grown_refl _ _) 2 _) hgsh).kept (grown_set (grown_refl _ _) 3 _) hgsh
  have KW8 := HKW.out.trans K8
  have C9 := Hid.mk (writeToken_c g (n + cl e) N c gs 0 cs 1284 f (cl e) rrc sq m (msg ++ sm) post _ HN.out Hn.out HL6.out (by omega) (by omega) HNC.out HCM.out (HG.out.keep KW8) (V8.bs HL6.out.symm (by omega) hcsm) hgsg (Or.inl rfl) hf (by omega) hrrc HSq.out)
  have HV8 := Hid.mk V8
  have HK8 := Hid.mk KW8
  have HBG : Hid (w.heap.size ≤ gs) := Hid.mk (by omega)
  have HCS := Hid.mk hcs
  have HCSM := Hid.mk hcsm
  have HAP := Hid.mk hap
  clear O6 V6 hcs hcsm K6 F6 F7 F8 K7 K8 V8 KW8 gr6 ob6 hob hBg OA hap
  go_wp2_with (at_builtin; refine wpList_appE (by rfl) _ _ _ (by rfl) (by rfl) (by rfl) HAP.out ?_)
  refine C9.out.mono ?_
  rintro x W9 ⟨rfl, V9, gr9⟩
  have V9b := HV8.out.kept gr9 hgsg
  have C10 := Hid.mk (wipe_c gs (n + cl e) cs (msg ++ sm) [] sp W9 HL6.out.symm (by have := HCS.out; omega) HCSM.out V9b)
  have HV9 := Hid.mk V9
  have HG9 := Hid.mk (grown_trans (keep_grown HK8.out (some g)) gr9)
  clear d0 d5 f2 f3 t2 t3 s3 u3 p0 p1 p2 p3 p4 V9 gr9 V9b C9
  go_wp2_with fail
  refine C10.out.mono ?_
  rintro x W10 ⟨rfl, -, gr10⟩
  have HV10 := Hid.mk (HV9.out.kept gr10 hgsg.symm)
  have HG10 := Hid.mk (grown_two HG9.out gr10 HBG.out)
  clear gr10 C10
  go_wp2_with fail
  go_end0
  rw [← HSM.out]
  exact ⟨rfl, HV10.out, HG10.out⟩
end Go.Proofs.Qxb6500771aGreat
