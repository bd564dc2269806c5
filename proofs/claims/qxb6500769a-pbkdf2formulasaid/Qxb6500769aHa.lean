/- modes: (*HMAC).Write, Sum, Size; SumHMAC; modeslaw.hmacAgrees. -/
import Derived.Test.Qxb6500769aNh
namespace Go.Proofs.Qxb6500769a
open Go.RowKit Go.Qm
set_option linter.unusedVariables false
set_option linter.unusedSimpArgs false
attribute [local go_sem ↓] Go.wp_at_zero Go.wp_at_succ

theorem hwrite_c (g n : Nat) (mv pv : Value) (lm lp l : List UInt8) (w : World) (hll : l = lm ++ lp) (hn : n = l.length) (hc : w.cell? ⟨g, 6, none⟩ = some mv) (hf : w.frozen? ⟨g, 6, none⟩ = false) (hm : Bs w mv lm) (hp : Bs w pv lp) (hl : n ≤ 1000000) :
    Calls Try.prog 31 #[.pointer (some ⟨g, 0, none⟩), pv] w fun e w' => ∃ a c w1, e = .returned (.tuple #[]) ∧ w' = w1.setCell ⟨g, 6, none⟩ (.slice a n c) ∧ Own w.heap.size 5 w1 (.slice a n c) (l.map cb) ∧ Keep w w1 := by
  obtain ⟨pa, pc, rfl, -⟩ := hp.form
  have D := dwriteL_c g 5 6 n mv _ lm lp l w rfl hll hn hc hf hm hp hl
  clear hll hn
  go_enter Try.func31, Try.ntmps31
  go_wp2_with fail
  refine D.mono ?_
  rintro e w' ⟨a, c, w1, rfl, rfl, o1, k1⟩
  go_wp2
  go_end0
  exact ⟨a, c, w1, rfl, rfl, o1, k1⟩
theorem hsize_c (g : Nat) (sz : Nat) (w : World) (hc : w.cell? ⟨g, 0, none⟩ = some (.int .i64 sz)) : Calls Try.prog 33 #[.pointer (some ⟨g, 0, none⟩)] w fun e w' => e = .returned (.int .i64 sz) ∧ w' = w := by
  go_enter Try.func33, Try.ntmps33
  go_wp2
  go_ret
  exact ⟨rfl, rfl⟩
set_option maxHeartbeats 1000000 in
theorem hsum_c (g h B : Nat) (vo vr dv : Value) (lo lr ld : List UInt8) (w : World) (h1 : 1 ≤ h) (h5 : h ≤ 5) (c3 : w.cell? ⟨g, 3, none⟩ = some (.int .i64 h)) (c4 : w.cell? ⟨g, 4, none⟩ = some vo) (c5 : w.cell? ⟨g, 5, none⟩ = some (.int .i64 h)) (c6 : w.cell? ⟨g, 6, none⟩ = some vr)
    (ho : Bs w vo lo) (hr : Bs w vr lr) (hd : Own B 5 w dv (ld.map cb)) (hB : B ≤ w.heap.size) (hll : lr.length ≤ 1000000) (hol : lo.length ≤ 500000) (hdl : ld.length ≤ 1000000) :
    Calls Try.prog 32 #[.pointer (some ⟨g, 0, none⟩), dv] w fun e w' => ∃ v', e = .returned v' ∧ Own B 5 w' v' ((ld ++ hsh h (lo ++ hsh h lr)).map cb) ∧ w.grownBy w' dv.ownBlock ∧ w.heap.size ≤ w'.heap.size ∧ (v'.ownBlock = dv.ownBlock ∨ ∃ q, v'.ownBlock = some q ∧ w.heap.size ≤ q) := by
  have hsl : ∀ l, (hsh h l).length ≤ 48 := fun l => by rw [hsh_length h l h1 h5]; exact (hsz_le h).1
  obtain ⟨ao, co, rfl, -⟩ := ho.form
  go_enter Try.func32, Try.ntmps32
  have A5 := Arr.new w 56 [.int .i64 h, .slice ao lo.length co]
  have KA := (Keep.refl w).alloc (.cells [.int .i64 (h : Int), .slice ao lo.length co].toArray 56)
  have c5' := KA.cell c5
  have c6' := KA.cell c6
  go_wp2_with fail
  refine (dsum_c g 5 h vr lr _ h1 h5 c5' c6' (hr.keep KA) hll).mono ?_
  rintro e w2 ⟨v2, rfl, o2, k2⟩
  have A2 := A5.keep k2
  have K2 := KA.trans k2
  have hs2 := hsl lr
  go_wp2_with fail
  refine (dwriteL_c w.heap.size 0 1 (lo ++ hsh h lr).length (.slice ao lo.length co) _ lo (hsh h lr) _ _ rfl rfl rfl (A2.cell 1) (A2.frozen 1) (ho.keep K2) o2.bs (by rw [List.length_append]; omega)).mono ?_
  rintro e w4 ⟨a3, c3', w3, rfl, rfl, o3, k3⟩
  obtain ⟨n3, hn3⟩ : ∃ n, n = (lo ++ hsh h lr).length := ⟨_, rfl⟩
  rw [← hn3] at o3 ⊢
  have A4 := (A2.keep k3).set 1 (.slice a3 n3 c3')
  have hlt := A2.lt
  have hnb : (Value.slice a3 n3 c3').ownBlock ≠ some w.heap.size := by intro e; have := (o3.lt _ e).1; omega
  have B4 := o3.bs.kept (grown_set (grown_refl w3 (some w.heap.size)) 1 (.slice a3 n3 c3')) hnb
  have K4 : Keep w (w3.setCell ⟨w.heap.size, 1, none⟩ (.slice a3 n3 c3')) := (K2.trans k3).setCell (Nat.le_refl _) _
  clear hn3
  go_wp2_with fail
  refine (dsum_c w.heap.size 0 h _ (lo ++ hsh h lr) _ h1 h5 (A4.cell 0) (A4.cell 1) B4 (by rw [List.length_append]; omega)).mono ?_
  rintro e w5 ⟨v5, rfl, o5, k5⟩
  have K5 := K4.trans k5
  have hs5 := hsl (lo ++ hsh h lr)
  have D5 := hd.keep K5
  have hB5 : B ≤ w5.heap.size := by have := K5.size; omega
  go_wp2_with (at_builtin; refine wpList_app (by rfl) _ _ _ (by rfl) Try.underlying27 inf5 rfl B D5 o5.sl (cb_one _) (by rfl) (by rfl) (by simp [maxLen]; omega) (by simp; omega) hB5 ?_; intro v' w' hown' hgr hob)
  go_ret
  rw [← List.map_append] at hown'
  exact ⟨_, rfl, hown', grown_trans (keep_grown K5 _) hgr, by have := K5.size; have := hgr.size; omega, hob.elim Or.inl (fun e => Or.inr ⟨_, e, K5.size⟩)⟩

/-- An HMAC made and given the whole message, summed onto nothing: what both callers do behind NewHMAC. -/
theorem hm_def (h : Nat) (key text : List UInt8) : hsh h (hout h key ++ hsh h (hin h key ++ text)) = hm h key text := rfl
set_option maxHeartbeats 2000000 in
theorem sumHMAC_c (h : Nat) (kv tv : Value) (key text : List UInt8) (w : World) (hk : Bs w kv key) (ht : Bs w tv text) (hkl : key.length ≤ 500000) (htl : text.length ≤ 500000) (h1 : 1 ≤ h) (h5 : h ≤ 5) :
    Calls Try.prog 29 #[.int .i64 h, kv, tv] w fun e w' => ∃ v', e = .returned (.tuple #[v', .int .i64 0]) ∧ Own w.heap.size 5 w' v' ((hm h key text).map cb) ∧ Keep w w' := by
  have hb := bsz_le h
  have hil := hin_length h key h1 h5
  have hol := hout_length h key h1 h5
  have HIL := Hid.mk hil
  have HOL := Hid.mk hol
  clear hil hol
  go_enter Try.func29, Try.ntmps29
  go_wp2_with fail
  refine (newHMAC_c h kv key w hk hkl h1 h5).mono ?_
  rintro e w1 ⟨vi, vo, rfl, bi, bo, k1⟩
  obtain ⟨ai, ci, rfl, -⟩ := bi.form
  obtain ⟨ao, co, rfl, -⟩ := bo.form
  rw [HIL.out, HOL.out]
  rw [HIL.out] at bi
  rw [HOL.out] at bo
  generalize hsz h = sz
  generalize bsz h = b at *
  have A2 := Arr.new w1 58 [.int .i64 sz, .int .i64 h, .slice ai b ci, .int .i64 h, .slice ao b co, .int .i64 h, .slice ai b ci]
  have KA := (Keep.refl w1).alloc (.cells [.int .i64 (sz : Int), .int .i64 (h : Int), .slice ai b ci, .int .i64 (h : Int), .slice ao b co, .int .i64 (h : Int), .slice ai b ci].toArray 58)
  have K2 := k1.trans KA
  have nbo : (Value.slice ao b co).ownBlock ≠ some w1.heap.size := bo.block (by rw [HOL.out]; omega) (Nat.le_refl _)
  go_wp2_with fail
  refine (hwrite_c w1.heap.size (hin h key ++ text).length (.slice ai b ci) tv (hin h key) text _ _ rfl rfl (A2.cell 6) (A2.frozen 6) (bi.keep KA) (ht.keep K2) (by rw [List.length_append, HIL.out]; omega)).mono ?_
  rintro e w3 ⟨ar, cr, w2, rfl, rfl, o2, k2⟩
  obtain ⟨nr, hnr⟩ : ∃ n, n = (hin h key ++ text).length := ⟨_, rfl⟩
  rw [← hnr] at o2 ⊢
  have hnr2 : nr ≤ 1000000 := by rw [hnr, List.length_append, HIL.out]; omega
  have HNR := Hid.mk hnr
  clear hnr
  have A3 := (A2.keep k2).set 6 (.slice ar nr cr)
  have lt2 := A2.lt
  have nbr : (Value.slice ar nr cr).ownBlock ≠ some w1.heap.size := by intro e; have := (o2.lt _ e).1; omega
  have BR := o2.bs.kept (grown_set (grown_refl w2 (some w1.heap.size)) 6 (.slice ar nr cr)) nbr
  have BO := (bo.keep (KA.trans k2)).kept (grown_set (grown_refl w2 (some w1.heap.size)) 6 (.slice ar nr cr)) nbo
  have K3 : Keep w (w2.setCell ⟨w1.heap.size, 6, none⟩ (.slice ar nr cr)) := (K2.trans k2).setCell k1.size _
  have ON : Own w.heap.size 5 (w2.setCell ⟨w1.heap.size, 6, none⟩ (.slice ar nr cr)) (.slice none 0 0) (([] : List UInt8).map cb) := World.ownsRow_nil _ _ _ _
  go_wp2_with fail
  refine (hsum_c w1.heap.size h w.heap.size _ _ _ (hout h key) (hin h key ++ text) [] _ h1 h5 (A3.cell 3) (A3.cell 4) (A3.cell 5) (A3.cell 6) BO BR ON K3.size (by rw [← HNR.out]; exact hnr2) (by rw [HOL.out]; omega) (by simp)).mono ?_
  rintro e w4 ⟨v4, rfl, o4, g4, s4⟩
  rw [List.nil_append, hm_def] at o4
  go_wp2
  go_ret2
  exact ⟨_, rfl, o4, K3.grown g4 (fun q hq => by simp [Value.ownBlock] at hq)⟩

theorem hm_length (h : Nat) (key text : List UInt8) (h1 : 1 ≤ h) (h5 : h ≤ 5) : (hm h key text).length = hsz h := hsh_length h _ h1 h5
set_option maxRecDepth 1400 in
set_option maxHeartbeats 4000000 in
theorem hmacAgrees_c (h : Nat) (kv tv : Value) (key text : List UInt8) (cut : Nat) (w : World) (hk : Bs w kv key) (ht : Bs w tv text) (hkl : key.length ≤ 500000) (htl : text.length ≤ 500000) (h1 : 1 ≤ h) (h5 : h ≤ 5) (hcut : cut ≤ text.length) :
    Calls Try.prog 10 #[.int .i64 h, kv, tv, .int .i64 cut] w fun e w' => e = .returned (.bool true) ∧ Keep w w' := by
  have hb := bsz_le h
  have hsb := hsz_le h
  have hil := hin_length h key h1 h5
  have hol := hout_length h key h1 h5
  have hml := hm_length h key text h1 h5
  have HIL := Hid.mk hil
  have HOL := Hid.mk hol
  have HML := Hid.mk hml
  clear hil hol hml
  obtain ⟨ak, ck, rfl, hack, hcmk, -⟩ := hk.form
  obtain ⟨at', ct, rfl, hact, hcmt, -⟩ := ht.form
  unfold maxLen at hcmt
  go_enter Try.func10, Try.ntmps10
  go_wp2_with fail
  refine (mhmac_c h _ _ key text w hk ht hkl htl h1 h5).mono ?_
  rintro e w1 ⟨wv, rfl, ow, k1⟩
  go_wp2_with fail
  refine (sumHMAC_c h _ _ key text _ (hk.keep k1) (ht.keep k1) hkl htl h1 h5).mono ?_
  rintro e w2 ⟨sv, rfl, os, k2⟩
  have OW := ow.bs.keep k2
  obtain ⟨aw, cw, hwe, -⟩ := OW.form
  rw [HML.out] at hwe
  subst hwe
  go_wp2_with fail
  refine (same_c _ _ _ _ _ os.bs OW).mono ?_
  rintro e w3 ⟨rfl, k3⟩
  rw [decide_eq_true rfl]
  have OW3 := OW.keep k3
  have K3 := k1.trans (k2.trans k3)
  clear os ow k1 k2 k3 OW
  go_wp2_with fail
  refine (newHMAC_c h _ key _ (hk.keep K3) hkl h1 h5).mono ?_
  rintro e w4 ⟨vi, vo, rfl, bi, bo, k4⟩
  obtain ⟨ai, ci, rfl, -⟩ := bi.form
  obtain ⟨ao, co, rfl, -⟩ := bo.form
  rw [HIL.out, HOL.out]
  rw [HIL.out] at bi
  rw [HOL.out] at bo
  have OW4 := OW3.keep k4
  have K4 := K3.trans k4
  clear OW3 K3 k4
  generalize hsz h = sz at *
  generalize bsz h = b at *
  have A4 := Arr.new w4 58 [.int .i64 sz, .int .i64 h, .slice ai b ci, .int .i64 h, .slice ao b co, .int .i64 h, .slice ai b ci]
  have KA := (Keep.refl w4).alloc (.cells [.int .i64 (sz : Int), .int .i64 (h : Int), .slice ai b ci, .int .i64 (h : Int), .slice ao b co, .int .i64 (h : Int), .slice ai b ci].toArray 58)
  have nbo : (Value.slice ao b co).ownBlock ≠ some w4.heap.size := bo.block (by rw [HOL.out]; omega) (Nat.le_refl _)
  have hP1 := ht.part (i := 0) (j := cut) (by omega) hcut at' (fun _ => by cases at' <;> simp [Addr.add])
  have i1 : (cut : Int) ≤ text.length := by omega
  have i2 : (cut : Int) ≤ ct := by omega
  have i3 : cut ≤ ct := by omega
  rw [Nat.sub_zero, Nat.sub_zero, List.drop_zero] at hP1
  go_wp2_with fail
  refine (hwrite_c w4.heap.size (hin h key ++ text.take cut).length (.slice ai b ci) _ (hin h key) (text.take cut) _ _ rfl rfl (A4.cell 6) (A4.frozen 6) (bi.keep KA) (hP1.keep (K4.trans KA)) (by rw [List.length_append, HIL.out, List.length_take]; omega)).mono ?_
  rintro e w6 ⟨ar, cr, w5, rfl, rfl, o5, k5⟩
  obtain ⟨nr, hnr⟩ : ∃ n, n = (hin h key ++ text.take cut).length := ⟨_, rfl⟩
  rw [← hnr] at o5 ⊢
  have hnr2 : nr ≤ 1000000 := by rw [hnr, List.length_append, HIL.out, List.length_take]; omega
  clear hnr
  have A6 := (A4.keep k5).set 6 (.slice ar nr cr)
  have lt4 := A4.lt
  have nbr : (Value.slice ar nr cr).ownBlock ≠ some w4.heap.size := by intro e; have := (o5.lt _ e).1; omega
  have gr6 := grown_set (grown_refl w5 (some w4.heap.size)) 6 (.slice ar nr cr)
  have BR := o5.bs.kept gr6 nbr
  have BO := (bo.keep (KA.trans k5)).kept gr6 nbo
  have K45 := KA.trans k5
  have OW6 : Bs (w5.setCell ⟨w4.heap.size, 6, none⟩ (.slice ar nr cr)) (.slice aw sz cw) (hm h key text) := (OW4.keep K45).kept gr6 (OW4.block (by rw [HML.out]; omega) (Nat.le_refl _))
  have K6 : Keep w (w5.setCell ⟨w4.heap.size, 6, none⟩ (.slice ar nr cr)) := (K4.trans K45).setCell K4.size _
  have nbw : (Value.slice aw sz cw).ownBlock ≠ some w4.heap.size := OW4.block (by rw [HML.out]; omega) (Nat.le_refl _)
  clear o5 k5 gr6 K45
  by_cases hcc : ct = cut
  · have hP2 : Bs w (.slice at' 0 0) (text.drop cut) := by
      rw [List.drop_of_length_le (by omega)]
      exact Bs.nil _ _ (by simp [maxLen])
    have hcc' := hcc.symm
    subst hcc'
    go_wp2_with fail
    refine (hwrite_c w4.heap.size (hin h key ++ text).length (.slice ar nr cr) _ (hin h key ++ text.take cut) (text.drop cut) _ _ (by rw [List.append_assoc, List.take_append_drop]) rfl (A6.cell 6) (A6.frozen 6) BR (hP2.keep K6) (by rw [List.length_append, HIL.out]; omega)).mono ?_
    rintro e w8 ⟨ax, cx, w7, rfl, rfl, o7, k7⟩
    obtain ⟨ns, hns⟩ : ∃ n, n = (hin h key ++ text).length := ⟨_, rfl⟩
    rw [← hns] at o7 ⊢
    have hns2 : ns ≤ 1000000 := by rw [hns, List.length_append, HIL.out]; omega
    have HNS := Hid.mk hns
    clear hns
    have A8 := (A6.keep k7).set 6 (.slice ax ns cx)
    have lt6 := A6.lt
    have nbs : (Value.slice ax ns cx).ownBlock ≠ some w4.heap.size := by intro e; have := (o7.lt _ e).1; omega
    have gr8 := grown_set (grown_refl w7 (some w4.heap.size)) 6 (.slice ax ns cx)
    have BS := o7.bs.kept gr8 nbs
    have BO8 := (BO.keep k7).kept gr8 nbo
    have OW8 := (OW6.keep k7).kept gr8 nbw
    have nbx : (Value.slice aw sz cw).ownBlock ≠ some w7.heap.size := by
      have := OW8.block (by rw [HML.out]; omega) (g := w7.heap.size) (by rw [World.size_setCell]; exact Nat.le_refl _)
      exact this
    have K8 : Keep w (w7.setCell ⟨w4.heap.size, 6, none⟩ (.slice ax ns cx)) := (K6.trans k7).setCell K4.size _
    clear o7 k7 gr8
    have ON : Own w.heap.size 5 ((w7.setCell ⟨w4.heap.size, 6, none⟩ (.slice ax ns cx)).alloc (.cells #[] 5)) (.slice (some ⟨(w7.setCell ⟨w4.heap.size, 6, none⟩ (.slice ax ns cx)).heap.size, 0, none⟩) 0 0) (([] : List UInt8).map cb) := Own.lit (B := w.heap.size) (e := 5) (w := w7.setCell ⟨w4.heap.size, 6, none⟩ (.slice ax ns cx)) [] K8.size (by simp)
    rw [World.size_setCell] at ON
    have KB := (Keep.refl (w7.setCell ⟨w4.heap.size, 6, none⟩ (.slice ax ns cx))).alloc (.cells #[] 5)
    have A9 := A8.keep KB
    have OW9 := OW8.keep KB
    go_wp2_with fail
    refine (hsum_c w4.heap.size h w.heap.size _ _ _ (hout h key) (hin h key ++ text) [] _ h1 h5 (A9.cell 3) (A9.cell 4) (A9.cell 5) (A9.cell 6) (BO8.keep KB) (BS.keep KB) ON (K8.trans KB).size (by rw [← HNS.out]; exact hns2) (by rw [HOL.out]; omega) (by simp)).mono ?_
    rintro e w10 ⟨v10, rfl, o10, g10, s10⟩
    rw [List.nil_append, hm_def] at o10
    have g10' : World.grownBy ((w7.setCell ⟨w4.heap.size, 6, none⟩ (.slice ax ns cx)).alloc (.cells #[] 5)) w10 (some w7.heap.size) := g10
    have K10 : Keep w w10 := (K8.trans KB).grown g10' (fun q hq => by have := K8.size; rw [World.size_setCell] at this; simp at hq; omega)
    have hw7 := A8.lt
    rw [World.size_setCell] at hw7
    have OW10 := OW9.kept g10' nbx
    have c10 : w10.cell? ⟨w4.heap.size, 0, none⟩ = some (.int .i64 sz) := (A9.kept g10' (by omega)).cell 0
    go_wp2_with fail
    refine (same_c _ _ _ _ _ o10.bs OW10).mono ?_
    rintro e w11 ⟨rfl, k11⟩
    rw [decide_eq_true rfl]
    go_wp2_with fail
    refine (hsize_c w4.heap.size sz _ (k11.cell c10)).mono ?_
    rintro e w12 ⟨rfl, rfl⟩
    go_wp2
    go_ret
    exact ⟨by simp, K10.trans k11⟩
  · have hP2 : Bs w (.slice (at'.map (fun x => x.add cut)) (text.length - cut) (ct - cut)) (text.drop cut) := by
      have := ht.part (i := cut) (j := text.length) hcut (Nat.le_refl _) (at'.map (fun x => x.add cut)) (fun hlt2 => rfl)
      rw [List.take_of_length_le (l := text.drop cut) (by simp)] at this
      exact this
    go_wp2_with fail
    refine (hwrite_c w4.heap.size (hin h key ++ text).length (.slice ar nr cr) _ (hin h key ++ text.take cut) (text.drop cut) _ _ (by rw [List.append_assoc, List.take_append_drop]) rfl (A6.cell 6) (A6.frozen 6) BR (hP2.keep K6) (by rw [List.length_append, HIL.out]; omega)).mono ?_
    rintro e w8 ⟨ax, cx, w7, rfl, rfl, o7, k7⟩
    obtain ⟨ns, hns⟩ : ∃ n, n = (hin h key ++ text).length := ⟨_, rfl⟩
    rw [← hns] at o7 ⊢
    have hns2 : ns ≤ 1000000 := by rw [hns, List.length_append, HIL.out]; omega
    have HNS := Hid.mk hns
    clear hns
    have A8 := (A6.keep k7).set 6 (.slice ax ns cx)
    have lt6 := A6.lt
    have nbs : (Value.slice ax ns cx).ownBlock ≠ some w4.heap.size := by intro e; have := (o7.lt _ e).1; omega
    have gr8 := grown_set (grown_refl w7 (some w4.heap.size)) 6 (.slice ax ns cx)
    have BS := o7.bs.kept gr8 nbs
    have BO8 := (BO.keep k7).kept gr8 nbo
    have OW8 := (OW6.keep k7).kept gr8 nbw
    have nbx : (Value.slice aw sz cw).ownBlock ≠ some w7.heap.size := by
      have := OW8.block (by rw [HML.out]; omega) (g := w7.heap.size) (by rw [World.size_setCell]; exact Nat.le_refl _)
      exact this
    have K8 : Keep w (w7.setCell ⟨w4.heap.size, 6, none⟩ (.slice ax ns cx)) := (K6.trans k7).setCell K4.size _
    clear o7 k7 gr8
    have ON : Own w.heap.size 5 ((w7.setCell ⟨w4.heap.size, 6, none⟩ (.slice ax ns cx)).alloc (.cells #[] 5)) (.slice (some ⟨(w7.setCell ⟨w4.heap.size, 6, none⟩ (.slice ax ns cx)).heap.size, 0, none⟩) 0 0) (([] : List UInt8).map cb) := Own.lit (B := w.heap.size) (e := 5) (w := w7.setCell ⟨w4.heap.size, 6, none⟩ (.slice ax ns cx)) [] K8.size (by simp)
    rw [World.size_setCell] at ON
    have KB := (Keep.refl (w7.setCell ⟨w4.heap.size, 6, none⟩ (.slice ax ns cx))).alloc (.cells #[] 5)
    have A9 := A8.keep KB
    have OW9 := OW8.keep KB
    go_wp2_with fail
    refine (hsum_c w4.heap.size h w.heap.size _ _ _ (hout h key) (hin h key ++ text) [] _ h1 h5 (A9.cell 3) (A9.cell 4) (A9.cell 5) (A9.cell 6) (BO8.keep KB) (BS.keep KB) ON (K8.trans KB).size (by rw [← HNS.out]; exact hns2) (by rw [HOL.out]; omega) (by simp)).mono ?_
    rintro e w10 ⟨v10, rfl, o10, g10, s10⟩
    rw [List.nil_append, hm_def] at o10
    have g10' : World.grownBy ((w7.setCell ⟨w4.heap.size, 6, none⟩ (.slice ax ns cx)).alloc (.cells #[] 5)) w10 (some w7.heap.size) := g10
    have K10 : Keep w w10 := (K8.trans KB).grown g10' (fun q hq => by have := K8.size; rw [World.size_setCell] at this; simp at hq; omega)
    have hw7 := A8.lt
    rw [World.size_setCell] at hw7
    have OW10 := OW9.kept g10' nbx
    have c10 : w10.cell? ⟨w4.heap.size, 0, none⟩ = some (.int .i64 sz) := (A9.kept g10' (by omega)).cell 0
    go_wp2_with fail
    refine (same_c _ _ _ _ _ o10.bs OW10).mono ?_
    rintro e w11 ⟨rfl, k11⟩
    rw [decide_eq_true rfl]
    go_wp2_with fail
    refine (hsize_c w4.heap.size sz _ (k11.cell c10)).mono ?_
    rintro e w12 ⟨rfl, rfl⟩
    go_wp2
    go_ret
    exact ⟨by simp, K10.trans k11⟩
end Go.Proofs.Qxb6500769a
