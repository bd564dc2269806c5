/- AtTheLimit: token.Unwrap of an unsealed token. -/
import Derived.Test.Qxb6500771aGreatKe
namespace Go.Proofs.Qxb6500771aGreat
open Go.RowKit Go.Qm
set_option linter.unusedVariables false
set_option linter.unusedSimpArgs false
attribute [local go_sem ↓] Go.wp_at_zero Go.wp_at_succ
theorem copy_trunc {w : World} {g : Nat} {e : TypeId} {pre post : List Value} {m xs : List UInt8} (h : Win w g e pre m post) {v : Value} (hx : Bs w v xs) {o n : Nat} (ho : o = pre.length) (hn : n = m.length) (hl : n ≤ xs.length) {dCap : Nat} :
    ∃ W, (Builtin.copy_ #[26, 26] 3 #[.slice (some ⟨g, o, none⟩) n dCap, v]).run Tryz.prog w = .ok (.int .i64 n) W ∧ Win W g e pre (xs.take n) post ∧ w.grownBy W (some g) := by
  subst ho hn
  have hr := run_copy1 (P := Tryz.prog) (dT := 26) (sT := 26) (ty := 3) Tryz.underlying26 siz5 (dLen := m.length) (dCap := dCap) (o := pre.length) (cur := (pre ++ m.map cb ++ post).toArray) (ys := pre ++ m.map cb ++ post) h rfl hx (cb_one xs) (by simp; omega)
  have hmin : min (xs.map cb).length m.length = m.length := by simp; omega
  rw [hmin] at hr
  refine ⟨_, hr, ?_, grown_setRow (grown_refl _ _) _⟩
  have he : List.take pre.length (pre ++ m.map cb ++ post) ++ List.take m.length (xs.map cb) ++ List.drop (pre.length + m.length) (pre ++ m.map cb ++ post) = pre ++ (xs.take m.length).map cb ++ post := by
    have e1 : List.take pre.length (pre ++ m.map cb ++ post) = pre := by rw [List.append_assoc]; exact List.take_left
    have e3 : pre.length + m.length = (pre ++ m.map cb).length := by simp
    have e2 : List.drop (pre.length + m.length) (pre ++ m.map cb ++ post) = post := by rw [e3]; exact List.drop_left
    rw [e1, e2, List.map_take]
  rw [he]
  exact setRow_blk h _
/-- What Unwrap answers: the message in a fresh slice, the header. -/
def RUw (w : World) (n f c rrc sq : Nat) (msg : List UInt8) (x : Ending) (w' : World) : Prop := ∃ g, x = .returned (.tuple #[.slice (some ⟨g, 0, none⟩) n n, .agg #[.int .u16 1284, .int .u8 f, .int .u16 c, .int .u16 rrc, .int .u64 sq], .int .i64 0]) ∧ w.heap.size ≤ g ∧ Win w' g 5 [] msg [] ∧ Keep w w'
set_option maxRecDepth 4000 in
set_option maxHeartbeats 4000000 in
theorem unwrap_c {e : Int} (hS : srv e) (da : Option Addr) (ka : Option Addr) (kn kc us : Nat) (gt f rrc sq n N Bn c : Nat) (key msg hd : List UInt8) (w : World) (hc : c = cl e) (hc0 : 0 < c) (hBn : Bn = n + c) (hN : N = 16 + Bn) (hn0 : 0 < n) (hn : n ≤ 1048576) (hf : f < 256) (hf0 : f % 2 = 0) (hf2 : ¬ f / 2 % 2 = 1) (hr0 : 0 < rrc) (hrB : rrc < Bn) (hrr : rrc < 65536) (hsq : sq < 2 ^ 64) (hus : us < 4294967296)
    (hk : Bs w (.slice ka kn kc) key) (hkl : key.length = kl e) (hml : msg.length = n) (hhd : hd.length = 16) (hb : Bs w (.slice (some ⟨gt, 0, none⟩) N N) (hd ++ rtr (msg ++ mcF e (drvF e key us 153) (msg ++ enc 1284 f 0 0 sq)) rrc))
    (hp : parse (hd ++ rtr (msg ++ mcF e (drvF e key us 153) (msg ++ enc 1284 f 0 0 sq)) rrc) = (0, 1284, f, cl e, rrc, sq)) :
    Calls Tryz.prog 24 #[.slice da 0 0, .agg #[.int .i32 e, .slice ka kn kc], .agg #[.int .u32 us, .bool false], .slice (some ⟨gt, 0, none⟩) N N] w (RUw w n f c rrc sq msg) := by
  have hkn : kn = kl e := by
    obtain ⟨a, c, h1, -⟩ := hk.form
    simp only [Value.slice.injEq] at h1
    omega
  have hcl := cl_le e
  have PU : Hid (∀ Z, Keep w Z → Calls Tryz.prog 38 #[.agg #[.int .i32 e, .slice ka kn kc], .agg #[.int .u32 us, .bool false], .slice (some ⟨gt, 0, none⟩) N N] Z fun x w' => x = .returned (.tuple #[.agg #[.int .u16 1284, .int .u8 f, .int .u16 c, .int .u16 rrc, .int .u64 sq, .int .i64 n], .int .i64 0]) ∧ Keep Z w') := Hid.mk (fun Z kz => by rw [hc]; exact planUnwrap_ok hS ka kn kc us _ N _ f rrc sq n N Z hkn (hb.keep kz) hp hf hf0 hf2 hrr hn (by omega))
  have OP : Hid (∀ Z, Keep w Z → Calls Tryz.prog 39 #[.agg #[.int .u16 1284, .int .u8 f, .int .u16 c, .int .u16 rrc, .int .u64 sq, .int .i64 n], .agg #[.int .i32 e, .slice ka kn kc], .int .u32 us, .slice (some ⟨gt, 0, none⟩) N N] Z _) := Hid.mk (fun Z kz => open_c hS ka kn kc us gt f c rrc sq n N Bn c key msg hd Z hc hc0 hBn hN hn hf hf2 hr0 hrB hrr hsq hus (hk.keep kz) hkl hml hhd (hb.keep kz))
  have EX : Hid (∀ Z, Calls Tryz.prog 40 #[.slice da 0 0, .int .i64 n] Z fun e w' => ∃ g, e = .returned (.tuple #[.slice (some ⟨g, 0, none⟩) n n, .slice (some ⟨g, 0, none⟩) n n]) ∧ Z.heap.size ≤ g ∧ Win w' g 5 [] (List.replicate n 0) [] ∧ Keep Z w') := Hid.mk (fun Z => extend_c da n Z (by omega) hn0)
  have HML := Hid.mk hml
  have HN := Hid.mk hn
  clear hS hc hc0 hBn hN hn0 hn hf hf0 hf2 hr0 hrB hrr hsq hus hk hkl hml hhd hb hp hkn hcl
  obtain ⟨W, hW⟩ : ∃ W, W = ((w.alloc (.cells #[.int .i32 e, .slice ka kn kc] 43)).alloc (.cells #[.int .u32 us, .bool false] 53)).alloc (.cells #[.int .u16 0, .int .u8 0, .int .u16 0, .int .u16 0, .int .u64 0] 56) := ⟨_, rfl⟩
  have kW : Keep w W := by rw [hW]; exact (((Keep.refl w).alloc _).alloc _).alloc _
  have A3 : Arr W w.heap.size 43 [.int .i32 e, .slice ka kn kc] := by rw [hW]; exact (Arr.new w 43 _).keep (((Keep.refl _).alloc _).alloc _)
  have A4 : Arr W (w.heap.size + 1) 53 [.int .u32 us, .bool false] := by rw [hW]; exact (new2 w _ 53 _).keep ((Keep.refl _).alloc _)
  have A9 : Arr W (w.heap.size + 1 + 1) 56 zhd5 := by rw [hW]; exact new3 w _ _ 56 zhd5
  obtain ⟨g3, hg3⟩ : ∃ g3, g3 = w.heap.size := ⟨_, rfl⟩
  rw [← hg3] at A3 A4 A9
  have HG3 := Hid.mk hg3
  have HKW := Hid.mk kW
  have HALL : Hid (∀ Z, Keep W Z → Z.cell? ⟨g3, 0, none⟩ = some (.int .i32 e) ∧ Z.cell? ⟨g3, 1, none⟩ = some (.slice ka kn kc) ∧ Z.cell? ⟨g3 + 1, 0, none⟩ = some (.int .u32 us) ∧ Z.cell? ⟨g3 + 1, 1, none⟩ = some (.bool false)) := Hid.mk (fun Z kz => ⟨(A3.keep kz).cell 0, (A3.keep kz).cell 1, (A4.keep kz).cell 0, (A4.keep kz).cell 1⟩)
  have HA9 := Hid.mk A9
  obtain ⟨c0, c1, c2, c3⟩ := HALL.out W (Keep.refl _)
  clear A3 A4 A9 kW
  go_enter Tryz.func24, Tryz.ntmps24
  go_wp2_with fail
  rw [← hg3, ← hW]
  clear hg3 hW
  refine (PU.out W HKW.out).mono ?_
  rintro x w1 ⟨rfl, k1⟩
  have kA := (Keep.refl w1).alloc (.cells #[.int .u16 1284, .int .u8 f, .int .u16 c, .int .u16 rrc, .int .u64 sq, .int .i64 n] 77)
  have K1 := Hid.mk (k1.trans kA)
  have A11 := Hid.mk (Arr.new w1 77 [.int .u16 1284, .int .u8 f, .int .u16 c, .int .u16 rrc, .int .u64 sq, .int .i64 n])
  clear k1 kA c0 c1 c2 c3
  obtain ⟨c0, c1, c2, c3⟩ := HALL.out _ K1.out
  clear c3
  go_wp2_with fail
  generalize hWB : w1.alloc (.cells #[.int .u16 1284, .int .u8 f, .int .u16 c, .int .u16 rrc, .int .u64 sq, .int .i64 n] 77) = WB at *
  clear hWB
  have HP11 : Hid (W.heap.size ≤ w1.heap.size ∨ True) := Hid.mk (Or.inr trivial)
  clear HP11
  generalize hpp : w1.heap.size = p11 at *
  clear hpp
  refine (OP.out WB (HKW.out.trans K1.out)).mono ?_
  rintro x w2 ⟨gs, rfl, hgs, V2, k2⟩
  have K2 := Hid.mk (K1.out.trans k2)
  have A11b := Hid.mk (A11.out.keep k2)
  have HV2 := Hid.mk V2
  have hp11s : p11 ≠ gs := by have := A11.out.lt; omega
  have hWs : W.heap.size ≤ gs := Nat.le_trans K1.out.size hgs
  clear V2 k2 hgs c0 c1 c2 A11
  have AA := A11b.out
  have d5 := AA.cell 5
  simp only [List.getElem?_cons_zero, List.getElem?_cons_succ] at d5
  clear AA
  go_wp2_with fail
  refine (EX.out w2).mono ?_
  rintro x w3 ⟨gd, rfl, hgd, V3, k3⟩
  have K3 := Hid.mk (K2.out.trans k3)
  have A11c := Hid.mk (A11b.out.keep k3)
  have hgsd : gs ≠ gd := by have := HV2.out.lt; omega
  have HGD : Hid (w.heap.size ≤ gd) := Hid.mk (Nat.le_trans (HKW.out.trans K2.out).size hgd)
  have hp11d : p11 ≠ gd := by have := A11b.out.lt; omega
  have HSB : Hid (Bs w3 (.slice (some ⟨gs, 0, none⟩) (n + 16) (n + 16)) (msg ++ enc 1284 f 0 0 sq)) := Hid.mk (Win.bs (HV2.out.keep k3) (by rw [List.length_append, HML.out, enc_length]) (Nat.le_refl _) (by have := HN.out; unfold maxLen; omega))
  obtain ⟨W4, hcp, V4, gr4⟩ := copy_trunc V3 HSB.out (o := 0) (n := n) (dCap := n) rfl (by simp) (by rw [List.length_append, HML.out]; omega)
  rw [List.take_append_of_le_length (by rw [HML.out]; omega), List.take_of_length_le (by rw [HML.out]; omega)] at V4
  have HV4 := Hid.mk V4
  have hWd : W.heap.size ≤ gd := Nat.le_trans K2.out.size hgd
  have K4 := Hid.mk (K3.out.grown gr4 (fun k hk => by cases hk; exact hWd))
  have A11d := Hid.mk (A11c.out.kept gr4 hp11d)
  have VS4 := (HV2.out.keep k3).kept gr4 hgsd
  have C5 := Hid.mk (wipe_c gs (n + 16) (n + 16) (msg ++ enc 1284 f 0 0 sq) [] [] W4 (by rw [List.length_append, HML.out, enc_length]) (Nat.le_refl _) (by have := HN.out; unfold maxLen; omega) VS4)
  clear V3 k3 hgd V4 gr4 VS4 d5 A11b A11c HSB
  go_wp2_with fail
  refine C5.out.mono ?_
  rintro x W5 ⟨rfl, -, gr5⟩
  have HV5 := Hid.mk (HV4.out.kept gr5 hgsd.symm)
  have K5 := Hid.mk (K4.out.grown gr5 (fun k hk => by cases hk; exact hWs))
  have A11e := A11d.out.kept gr5 hp11s
  have d0 := A11e.cell 0
  have d1 := A11e.cell 1
  have d2 := A11e.cell 2
  have d3 := A11e.cell 3
  have d4 := A11e.cell 4
  simp only [List.getElem?_cons_zero, List.getElem?_cons_succ] at d0 d1 d2 d3 d4
  have A9 : Five W5 (g3 + 1 + 1) (.int .u16 0) (.int .u8 0) (.int .u16 0) (.int .u16 0) (.int .u64 0) := HA9.out.keep K5.out
  obtain ⟨f0, f1, f2, f3, f4⟩ := A9.cells
  obtain ⟨t0, t1, t2, t3, t4⟩ := A9.thaw
  have h9d : gd ≠ g3 + 1 + 1 := by have := HA9.out.lt; omega
  have HG9 : Hid (w.heap.size ≤ g3 + 1 + 1) := Hid.mk (by rw [HG3.out]; omega)
  clear gr5 C5 hp11s hWs hWd hgsd hp11d A11d A11e
  go_wp2_with fail
  go_region
  have HF : Hid (Win (((((W5.setCell ⟨g3 + 1 + 1, 0, none⟩ (.int .u16 1284)).setCell ⟨g3 + 1 + 1, 1, none⟩ (.int .u8 f)).setCell ⟨g3 + 1 + 1, 2, none⟩ (.int .u16 c)).setCell ⟨g3 + 1 + 1, 3, none⟩ (.int .u16 rrc)).setCell ⟨g3 + 1 + 1, 4, none⟩ (.int .u64 sq)) gd 5 [] msg []) := Hid.mk (HV5.out.kept (grown_set (grown_set (grown_set (grown_set (grown_set (grown_refl W5 (some (g3 + 1 + 1))) 0 (.int .u16 1284)) 1 (.int .u8 f)) 2 (.int .u16 c)) 3 (.int .u16 rrc)) 4 (.int .u64 sq)) h9d)
  have HKF := Hid.mk (Keep.set5 (HKW.out.trans K5.out) HG9.out (.int .u16 1284) (.int .u8 f) (.int .u16 c) (.int .u16 rrc) (.int .u64 sq))
  go_wp2
  refine bodyPost_ret (v := .tuple #[.slice (some ⟨gd, 0, none⟩) n n, .agg #[.int .u16 1284, .int .u8 f, .int .u16 c, .int .u16 rrc, .int .u64 sq], .int .i64 0]) (by simp [results, Tryz.results24, go_sem, f0, f1, f2, f3, f4]) rfl ⟨gd, rfl, HGD.out, ?_, ?_⟩
  · first
    | exact HF.out
    | exact HF.out.drew
  · first
    | exact HKF.out
    | exact HKF.out.drew
end Go.Proofs.Qxb6500771aGreat
