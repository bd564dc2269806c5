/- AtTheLimit: token.open of an unsealed token. -/
import Derived.Test.Qxb6500771aGreatKd
namespace Go.Proofs.Qxb6500771aGreat
open Go.RowKit Go.Qm
set_option linter.unusedVariables false
set_option linter.unusedSimpArgs false
attribute [local go_sem ↓] Go.wp_at_zero Go.wp_at_succ
theorem rtl_rtr (l : List UInt8) (s : Nat) (hs : s ≤ l.length) : (rtr l s).drop s ++ (rtr l s).take s = l := by
  have h1 : (l.drop (l.length - s)).length = s := by rw [List.length_drop]; omega
  unfold rtr
  rw [List.drop_append_of_le_length (by omega), List.drop_eq_nil_of_le (by omega), List.nil_append, List.take_append_of_le_length (by omega), List.take_of_length_le (l := l.drop (l.length - s)) (by omega), List.take_append_drop]
set_option maxRecDepth 4000 in
set_option maxHeartbeats 4000000 in
theorem open_c {e : Int} (hS : srv e) (ka : Option Addr) (kn kc us : Nat) (gt f ec rrc sq n N Bn c : Nat) (key msg hd : List UInt8) (w : World) (hc : c = cl e) (hc0 : 0 < c) (hBn : Bn = n + c) (hN : N = 16 + Bn) (hn : n ≤ 1048576) (hf : f < 256) (hf2 : ¬ f / 2 % 2 = 1) (hr0 : 0 < rrc) (hrB : rrc < Bn) (hrr : rrc < 65536) (hsq : sq < 2 ^ 64) (hus : us < 4294967296)
    (hk : Bs w (.slice ka kn kc) key) (hkl : key.length = kl e) (hml : msg.length = n) (hhd : hd.length = 16) (hb : Bs w (.slice (some ⟨gt, 0, none⟩) N N) (hd ++ rtr (msg ++ mcF e (drvF e key us 153) (msg ++ enc 1284 f 0 0 sq)) rrc)) :
    Calls Tryz.prog 39 #[.agg #[.int .u16 1284, .int .u8 f, .int .u16 ec, .int .u16 rrc, .int .u64 sq, .int .i64 n], .agg #[.int .i32 e, .slice ka kn kc], .int .u32 us, .slice (some ⟨gt, 0, none⟩) N N] w fun x w' =>
      ∃ g, x = .returned (.tuple #[.slice (some ⟨g, 0, none⟩) (n + 16) (n + 16), .int .i64 0]) ∧ w.heap.size ≤ g ∧ Win w' g 5 [] (msg ++ enc 1284 f 0 0 sq) [] ∧ Keep w w' := by
  have hcl := cl_le e
  have hsl := mcF_length hS (drvF e key us 153) (msg ++ enc 1284 f 0 0 sq) (drv_key hS key us 153 hkl).2.1
  have OU : Hid (∀ Z gb, Keep w Z → Bs Z (.slice (some ⟨gb, 0, none⟩) Bn Bn) (msg ++ mcF e (drvF e key us 153) (msg ++ enc 1284 f 0 0 sq)) → _) := Hid.mk (fun Z gb kz hbz => openUnsealed_c hS ka kn kc us gb f ec rrc sq n Bn c key msg Z hc hc0 hBn hn hf hsq hus (hk.keep kz) hkl hml hbz)
  obtain ⟨L, hL⟩ : ∃ L, L = msg ++ mcF e (drvF e key us 153) (msg ++ enc 1284 f 0 0 sq) := ⟨_, rfl⟩
  have hLl : L.length = Bn := by rw [hL, List.length_append, hsl]; omega
  rw [← hL] at OU hb
  have SLC : Hid (∀ Z, Calls Tryz.prog 8 #[.int .u8 f] Z fun x w' => x = .returned (.bool false) ∧ Keep Z w') := Hid.mk (fun Z => by
    have := sealed_c f Z hf
    rw [decide_eq_false hf2] at this
    exact this)
  have b1 : Bs w (.slice (some ⟨gt, 16, none⟩) Bn Bn) (rtr L rrc) := by
    have := Bs.part hb (i := 16) (j := N) (by omega) (by omega) (some ⟨gt, 16, none⟩) (fun _ => by simp [Addr.add])
    rw [List.drop_append_of_le_length (by omega), List.drop_eq_nil_of_le (by omega), List.nil_append, List.take_of_length_le (by rw [rtr_length]; omega), show N - 16 = Bn by omega] at this
    exact this
  obtain ⟨W, hW⟩ : ∃ W, W = (w.alloc (.cells #[.int .u16 1284, .int .u8 f, .int .u16 ec, .int .u16 rrc, .int .u64 sq, .int .i64 n] 77)).alloc (.cells #[.int .i32 e, .slice ka kn kc] 43) := ⟨_, rfl⟩
  have kW : Keep w W := by rw [hW]; exact ((Keep.refl w).alloc _).alloc _
  have A4 : Arr W w.heap.size 77 [.int .u16 1284, .int .u8 f, .int .u16 ec, .int .u16 rrc, .int .u64 sq, .int .i64 n] := by rw [hW]; exact (Arr.new w 77 _).keep ((Keep.refl _).alloc _)
  have A5 : Arr W (w.heap.size + 1) 43 [.int .i32 e, .slice ka kn kc] := by rw [hW]; exact new2 w _ 43 _
  have hWs : W.heap.size = w.heap.size + 1 + 1 := by rw [hW, World.size_alloc, World.size_alloc]
  have hmk := run_make1 (P := Tryz.prog) Tryz.underlying26 inf5 rfl (Bn : Int) (Bn : Int) (by omega) (by omega) (by omega) (by omega) W
  simp only [Int.toNat_natCast] at hmk
  obtain ⟨W2, hW2⟩ : ∃ W2, W2 = W.alloc (.cells (rep Bn (.int .u8 0)) 5) := ⟨_, rfl⟩
  have k2 : Keep W W2 := by rw [hW2]; exact (Keep.refl W).alloc _
  have V2 : Win W2 W.heap.size 5 [] (List.replicate Bn 0) [] := by
    show W2.heap[W.heap.size]? = _
    rw [hW2, heap_alloc_new, rep_cb]; simp
  rw [← hW2, hWs] at hmk
  rw [hWs] at V2
  have hgtw : gt < w.heap.size := by
    obtain ⟨a0, c0, he, -, -, h5⟩ := b1.form
    have h6 := h5 0 (by rw [rtr_length]; omega)
    obtain ⟨b, o, ha, h7⟩ := h6
    simp only [Value.slice.injEq] at he
    obtain ⟨rfl, -, -⟩ := he
    simp only [Option.some.injEq, Addr.mk.injEq] at ha
    have := World.block_lt_of_cell? w _ h7
    simp only at this
    omega
  have C3 := Hid.mk (copyUnrotated_c (w.heap.size + 1 + 1) 0 Bn Bn gt 16 Bn rrc [] [] (List.replicate Bn 0) (rtr L rrc) W2.drew rfl (by simp) (by rw [rtr_length]; exact hLl) (by omega) (Nat.le_refl _) (by unfold maxLen; omega) V2 (b1.keep ((kW.trans k2).drew)) (by omega) hr0 hrB)
  rw [rtl_rtr L rrc (by omega)] at C3
  have HALL : Hid (∀ Z, Keep W Z → Z.cell? ⟨w.heap.size, 0, none⟩ = some (.int .u16 1284) ∧ Z.cell? ⟨w.heap.size, 1, none⟩ = some (.int .u8 f) ∧ Z.cell? ⟨w.heap.size, 2, none⟩ = some (.int .u16 ec) ∧ Z.cell? ⟨w.heap.size, 3, none⟩ = some (.int .u16 rrc) ∧ Z.cell? ⟨w.heap.size, 4, none⟩ = some (.int .u64 sq) ∧ Z.cell? ⟨w.heap.size, 5, none⟩ = some (.int .i64 n) ∧ Z.cell? ⟨w.heap.size + 1, 0, none⟩ = some (.int .i32 e) ∧ Z.cell? ⟨w.heap.size + 1, 1, none⟩ = some (.slice ka kn kc)) := Hid.mk (fun Z kz => ⟨(A4.keep kz).cell 0, (A4.keep kz).cell 1, (A4.keep kz).cell 2, (A4.keep kz).cell 3, (A4.keep kz).cell 4, (A4.keep kz).cell 5, (A5.keep kz).cell 0, (A5.keep kz).cell 1⟩)
  have x1 : IntKind.i64.wrap ((N : Int) - 16) = (Bn : Int) := by rw [IntKind.wrap_i64]; omega
  have x2 : ¬ N = 16 := by omega
  have x3 : N - 16 = Bn := by omega
  have x4 : (16 : Int) ≤ N := by omega
  have x5 : IntKind.i64.wrap (rrc : Int) = (rrc : Int) := by rw [IntKind.wrap_i64]; omega
  have HKW := Hid.mk kW
  have HLL := Hid.mk hLl
  have HLB : Hid (W.heap.size ≤ w.heap.size + 1 + 1) := Hid.mk (by omega)
  have HNB : Hid (Bn ≤ 2000000) := Hid.mk (by omega)
  have HK2 := Hid.mk k2
  have HS2 : Hid (∀ Z, Keep W Z → Z.cell? ⟨w.heap.size, 3, none⟩ = some (.int .u16 rrc)) := Hid.mk (fun Z kz => (HALL.out Z kz).2.2.2.1)
  have q3 := HS2.out W2 k2
  have Q0 : Keep W W2.drew := k2.drew
  clear b1 hb hsl hk hkl hml kW A4 A5 hcl hBn hc hn k2 V2 hsq hS hWs hW2 hgtw hN hLl hL hhd hrB hr0
  rw [hW] at hmk
  go_enter Tryz.func39, Tryz.ntmps39
  go_upto_region 2 with fail
  clear hmk hW
  go_region_held3 (fun Z => Z.cell? ⟨w.heap.size, 3, none⟩ = some (.int .u16 rrc))
    ((refine HS2.out _ ?_; first | (with_reducible exact Q1) | (with_reducible exact Q0)))
    (first
    | (go_at_call 53; refine C3.out.mono ?_; rintro x W3 ⟨rfl, V3, gr3⟩; have Q1 : Keep W W3 := Q0.grown gr3 (fun k hk => by cases hk; exact HLB.out)))
  rename_i hHd
  have HV3 := Hid.mk V3
  have HK3 := Hid.mk Q1
  clear hHd V3 gr3 Q0 Q1 q3 C3
  obtain ⟨q0, q1, q2, q3, q4, q5, q6, q7⟩ := HALL.out W3 HK3.out
  clear q0 q2 q3 q4 q5 q6 q7
  go_wp2_with fail
  refine (SLC.out W3).mono ?_
  rintro x W4 ⟨rfl, k4⟩
  have HV4 := Hid.mk (HV3.out.keep k4)
  have HK4 := Hid.mk (HK3.out.trans k4)
  clear k4 q1
  obtain ⟨q0, q1, q2, q3, q4, q5, q6, q7⟩ := HALL.out W4 HK4.out
  have C5 := Hid.mk (OU.out W4 (w.heap.size + 1 + 1) (HKW.out.trans HK4.out) (Win.bs HV4.out HLL.out.symm (Nat.le_refl _) (by have := HNB.out; unfold maxLen; omega)))
  go_wp2_with fail
  refine C5.out.mono ?_
  rintro x W5 ⟨g, rfl, hg, V5, k5⟩
  have hgl : g ≠ w.heap.size + 1 + 1 := by have := HV4.out.lt; omega
  have HG : Hid (w.heap.size ≤ g) := Hid.mk (Nat.le_trans (HKW.out.trans HK4.out).size hg)
  have HV5 := Hid.mk V5
  have HK5 := Hid.mk (HKW.out.trans (HK4.out.trans k5))
  have C6 := Hid.mk (wipe_c (w.heap.size + 1 + 1) Bn Bn L [] [] W5 HLL.out.symm (Nat.le_refl _) (by have := HNB.out; unfold maxLen; omega) (HV4.out.keep k5))
  clear q0 q1 q2 q3 q4 q5 q6 q7 C5 V5 k5 hg
  go_wp2_with fail
  refine C6.out.mono ?_
  rintro x W6 ⟨rfl, -, gr6⟩
  have HV6 := Hid.mk (HV5.out.kept gr6 hgl)
  have HK6 := Hid.mk (HK5.out.grown gr6 (fun k hk => by cases hk; omega))
  clear gr6 C6
  go_wp2_with fail
  go_ret2
  exact ⟨g, rfl, HG.out, HV6.out, HK6.out⟩
end Go.Proofs.Qxb6500771aGreat
