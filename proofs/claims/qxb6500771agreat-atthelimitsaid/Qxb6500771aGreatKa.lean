/- AtTheLimit: profilem.VerifyMIC, token.copyUnrotated, checkDirection, parseKind. -/
import Derived.Test.Qxb6500771aGreatIk
import Derived.Test.Qxb6500771aGreatIc
namespace Go.Proofs.Qxb6500771aGreat
open Go.RowKit Go.Qm
set_option linter.unusedVariables false
set_option linter.unusedSimpArgs false
attribute [local go_sem ↓] Go.wp_at_zero Go.wp_at_succ
set_option maxHeartbeats 1000000 in
theorem verifyP_c {e : Int} (h : srv e) (ka : Option Addr) (kn kc : Nat) (key : List UInt8) (us : Nat) (mv sv : Value) (msg sum : List UInt8) (w : World) (hk : Bs w (.slice ka kn kc) key) (hkl : key.length = kl e) (hus : us < 4294967296) (hm : Bs w mv msg) (hml : msg.length ≤ 1900000) (hs : Bs w sv sum) (he : sum = mcF e (drvF e key us 153) msg) :
    Calls Tryz.prog 57 #[.agg #[.int .i32 e, .slice ka kn kc], .int .u32 us, mv, sv] w fun x w' => x = .returned (.bool true) ∧ Keep w w' := by
  have kW := (Keep.refl w).alloc (.cells #[.int .i32 e, .slice ka kn kc] 43)
  have C1 := Hid.mk (getMIC_c h ka kn kc key us mv msg _ (hk.keep kW) hkl hus (hm.keep kW) hml)
  have HS := Hid.mk (hs.keep kW)
  have HE := Hid.mk he
  have HKW := Hid.mk kW
  clear hk hm hs he hkl kW
  go_enter Tryz.func57, Tryz.ntmps57
  go_wp2_with fail
  refine C1.out.mono ?_
  rintro x w1 ⟨v1, rfl, b1, k1⟩
  have C2 := Hid.mk (same_c sv v1 sum _ w1 (HS.out.keep k1) b1)
  have HK1 := Hid.mk (HKW.out.trans k1)
  clear b1 k1
  go_wp2_with fail
  refine C2.out.mono ?_
  rintro x w2 ⟨rfl, k2⟩
  have HK2 := Hid.mk (HK1.out.trans k2)
  clear k2
  rw [decide_eq_true HE.out]
  go_wp2_with fail
  go_ret
  exact ⟨rfl, HK2.out⟩
set_option maxHeartbeats 1000000 in
theorem copyUnrotated_c (g o n c gs os cs k : Nat) (pre post : List Value) (m l : List UInt8) (w : World) (ho : o = pre.length) (hn : n = m.length) (hl : l.length = n) (hnb : n ≤ 4000000) (hnc : n ≤ c) (hcm : c ≤ maxLen) (hg : Win w g 5 pre m post)
    (hs : Bs w (.slice (some ⟨gs, os, none⟩) n cs) l) (hne : gs ≠ g) (hk0 : 0 < k) (hk : k < n) :
    Calls Tryz.prog 53 #[.slice (some ⟨g, o, none⟩) n c, .slice (some ⟨gs, os, none⟩) n cs, .int .i64 k] w fun e w' => e = .returned (.tuple #[]) ∧ Win w' g 5 pre (l.drop k ++ l.take k) post ∧ w.grownBy w' (some g) := by
  have hncs : n ≤ cs ∧ cs ≤ maxLen := by
    obtain ⟨a, c', he, h1, h2, h3⟩ := hs.form
    simp only [Value.slice.injEq] at he
    obtain ⟨rfl, he, rfl⟩ := he
    omega
  unfold maxLen at hcm
  unfold maxLen at hncs
  obtain ⟨x1, x2⟩ := hncs
  have HR := Hid.mk (reduce_c k n w (by omega) (by omega) (by omega) (by omega))
  rw [show ((k : Int) % n) = (k : Int) from Int.emod_eq_of_lt (by omega) (by omega)] at HR
  have p1 : Bs w (.slice (some ⟨gs, os + k, none⟩) (n - k) (cs - k)) (l.drop k) := by
    have := Bs.part hs (i := k) (j := n) (by omega) (by omega) (some ⟨gs, os + k, none⟩) (fun _ => by simp [Addr.add]; omega)
    have e : (l.drop k).take (n - k) = l.drop k := List.take_of_length_le (by rw [List.length_drop]; omega)
    rw [e] at this
    exact this
  obtain ⟨W1, hcp, win1, gr1⟩ := copy_into (w := w) hg p1 (o := o) (k := 0) (n := n - k) (dLen := n) (dCap := c) (by rw [ho]; rfl) (by rw [List.length_drop]; omega) (by omega) (by omega)
  have hs1 : Bs W1.drew (.slice (some ⟨gs, os, none⟩) n cs) l := (hs.kept gr1 (by simpa [Value.ownBlock] using hne)).drew
  have p2 : Bs W1.drew (.slice (some ⟨gs, os, none⟩) k cs) (l.take k) := by
    have := Bs.part hs1 (i := 0) (j := k) (by omega) (by omega) (some ⟨gs, os, none⟩) (fun _ => by simp [Addr.add])
    simpa using this
  obtain ⟨nk, hnk⟩ : ∃ nk, nk = n - k := ⟨_, rfl⟩
  rw [← hnk] at hcp win1 p1
  obtain ⟨W2, hcp2, win2, gr2⟩ := copy_into (w := W1.drew) win1.drew p2 (o := o + nk) (k := nk) (n := k) (dLen := n - nk) (dCap := c - nk) (by rw [ho]) (by rw [List.length_take]; omega) (by rw [List.length_append, List.length_append, List.length_take, List.length_drop, List.length_drop]; omega) (by omega)
  have hfin : List.take nk (List.take 0 m ++ List.drop k l ++ List.drop (0 + nk) m) ++ List.take k l ++ List.drop (nk + k) (List.take 0 m ++ List.drop k l ++ List.drop (0 + nk) m) = l.drop k ++ l.take k := by
    have hd : (l.drop k).length = nk := by rw [List.length_drop]; omega
    have hz : List.drop (nk + k) (List.drop k l ++ List.drop (0 + nk) m) = [] := List.drop_eq_nil_of_le (by rw [List.length_append, List.length_drop, List.length_drop]; omega)
    rw [List.take_zero, List.nil_append, List.take_append_of_le_length (by omega), List.take_of_length_le (by omega), hz, List.append_nil]
  rw [hfin] at win2
  have q1 : ¬ cs = k := by omega
  have q1' : ¬ c = nk := by omega
  have q2 : (k : Int) ≤ n := by omega
  have q3 : (n : Int) ≤ c := by omega
  have q4 : (n : Int) ≤ cs := by omega
  have q5 : (k : Int) ≤ cs := by omega
  have q6 : (nk : Int) ≤ n := by omega
  have q7 : IntKind.i64.wrap ((n : Int) - k) = (nk : Int) := by rw [IntKind.wrap_i64]; omega
  have q8 : ((n : Int) == 0) = false := by simp; omega
  have q9 : (nk : Int) ≤ c := by omega
  have q10 : n - k = nk := hnk.symm
  have HW2 := Hid.mk win2
  have HGR := Hid.mk gr1
  have HG2 := Hid.mk gr2
  clear hg hs p1 p2 win1 win2 hs1 gr1 gr2 ho hl hn hne hnk hfin
  go_enter Tryz.func53, Tryz.ntmps53
  go_wp2_with fail
  refine HR.out.mono ?_
  rintro e w' ⟨rfl, rfl⟩
  clear HR
  go_wp2_with fail
  go_region
  go_wp2_with fail
  go_end0
  exact ⟨rfl, HW2.out, grown_trans HGR.out (grown_trans (grown_drew (grown_refl _ _)) HG2.out)⟩
theorem sentQ_c (f : Nat) (w : World) (hf : f < 256) (h0 : f % 2 = 0) :
    Calls Tryz.prog 32 #[.int .u8 f] w fun e w' => e = .returned (.bool false) ∧ w' = w := by
  have h : ∀ f : Fin 256, bits .and .u8 ((f.val : Nat) : Int) 1 = ((f.val % 2 : Nat) : Int) := by decide +kernel
  have h := h ⟨f, hf⟩
  simp only [h0] at h
  go_enter Tryz.func32, Tryz.ntmps32
  go_wp2
  go_ret
  exact ⟨rfl, rfl⟩
theorem checkDirection_ok (id f ec rrc sq us : Nat) (w : World) (hf : f < 256) (h0 : f % 2 = 0) :
    Calls Tryz.prog 51 #[.agg #[.int .u16 id, .int .u8 f, .int .u16 ec, .int .u16 rrc, .int .u64 sq], .agg #[.int .u32 us, .bool false]] w fun e w' => e = .returned (.int .i64 0) ∧ Keep w w' := by
  have HS := fun Z => sentQ_c f Z hf h0
  clear hf h0
  go_enter Tryz.func51, Tryz.ntmps51
  go_wp2_with fail
  go_quiet ((go_at_call 32; exact Calls.quiet_of_same (HS _)))
  go_wp2_with fail
  go_ret
  exact ⟨rfl, (((Keep.refl w).alloc _).alloc _).drewN _⟩
theorem siz56 : (Tryz.prog.info? 56).map (·.size) = some 5 := by kernel_rfl
def zhd5 : List Value := [.int .u16 0, .int .u8 0, .int .u16 0, .int .u16 0, .int .u64 0]
set_option maxHeartbeats 1000000 in
theorem parseKind_ok (v : Value) (l : List UInt8) (w : World) (h : Bs w v l) (id f ec rrc sq : Nat) (hp : parse l = (0, id, f, ec, rrc, sq)) :
    Calls Tryz.prog 50 #[v, .int .u16 id] w fun e w' => e = .returned (.tuple #[.agg #[.int .u16 id, .int .u8 f, .int .u16 ec, .int .u16 rrc, .int .u64 sq], .int .i64 0]) ∧ Keep w w' := by
  have K0 := (Keep.refl w).alloc (.cells #[.int .u16 0, .int .u8 0, .int .u16 0, .int .u16 0, .int .u64 0] 56)
  have A0 := Arr.new w 56 zhd5
  have C := parseHeader_c v l _ (h.keep K0)
  rw [hp] at C
  replace C := Hid.mk C
  have HK0 := Hid.mk K0
  clear h hp K0
  go_enter Tryz.func50, Tryz.ntmps50
  go_wp2_with fail
  refine C.out.mono ?_
  rintro x w1 ⟨rfl, k1⟩
  have kA := (Keep.refl w1).alloc (.cells #[.int .u16 id, .int .u8 f, .int .u16 ec, .int .u16 rrc, .int .u64 sq] 56)
  have A1 := (A0.keep k1).keep kA
  have HK1 := Hid.mk ((HK0.out.trans k1).trans kA)
  have yy : ((id : Int) != (id : Int)) = false := by simp
  clear k1 kA
  go_wp2_with (refine wpList_store_rowN (by rfl) 56 (.tmp 4) (.tmp 22) (by rfl) (w.heap.size) [.int .u16 id, .int .u8 f, .int .u16 ec, .int .u16 rrc, .int .u64 sq].toArray (by rfl) (by rfl) 5 56 _ A1 siz56 (by rfl) (by rfl) (by simp [Value.oneCell']) ?_)
  have AR := A1.row [.int .u16 id, .int .u8 f, .int .u16 ec, .int .u16 rrc, .int .u64 sq]
  have r0 := AR.cell 0
  have r1 := AR.cell 1
  have r2 := AR.cell 2
  have r3 := AR.cell 3
  have r4 := AR.cell 4
  simp only [List.getElem?_cons_zero, List.getElem?_cons_succ] at r0 r1 r2 r3 r4
  refine bodyPost_ret (v := .tuple #[.agg #[.int .u16 id, .int .u8 f, .int .u16 ec, .int .u16 rrc, .int .u64 sq], .int .i64 0]) (by simp [results, Tryz.results50, go_sem, r0, r1, r2, r3, r4]) rfl ⟨rfl, HK1.out.setRow (by omega) _⟩
end Go.Proofs.Qxb6500771aGreat
