/- token.gather, copyRotated, writeToken. -/
import Derived.Test.Qxb6500771aGreatIb
import Derived.Test.Qxb6500771aGreatGd
namespace Go.Proofs.Qxb6500771aGreat
open Go.RowKit Go.Qm
set_option linter.unusedVariables false
set_option linter.unusedSimpArgs false
attribute [local go_sem ↓] Go.wp_at_zero Go.wp_at_succ
set_option maxHeartbeats 1000000 in
theorem gather_c (g o n c gp : Nat) (ma : Option Addr) (mn mc : Nat) (pre post : List Value) (m msg : List UInt8) (w : World) (ho : o = pre.length) (hn : n = m.length) (h0 : 0 < n) (hnb : n ≤ 4000000) (hnc : n ≤ c) (hcm : c ≤ maxLen) (hg : Win w g 5 pre m post)
    (hp : w.cell? ⟨gp, 0, none⟩ = some (.slice ma mn mc)) (hm : Bs w (.slice ma mn mc) msg) (hml : msg.length = mn) (hmn : mn ≤ n) :
    Calls Tryz.prog 67 #[.slice (some ⟨g, o, none⟩) n c, .slice (some ⟨gp, 0, none⟩) 1 1] w fun e w' => e = .returned (.int .i64 mn) ∧ Win w' g 5 pre (msg ++ m.drop mn) post ∧ w.grownBy w' (some g) := by
  unfold maxLen at hcm
  have q1 : ¬ c = 0 := by omega
  have q3 : (0 : Int) ≤ n := by omega
  have q4 : (n : Int) ≤ c := by omega
  have q5 : (mn : Int) ≤ 4000000 := by omega
  obtain ⟨W1, hcp, win1, gr1⟩ := copy_into (w := w.drew) hg hm (o := o) (k := 0) (n := mn) (dLen := n) (dCap := c) (by rw [ho]; rfl) hml.symm (by omega) hmn
  have HW := Hid.mk win1
  have HG := Hid.mk gr1
  have HL := Hid.mk hml
  have hpd : w.drew.cell? ⟨gp, 0, none⟩ = some (.slice ma mn mc) := hp
  clear hml hn ho hg hm win1 gr1 h0 hnb hmn
  go_enter Tryz.func67, Tryz.ntmps67
  go_wp2_with fail
  go_loopw [5, 9] (fun nv iv wr => (iv = .int .i64 0 ∧ nv = .int .i64 0 ∧ wr = w) ∨ (iv = .int .i64 1 ∧ nv = .int .i64 mn ∧ Win wr g 5 pre (msg ++ m.drop mn) post ∧ w.grownBy wr (some g))) (fun _ iv _ => 1 - (intOf iv).toNat)
  case atStart => exact Or.inl ⟨rfl, rfl, rfl⟩
  case round =>
    obtain ⟨rfl, rfl, rfl⟩ | ⟨rfl, rfl, hwin, hgr⟩ := hrel
    · go_wp2_with fail
      go_region
      all_goals
        go_wp2_with fail
        go_roundw
        case rel =>
          refine Or.inr ⟨rfl, rfl, ?_, grown_trans (grown_drew (grown_refl _ _)) HG.out⟩
          have := HW.out
          simpa using this
        case measure => simp [intOf]
    · go_wp2_with fail
      go_ret
      exact ⟨rfl, hwin, hgr⟩

def rtr (l : List UInt8) (s : Nat) : List UInt8 := l.drop (l.length - s) ++ l.take (l.length - s)
theorem rtr_length (l : List UInt8) (s : Nat) : (rtr l s).length = l.length := by simp [rtr]
theorem rtr_eq {m l : List UInt8} {n s : Nat} (hm : n = m.length) (hl : l.length = n) (hs : s ≤ n) : (m.take s ++ l.take (n - s) ++ m.drop (s + (n - s))).take 0 ++ l.drop (n - s) ++ (m.take s ++ l.take (n - s) ++ m.drop (s + (n - s))).drop (0 + s) = rtr l s := by
  have h1 : m.drop (s + (n - s)) = [] := List.drop_eq_nil_of_le (by omega)
  have h2 : (m.take s).length = s := by rw [List.length_take]; omega
  have h3 : (m.take s).drop s = [] := List.drop_eq_nil_of_le (by omega)
  rw [h1, List.append_nil, List.take_zero, List.nil_append, Nat.zero_add, List.drop_append, h3, List.nil_append, h2, Nat.sub_self, List.drop_zero]
  simp [rtr, hl]
theorem rtr_eq0 {m l : List UInt8} {n : Nat} (hm : n = m.length) (hl : l.length = n) : (m.take 0 ++ l.take n ++ m.drop (0 + n)).take 0 ++ [] ++ (m.take 0 ++ l.take n ++ m.drop (0 + n)).drop (0 + 0) = rtr l 0 := by
  have := rtr_eq hm hl (Nat.zero_le n)
  simp only [Nat.sub_zero] at this
  have h3 : l.drop n = [] := List.drop_eq_nil_of_le (by omega)
  rw [← this, h3]
set_option maxHeartbeats 1000000 in
theorem copyRotated_c (g o n c gs os cs k : Nat) (pre post : List Value) (m l : List UInt8) (w : World) (ho : o = pre.length) (hn : n = m.length) (hl : l.length = n) (h0 : 0 < n) (hnb : n ≤ 4000000) (hnc : n ≤ c) (hcm : c ≤ maxLen) (hg : Win w g 5 pre m post)
    (hs : Bs w (.slice (some ⟨gs, os, none⟩) n cs) l) (hne : gs ≠ g) (hk : k < 65536) :
    Calls Tryz.prog 81 #[.slice (some ⟨g, o, none⟩) n c, .slice (some ⟨gs, os, none⟩) n cs, .int .i64 k] w fun e w' => e = .returned (.tuple #[]) ∧ Win w' g 5 pre (rtr l (k % n)) post ∧ w.grownBy w' (some g) := by
  have hncs : n ≤ cs ∧ cs ≤ maxLen := by
    obtain ⟨a, c', he, h1, h2, h3⟩ := hs.form
    simp only [Value.slice.injEq] at he
    obtain ⟨rfl, he, rfl⟩ := he
    omega
  unfold maxLen at hcm
  unfold maxLen at hncs
  obtain ⟨x1, x2⟩ := hncs
  have hmod : k % n < n := Nat.mod_lt _ h0
  have q0 : ((k : Int) % n) = ((k % n : Nat) : Int) := by omega
  have HR := Hid.mk (reduce_c k n w (by omega) (by omega) (by omega) (by omega))
  rw [q0] at HR
  have HSM : Hid ((k % n) = (k % n)) := Hid.mk rfl
  generalize k % n = s at hmod HR
  clear q0 HSM
  have hlt : 0 < n - s := by omega
  have p1 : Bs w (.slice (some ⟨gs, os, none⟩) (n - s) cs) (l.take (n - s)) := by
    have := Bs.part hs (i := 0) (j := n - s) (by omega) (by omega) (some ⟨gs, os, none⟩) (fun _ => by simp [Addr.add])
    simpa using this
  obtain ⟨W1, hcp, win1, gr1⟩ := copy_into (w := w.drew) hg p1 (o := o + s) (k := s) (n := n - s) (dLen := n - s) (dCap := c - s) (by rw [ho]) (by rw [List.length_take]; omega) (by omega) (by omega)
  have hs1 : Bs W1.drew (.slice (some ⟨gs, os, none⟩) n cs) l := (hs.drew.kept gr1 (by simpa [Value.ownBlock] using hne)).drew
  have q1 : ¬ c = s := by omega
  have q2 : (s : Int) ≤ n := by omega
  have q3 : (n : Int) ≤ c := by omega
  have q4 : (n : Int) ≤ cs := by omega
  have q5 : ((n : Int) - s) = ((n - s : Nat) : Int) := by omega
  have q6 : ((n - s : Nat) : Int) ≤ n := by omega
  have q7 : IntKind.i64.wrap ((n : Int) - s) = ((n - s : Nat) : Int) := by rw [q5, IntKind.wrap_i64] <;> omega
  have q8 : ((n : Int) == 0) = false := by simp; omega
  have HG := Hid.mk hg
  have HW := Hid.mk win1
  have H1 := Hid.mk hs1
  have HGR := Hid.mk gr1
  have HO := Hid.mk ho
  have HL := Hid.mk hl
  have HN := Hid.mk hn
  clear hg hs p1 win1 hs1 gr1 ho hl hn hne
  go_enter Tryz.func81, Tryz.ntmps81
  go_wp2_with fail
  refine HR.out.mono ?_
  rintro e w' ⟨rfl, rfl⟩
  clear HR
  go_wp2_with fail
  go_region
  clear hcp
  by_cases hs0 : s = 0
  · subst hs0
    obtain ⟨W2, hcp2, win2, gr2⟩ := copy_into (w := W1.drew) HW.out (Bs.nil (w := W1.drew) (if cs = n then some ⟨gs, os, none⟩ else some ⟨gs, os + n, none⟩) (cs - n) (by unfold maxLen; omega)) (o := o) (k := 0) (n := 0) (dLen := 0) (dCap := c) (by rw [HO.out]; rfl) rfl (by omega) (by omega)
    have z1 : ((0 : Nat) : Int) ≤ c := by omega
    have HW2 := Hid.mk win2
    have HG2 := Hid.mk gr2
    clear win2 gr2
    simp only [Nat.sub_zero] at *
    by_cases hcs : cs = n
    · rw [if_pos hcs] at hcp2
      subst hcs
      simp only [Nat.sub_self] at hcp2
      go_wp2_with fail
      go_region
      go_wp2_with fail
      go_end0
      refine ⟨rfl, ?_, ?_⟩
      · refine HW2.out.cut (congrArg (fun q => pre ++ List.map cb q ++ post) ?_)
        exact rtr_eq0 HN.out HL.out
      · exact grown_trans (grown_trans (grown_drew (grown_refl _ _)) HGR.out) (grown_trans (grown_drew (grown_refl _ _)) HG2.out)
    · rw [if_neg hcs] at hcp2
      go_wp2_with fail
      go_region
      go_wp2_with fail
      go_end0
      refine ⟨rfl, ?_, ?_⟩
      · refine HW2.out.cut (congrArg (fun q => pre ++ List.map cb q ++ post) ?_)
        exact rtr_eq0 HN.out HL.out
      · exact grown_trans (grown_trans (grown_drew (grown_refl _ _)) HGR.out) (grown_trans (grown_drew (grown_refl _ _)) HG2.out)
  · have r1 : ¬ cs = n - s := by omega
    have e1 : n - (n - s) = s := by omega
    have p2 : Bs W1.drew (.slice (some ⟨gs, os + (n - s), none⟩) (n - (n - s)) (cs - (n - s))) (l.drop (n - s)) := by
      have := Bs.part H1.out (i := n - s) (j := n) (by omega) (by omega) (some ⟨gs, os + (n - s), none⟩) (fun _ => by simp [Addr.add]; omega)
      have e : (l.drop (n - s)).take (n - (n - s)) = l.drop (n - s) := List.take_of_length_le (by rw [List.length_drop, HL.out]; omega)
      rw [e] at this
      exact this
    obtain ⟨W2, hcp2, win2, gr2⟩ := copy_into (w := W1.drew) HW.out p2 (o := o) (k := 0) (n := s) (dLen := s) (dCap := c) (by rw [HO.out]; rfl) (by rw [List.length_drop, HL.out]; omega) (by have := HL.out; have := HN.out; rw [List.length_append, List.length_append, List.length_take, List.length_take]; omega) (by omega)
    have HW2 := Hid.mk win2
    have HG2 := Hid.mk gr2
    have z1 : (s : Int) ≤ c := by omega
    clear win2 gr2 p2 e1
    go_wp2_with fail
    go_region
    go_wp2_with fail
    go_end0
    refine ⟨rfl, ?_, ?_⟩
    · refine HW2.out.cut (congrArg (fun q => pre ++ List.map cb q ++ post) ?_)
      exact rtr_eq HN.out HL.out (Nat.le_of_lt hmod)
    · exact grown_trans (grown_trans (grown_drew (grown_refl _ _)) HGR.out) (grown_trans (grown_drew (grown_refl _ _)) HG2.out)

theorem win_tk {w : World} {g : Nat} {e : TypeId} {pre post : List Value} {m : List UInt8} (h : Win w g e pre m post) (k : Nat) : Win w g e pre (m.take k) ((m.drop k).map cb ++ post) :=
  h.cut (by
    have := congrArg (List.map cb) (List.take_append_drop k m).symm
    rw [this, List.map_append]
    simp only [List.append_assoc])
theorem win_dk {w : World} {g : Nat} {e : TypeId} {pre post : List Value} {m : List UInt8} (h : Win w g e pre m post) (k : Nat) : Win w g e (pre ++ (m.take k).map cb) (m.drop k) post :=
  h.cut (by
    have := congrArg (List.map cb) (List.take_append_drop k m).symm
    rw [this, List.map_append]
    simp only [List.append_assoc])
set_option maxHeartbeats 1000000 in
theorem writeToken_c (g n N c gs os cs id f ec rrc sq : Nat) (m l : List UInt8) (post : List Value) (w : World) (hN : N = m.length) (hn : N = 16 + n) (hl : l.length = n) (h0 : 0 < n) (hnb : n ≤ 3000000) (hnc : N ≤ c) (hcm : c ≤ maxLen) (hg : Win w g 5 [] m post)
    (hs : Bs w (.slice (some ⟨gs, os, none⟩) n cs) l) (hne : gs ≠ g) (hid : id = 1284 ∨ id = 1028) (hf : f < 256) (hec : ec < 65536) (hrrc : rrc < 65536) (hsq : sq < 2 ^ 64) :
    Calls Tryz.prog 69 #[.slice (some ⟨g, 0, none⟩) N c, .agg #[.int .u16 id, .int .u8 f, .int .u16 ec, .int .u16 rrc, .int .u64 sq], .slice (some ⟨gs, os, none⟩) n cs] w fun e w' =>
      e = .returned (.tuple #[]) ∧ Win w' g 5 [] (enc id f ec rrc sq ++ rtr l (rrc % n)) post ∧ w.grownBy w' (some g) := by
  have hm16 : m = m.take 16 ++ m.drop 16 := (List.take_append_drop 16 m).symm
  have h16 : (m.take 16).length = 16 := by rw [List.length_take]; omega
  obtain ⟨W, hW⟩ : ∃ W, W = w.alloc (.cells #[.int .u16 id, .int .u8 f, .int .u16 ec, .int .u16 rrc, .int .u64 sq] 56) := ⟨_, rfl⟩
  have kW : Keep w W := by rw [hW]; exact (Keep.refl w).alloc _
  have B0 : Five W w.heap.size (.int .u16 id) (.int .u8 f) (.int .u16 ec) (.int .u16 rrc) (.int .u64 sq) := by rw [hW]; exact Five.new _ _ _ _ _ _
  obtain ⟨g5, hg5⟩ : ∃ g5, g5 = w.heap.size := ⟨_, rfl⟩
  rw [← hg5] at B0
  have gne : g5 ≠ g := by have := hg.lt; omega
  have gW := hg.keep kW
  have hw1 : Win W g 5 [] (m.take 16) ((m.drop 16).map cb ++ post) := win_tk gW 16
  unfold maxLen at hcm
  have c1 : (16 : Int) ≤ c := by omega
  have c2 : (16 : Int) ≤ N := by omega
  have c3 : ¬ c = 16 := by omega
  have c4 : 16 ≤ c := by omega
  have HW1 := Hid.mk hw1
  have HS := Hid.mk (hs.keep kW)
  have HB := Hid.mk B0
  have HKW := Hid.mk kW
  have HL := Hid.mk hl
  have HN := Hid.mk hN
  have Hn := Hid.mk hn
  obtain ⟨b0, b1, b2, b3, b4⟩ := B0.cells
  have C1 := Hid.mk (writeHeader_c g 0 c [] ((m.drop 16).map cb ++ post) (m.take 16) id f ec rrc sq W.drew rfl h16 (by omega) (by unfold maxLen; omega) hid hf hec hrrc hsq hw1)
  clear hN hn hl hg gW hw1 hs kW hm16 h16 hec hsq hid hf
  go_enter Tryz.func69, Tryz.ntmps69
  go_wp2_with fail
  rw [← hg5, ← hW]
  clear hg5 hW
  go_upto_region 1 with fail
  go_region_with (go_at_call 62; refine C1.out.mono ?_; rintro e w1 ⟨rfl, win1, gr1⟩)
  have G1 := grown_trans (grown_trans (keep_grown HKW.out _) (grown_drew (grown_refl _ _))) gr1
  have B1 := HB.out.drew.kept gr1 gne
  have S1 := HS.out.drew.kept gr1 (by simpa [Value.ownBlock] using hne)
  have HG1 := Hid.mk G1
  obtain ⟨d0, d1, d2, d3, d4⟩ := B1.cells
  have win2 : Win w1 g 5 ((enc id f ec rrc sq).map cb) (m.drop 16) post := win1.cut (by simp)
  have hN2 : N - 16 = n := by have := Hn.out; omega
  have C2 := Hid.mk (copyRotated_c g 16 n (c - 16) gs os cs rrc ((enc id f ec rrc sq).map cb) post (m.drop 16) l w1.drew (by rw [List.length_map, enc_length]) (by have := Hn.out; have := HN.out; rw [List.length_drop]; omega) HL.out h0 (by omega) (by have := Hn.out; omega) (by unfold maxLen; omega) win2 S1 hne hrrc)
  have hr5 : IntKind.i64.wrap (rrc : Int) = rrc := by rw [IntKind.wrap_i64]; omega
  clear b0 b1 b2 b3 b4 win1 win2 gr1 B0 S1 G1
  go_wp2_with fail
  go_region_with (go_at_call 81; refine C2.out.mono ?_; rintro e w2 ⟨rfl, win3, gr3⟩)
  have HW3 := Hid.mk (win3.cut (pre' := []) (m' := enc id f ec rrc sq ++ rtr l (rrc % n)) (post' := post) (by simp))
  have HG3 := Hid.mk (grown_trans (grown_trans HG1.out (grown_drew (grown_refl _ _))) gr3)
  clear win3 gr3 d0 d1 d2 d3 d4
  go_wp2_with fail
  go_end0
  exact ⟨rfl, HW3.out, HG3.out⟩
end Go.Proofs.Qxb6500771aGreat
