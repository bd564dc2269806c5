/- cipherm: Encrypt and Decrypt for every cipher. -/
import Derived.Test.Qxb6500769aEl
import Derived.Test.Qxb6500769aDb
import Derived.Test.Qxb6500769aDj
import Derived.Test.Qxb6500769aDk
namespace Go.Proofs.Qxb6500769a
open Go.RowKit Go.Qm
set_option linter.unusedVariables false
set_option linter.unusedSimpArgs false
attribute [local go_sem ↓] Go.wp_at_zero Go.wp_at_succ

/-- Function n of the cipher is f on blocks of b octets. -/
def Cip (n b : Nat) (al : Int) (kv : Value) (key : List UInt8) (f : List UInt8 → List UInt8) : Prop :=
  (∀ l, l.length = b → (f l).length = b) ∧ ∀ W bv blk, Bs W kv key → Bs W bv blk → blk.length = b →
    Calls Try.prog n #[.agg #[.int .i64 al, kv], bv] W fun e w' => ∃ v', e = .returned v' ∧ Own W.heap.size 5 w' v' ((f blk).map cb) ∧ Keep W w'
def cam16B (key blk : List UInt8) : List UInt8 := cam [(tN (kaOf (klOf key) (0, 0)) 111).1, (tN (kaOf (klOf key) (0, 0)) 111).2, (klOf key).1, (klOf key).2] (k16 (klOf key) (0, 0) (kaOf (klOf key) (0, 0)) (0, 0)).reverse (ke16 (klOf key) (0, 0) (kaOf (klOf key) (0, 0)) (0, 0)).reverse blk
def cam32B (key blk : List UInt8) : List UInt8 := cam [(tN (kbOf (kaOf (klOf key) (krOf key)) (krOf key)) 111).1, (tN (kbOf (kaOf (klOf key) (krOf key)) (krOf key)) 111).2, (klOf key).1, (klOf key).2] (k32 (klOf key) (krOf key) (kaOf (klOf key) (krOf key)) (kbOf (kaOf (klOf key) (krOf key)) (krOf key))).reverse (ke32 (klOf key) (krOf key) (kaOf (klOf key) (krOf key)) (kbOf (kaOf (klOf key) (krOf key)) (krOf key))).reverse blk
theorem cam16B_c (kv bv : Value) (key blk : List UInt8) (w : World) (hk : Bs w kv key) (hb : Bs w bv blk) (hl : key.length = 16) (hbl : blk.length = 16) :
    Calls Try.prog 48 #[kv, bv, .bool true] w fun e w' => ∃ v', e = .returned v' ∧ Own w.heap.size 5 w' v' ((cam16B key blk).map cb) ∧ Keep w w' :=
  camelliaB_c kv bv key blk _ _ _ _ _ _ w hk hb hbl 9 rfl (by omega) (by omega) (by simp [ke16]) (by simp [ke16]) (fun j h1 h2 h3 => by simp only [ke16, List.length_cons, List.length_nil]; omega) (fun W hW => camKeys16_c kv key W hW hl)
theorem cam32B_c (kv bv : Value) (key blk : List UInt8) (w : World) (hk : Bs w kv key) (hb : Bs w bv blk) (hl : key.length = 32) (hbl : blk.length = 16) :
    Calls Try.prog 48 #[kv, bv, .bool true] w fun e w' => ∃ v', e = .returned v' ∧ Own w.heap.size 5 w' v' ((cam32B key blk).map cb) ∧ Keep w w' :=
  camelliaB_c kv bv key blk _ _ _ _ _ _ w hk hb hbl 12 rfl (by omega) (by omega) (by simp [ke32]) (by simp [ke32]) (fun j h1 h2 h3 => by simp only [ke32, List.length_cons, List.length_nil]; omega) (fun W hW => camKeys32_c kv key W hW hl)
def enc3 (key blk : List UInt8) : List UInt8 := desB ((key.drop 16).take 8) (desB ((key.drop 8).take 8) (desB ((key.drop 0).take 8) blk false) true) false
def dec3 (key blk : List UInt8) : List UInt8 := desB ((key.drop 0).take 8) (desB ((key.drop 8).take 8) (desB ((key.drop 16).take 8) blk true) false) true
def decF (al : Int) (key : List UInt8) : List UInt8 → List UInt8 := if al = 3 then cam16B key else if al = 4 then cam32B key else aesd key
set_option maxHeartbeats 1000000 in
theorem dec16_c (al : Int) (ka : Option Addr) (kn kc : Nat) (key : List UInt8) (hk : key.length = ksz al) (h16 : bsz16 al = 16) : Cip 46 16 al (.slice ka kn kc) key (decF al key) := by
  rcases alg_cases al with rfl | rfl | rfl | rfl | rfl | ⟨-, h0, -⟩
  · refine ⟨fun l hl => aesd_length _ _ hl, fun W bv blk hkb hb hbl => ?_⟩
    obtain ⟨ba, bc, rfl, hbc, hbm, -⟩ := hb.form
    have K0 := (Keep.refl W).alloc (.cells #[.int .i64 1, .slice ka kn kc] 36)
    have CC := aesDecrypt_c _ _ key blk 4 _ (hkb.keep K0) (hb.keep K0) hk (Or.inl rfl) hbl
    have Q := fun W => blockSizeC_c 1 W
    rw [show bsz16 1 = 16 from rfl] at Q
    rw [hbl] at CC ⊢
    clear hbl hbc hbm hb hk h16
    go_enter Try.func46, Try.ntmps46
    go_wp2_with fail
    refine (Q _).mono ?_
    rintro e w1 ⟨rfl, rfl⟩
    go_wp2_with fail
    refine CC.mono ?_
    rintro e w2 ⟨v', rfl, o, k⟩
    go_wp2
    go_ret
    exact ⟨_, rfl, o.mono K0.size, K0.trans k⟩
  · refine ⟨fun l hl => aesd_length _ _ hl, fun W bv blk hkb hb hbl => ?_⟩
    obtain ⟨ba, bc, rfl, hbc, hbm, -⟩ := hb.form
    have K0 := (Keep.refl W).alloc (.cells #[.int .i64 2, .slice ka kn kc] 36)
    have CC := aesDecrypt_c _ _ key blk 8 _ (hkb.keep K0) (hb.keep K0) hk (Or.inr rfl) hbl
    have Q := fun W => blockSizeC_c 2 W
    rw [show bsz16 2 = 16 from rfl] at Q
    rw [hbl] at CC ⊢
    clear hbl hbc hbm hb hk h16
    go_enter Try.func46, Try.ntmps46
    go_wp2_with fail
    refine (Q _).mono ?_
    rintro e w1 ⟨rfl, rfl⟩
    go_wp2_with fail
    refine CC.mono ?_
    rintro e w2 ⟨v', rfl, o, k⟩
    go_wp2
    go_ret
    exact ⟨_, rfl, o.mono K0.size, K0.trans k⟩
  · refine ⟨fun l hl => cam_length _ _ _ _, fun W bv blk hkb hb hbl => ?_⟩
    obtain ⟨ba, bc, rfl, hbc, hbm, -⟩ := hb.form
    have K0 := (Keep.refl W).alloc (.cells #[.int .i64 3, .slice ka kn kc] 36)
    have CC := cam16B_c _ _ key blk _ (hkb.keep K0) (hb.keep K0) hk hbl
    have Q := fun W => blockSizeC_c 3 W
    rw [show bsz16 3 = 16 from rfl] at Q
    rw [hbl] at CC ⊢
    clear hbl hbc hbm hb hk h16
    go_enter Try.func46, Try.ntmps46
    go_wp2_with fail
    refine (Q _).mono ?_
    rintro e w1 ⟨rfl, rfl⟩
    go_wp2_with fail
    refine CC.mono ?_
    rintro e w2 ⟨v', rfl, o, k⟩
    go_wp2
    go_ret
    exact ⟨_, rfl, o.mono K0.size, K0.trans k⟩
  · refine ⟨fun l hl => cam_length _ _ _ _, fun W bv blk hkb hb hbl => ?_⟩
    obtain ⟨ba, bc, rfl, hbc, hbm, -⟩ := hb.form
    have K0 := (Keep.refl W).alloc (.cells #[.int .i64 4, .slice ka kn kc] 36)
    have CC := cam32B_c _ _ key blk _ (hkb.keep K0) (hb.keep K0) hk hbl
    have Q := fun W => blockSizeC_c 4 W
    rw [show bsz16 4 = 16 from rfl] at Q
    rw [hbl] at CC ⊢
    clear hbl hbc hbm hb hk h16
    go_enter Try.func46, Try.ntmps46
    go_wp2_with fail
    refine (Q _).mono ?_
    rintro e w1 ⟨rfl, rfl⟩
    go_wp2_with fail
    refine CC.mono ?_
    rintro e w2 ⟨v', rfl, o, k⟩
    go_wp2
    go_ret
    exact ⟨_, rfl, o.mono K0.size, K0.trans k⟩
  · exact absurd h16 (by decide)
  · omega
set_option maxRecDepth 4000 in
set_option maxHeartbeats 1000000 in
theorem dec3_c (ka : Option Addr) (kn kc : Nat) (key : List UInt8) (hk : key.length = 24) : Cip 46 8 5 (.slice ka kn kc) key (dec3 key) := by
  refine ⟨fun l hl => desB_length _ _ _, fun W bv blk hkb hb hbl => ?_⟩
  obtain ⟨ba, bc, rfl, hbc, hbm, -⟩ := hb.form
  rw [hbl] at hb hbc ⊢
  obtain ⟨kA, kC, hkv, hkc, hkm, hkca⟩ := hkb.form
  rw [hk] at hkv hkc
  simp only [Value.slice.injEq] at hkv
  obtain ⟨rfl, rfl, rfl⟩ := hkv
  obtain ⟨kb, ko, rfl, -⟩ := hkca 0 (by omega)
  unfold maxLen at hkm
  clear hkca
  have K0 := (Keep.refl W).alloc (.cells #[.int .i64 5, .slice (some ⟨kb, ko, none⟩) 24 kc] 36)
  have D1 : ∀ W', Keep W W' → Calls Try.prog 49 #[.slice (some ⟨kb, ko + 16, none⟩) 8 (kc - 16), .slice ba 8 bc, .bool true] W' fun e w' => ∃ v', e = .returned v' ∧ Own W'.heap.size 5 w' v' ((desB ((key.drop 16).take 8) blk true).map cb) ∧ Keep W' w' := fun W' h => des_c _ _ ((key.drop 16).take 8) blk true W' ((hkb.keep h).part (i := 16) (j := 24) (by omega) (by omega) (some ⟨kb, ko + 16, none⟩) (fun _ => by simp [Addr.add])) (hb.keep h) (by simp; omega) hbl
  have D2 : ∀ bv' blk' W', Keep W W' → Bs W' bv' blk' → blk'.length = 8 → Calls Try.prog 49 #[.slice (some ⟨kb, ko + 8, none⟩) 8 (kc - 8), bv', .bool false] W' fun e w' => ∃ v', e = .returned v' ∧ Own W'.heap.size 5 w' v' ((desB ((key.drop 8).take 8) blk' false).map cb) ∧ Keep W' w' := fun bv' blk' W' h h' hl' => des_c _ bv' ((key.drop 8).take 8) blk' false W' ((hkb.keep h).part (i := 8) (j := 16) (by omega) (by omega) (some ⟨kb, ko + 8, none⟩) (fun _ => by simp [Addr.add])) h' (by simp; omega) hl'
  have D3 : ∀ bv' blk' W', Keep W W' → Bs W' bv' blk' → blk'.length = 8 → Calls Try.prog 49 #[.slice (some ⟨kb, ko, none⟩) 8 kc, bv', .bool true] W' fun e w' => ∃ v', e = .returned v' ∧ Own W'.heap.size 5 w' v' ((desB ((key.drop 0).take 8) blk' true).map cb) ∧ Keep W' w' := fun bv' blk' W' h h' hl' => des_c _ bv' ((key.drop 0).take 8) blk' true W' ((hkb.keep h).part (i := 0) (j := 8) (by omega) (by omega) (some ⟨kb, ko, none⟩) (fun _ => by simp [Addr.add])) h' (by simp; omega) hl'
  have EF : Hid (dec3 key blk = desB ((key.drop 0).take 8) (desB ((key.drop 8).take 8) (desB ((key.drop 16).take 8) blk true) false) true) := Hid.mk rfl
  have l1 := desB_length ((key.drop 16).take 8) blk true
  generalize desB ((key.drop 16).take 8) blk true = t1 at *
  have l2 := desB_length ((key.drop 8).take 8) t1 false
  replace D2 := fun bv' W' (h : Keep W W') (h' : Bs W' bv' t1) => D2 bv' t1 W' h h' l1
  generalize desB ((key.drop 8).take 8) t1 false = t2 at *
  replace D3 := fun bv' W' (h : Keep W W') (h' : Bs W' bv' t2) => D3 bv' t2 W' h h' l2
  generalize desB ((key.drop 0).take 8) t2 true = t3 at *
  have Q := fun W => blockSizeC_c 5 W
  rw [show bsz16 5 = 8 from rfl] at Q
  have A0 : Arr (W.alloc (.cells #[.int .i64 5, .slice (some ⟨kb, ko, none⟩) 24 kc] 36)) W.heap.size 36 [.int .i64 5, .slice (some ⟨kb, ko, none⟩) 24 kc] := Arr.new W 36 _
  have i1 : (8 : Int) ≤ kc := by omega
  have i2 : (16 : Int) ≤ kc := by omega
  have i3 : (24 : Int) ≤ kc := by omega
  have i4 : ¬ kc = 8 := by omega
  have i5 : ¬ kc = 16 := by omega
  have i6 : ¬ kc = 0 := by omega
  clear hbl hbc hbm hb hk l1 l2 hkb
  go_enter Try.func46, Try.ntmps46
  go_wp2_with fail
  refine (Q _).mono ?_
  rintro e w1 ⟨rfl, rfl⟩
  go_wp2_with fail
  have c0 := A0.cell 1
  simp only [List.getElem?_cons_zero, List.getElem?_cons_succ] at c0
  have hszW := K0.size
  generalize W.alloc (.cells #[.int .i64 5, .slice (some ⟨kb, ko, none⟩) 24 kc] 36) = W1 at *
  obtain ⟨B, hB⟩ : ∃ B, B = W.heap.size := ⟨_, rfl⟩
  rw [← hB] at c0 ⊢
  have HBB := Hid.mk hB
  have cells : ∀ W', Keep W1 W' → W'.cell? ⟨B, 1, none⟩ = some (.slice (some ⟨kb, ko, none⟩) 24 kc) := fun W' h => h.cell c0
  clear A0 hB
  go_region_held3 (fun w' => w'.cell? ⟨B, 1, none⟩ = some (.slice (some ⟨kb, ko, none⟩) 24 kc))
    ((refine cells _ ?_; first | (with_reducible exact Q3) | (with_reducible exact Q2) | (with_reducible exact Q1) | (with_reducible exact (Keep.refl _)) | (with_reducible exact (Keep.refl _).drew)))
    ((first
      | ((fail_if_success (have := Q1)); go_at_call 49; refine (D1 _ K0.drew).mono ?_; rintro e z1 ⟨u1, rfl, o1, q1⟩; have Q1 : Keep W1 z1 := (Keep.refl W1).drew.trans q1)
      | ((fail_if_success (have := Q2)); go_at_call 49; refine (D2 _ _ (K0.trans Q1) o1.bs).mono ?_; rintro e z2 ⟨u2, rfl, o2, q2⟩; have Q2 : Keep W1 z2 := Q1.trans q2)
      | (go_at_call 49; refine (D3 _ _ (K0.trans Q2) o2.bs).mono ?_; rintro e z3 ⟨u3, rfl, o3, q3⟩; have Q3 : Keep W1 z3 := Q2.trans q3)))
  go_wp2_with fail
  go_ret
  exact ⟨_, rfl, by rw [EF.out]; exact o3.mono (K0.trans Q2).size, K0.trans Q3⟩
set_option maxRecDepth 4000 in
set_option maxHeartbeats 1000000 in
theorem enc3_c (ka : Option Addr) (kn kc : Nat) (key : List UInt8) (hk : key.length = 24) : Cip 22 8 5 (.slice ka kn kc) key (enc3 key) := by
  refine ⟨fun l hl => desB_length _ _ _, fun W bv blk hkb hb hbl => ?_⟩
  obtain ⟨ba, bc, rfl, hbc, hbm, -⟩ := hb.form
  rw [hbl] at hb hbc ⊢
  obtain ⟨kA, kC, hkv, hkc, hkm, hkca⟩ := hkb.form
  rw [hk] at hkv hkc
  simp only [Value.slice.injEq] at hkv
  obtain ⟨rfl, rfl, rfl⟩ := hkv
  obtain ⟨kb, ko, rfl, -⟩ := hkca 0 (by omega)
  unfold maxLen at hkm
  clear hkca
  have K0 := (Keep.refl W).alloc (.cells #[.int .i64 5, .slice (some ⟨kb, ko, none⟩) 24 kc] 36)
  have D1 : ∀ W', Keep W W' → Calls Try.prog 49 #[.slice (some ⟨kb, ko, none⟩) 8 kc, .slice ba 8 bc, .bool false] W' fun e w' => ∃ v', e = .returned v' ∧ Own W'.heap.size 5 w' v' ((desB ((key.drop 0).take 8) blk false).map cb) ∧ Keep W' w' := fun W' h => des_c _ _ ((key.drop 0).take 8) blk false W' ((hkb.keep h).part (i := 0) (j := 8) (by omega) (by omega) (some ⟨kb, ko, none⟩) (fun _ => by simp [Addr.add])) (hb.keep h) (by simp; omega) hbl
  have D2 : ∀ bv' blk' W', Keep W W' → Bs W' bv' blk' → blk'.length = 8 → Calls Try.prog 49 #[.slice (some ⟨kb, ko + 8, none⟩) 8 (kc - 8), bv', .bool true] W' fun e w' => ∃ v', e = .returned v' ∧ Own W'.heap.size 5 w' v' ((desB ((key.drop 8).take 8) blk' true).map cb) ∧ Keep W' w' := fun bv' blk' W' h h' hl' => des_c _ bv' ((key.drop 8).take 8) blk' true W' ((hkb.keep h).part (i := 8) (j := 16) (by omega) (by omega) (some ⟨kb, ko + 8, none⟩) (fun _ => by simp [Addr.add])) h' (by simp; omega) hl'
  have D3 : ∀ bv' blk' W', Keep W W' → Bs W' bv' blk' → blk'.length = 8 → Calls Try.prog 49 #[.slice (some ⟨kb, ko + 16, none⟩) 8 (kc - 16), bv', .bool false] W' fun e w' => ∃ v', e = .returned v' ∧ Own W'.heap.size 5 w' v' ((desB ((key.drop 16).take 8) blk' false).map cb) ∧ Keep W' w' := fun bv' blk' W' h h' hl' => des_c _ bv' ((key.drop 16).take 8) blk' false W' ((hkb.keep h).part (i := 16) (j := 24) (by omega) (by omega) (some ⟨kb, ko + 16, none⟩) (fun _ => by simp [Addr.add])) h' (by simp; omega) hl'
  have EF : Hid (enc3 key blk = desB ((key.drop 16).take 8) (desB ((key.drop 8).take 8) (desB ((key.drop 0).take 8) blk false) true) false) := Hid.mk rfl
  have l1 := desB_length ((key.drop 0).take 8) blk false
  generalize desB ((key.drop 0).take 8) blk false = t1 at *
  have l2 := desB_length ((key.drop 8).take 8) t1 true
  replace D2 := fun bv' W' (h : Keep W W') (h' : Bs W' bv' t1) => D2 bv' t1 W' h h' l1
  generalize desB ((key.drop 8).take 8) t1 true = t2 at *
  replace D3 := fun bv' W' (h : Keep W W') (h' : Bs W' bv' t2) => D3 bv' t2 W' h h' l2
  generalize desB ((key.drop 16).take 8) t2 false = t3 at *
  have Q := fun W => blockSizeC_c 5 W
  rw [show bsz16 5 = 8 from rfl] at Q
  have A0 : Arr (W.alloc (.cells #[.int .i64 5, .slice (some ⟨kb, ko, none⟩) 24 kc] 36)) W.heap.size 36 [.int .i64 5, .slice (some ⟨kb, ko, none⟩) 24 kc] := Arr.new W 36 _
  have i1 : (8 : Int) ≤ kc := by omega
  have i2 : (16 : Int) ≤ kc := by omega
  have i3 : (24 : Int) ≤ kc := by omega
  have i4 : ¬ kc = 8 := by omega
  have i5 : ¬ kc = 16 := by omega
  have i6 : ¬ kc = 0 := by omega
  clear hbl hbc hbm hb hk l1 l2 hkb
  go_enter Try.func22, Try.ntmps22
  go_wp2_with fail
  refine (Q _).mono ?_
  rintro e w1 ⟨rfl, rfl⟩
  go_wp2_with fail
  have c0 := A0.cell 1
  simp only [List.getElem?_cons_zero, List.getElem?_cons_succ] at c0
  have hszW := K0.size
  generalize W.alloc (.cells #[.int .i64 5, .slice (some ⟨kb, ko, none⟩) 24 kc] 36) = W1 at *
  obtain ⟨B, hB⟩ : ∃ B, B = W.heap.size := ⟨_, rfl⟩
  rw [← hB] at c0 ⊢
  have HBB := Hid.mk hB
  have cells : ∀ W', Keep W1 W' → W'.cell? ⟨B, 1, none⟩ = some (.slice (some ⟨kb, ko, none⟩) 24 kc) := fun W' h => h.cell c0
  clear A0 hB
  go_region_held3 (fun w' => w'.cell? ⟨B, 1, none⟩ = some (.slice (some ⟨kb, ko, none⟩) 24 kc))
    ((refine cells _ ?_; first | (with_reducible exact Q3) | (with_reducible exact Q2) | (with_reducible exact Q1) | (with_reducible exact (Keep.refl _)) | (with_reducible exact (Keep.refl _).drew)))
    ((first
      | ((fail_if_success (have := Q1)); go_at_call 49; refine (D1 _ K0.drew).mono ?_; rintro e z1 ⟨u1, rfl, o1, q1⟩; have Q1 : Keep W1 z1 := (Keep.refl W1).drew.trans q1)
      | ((fail_if_success (have := Q2)); go_at_call 49; refine (D2 _ _ (K0.trans Q1) o1.bs).mono ?_; rintro e z2 ⟨u2, rfl, o2, q2⟩; have Q2 : Keep W1 z2 := Q1.trans q2)
      | (go_at_call 49; refine (D3 _ _ (K0.trans Q2) o2.bs).mono ?_; rintro e z3 ⟨u3, rfl, o3, q3⟩; have Q3 : Keep W1 z3 := Q2.trans q3)))
  go_wp2_with fail
  go_ret
  exact ⟨_, rfl, by rw [EF.out]; exact o3.mono (K0.trans Q2).size, K0.trans Q3⟩
def encA (al : Int) (key : List UInt8) : List UInt8 → List UInt8 := if al = 5 then enc3 key else encF al key
def decA (al : Int) (key : List UInt8) : List UInt8 → List UInt8 := if al = 5 then dec3 key else decF al key
theorem bsz_of {al : Int} (h0 : ksz al ≠ 0) : (al = 5 ∧ bsz16 al = 8 ∧ ksz al = 24) ∨ (al ≠ 5 ∧ bsz16 al = 16) := by
  rcases alg_cases al with rfl | rfl | rfl | rfl | rfl | ⟨h, -⟩
  · exact Or.inr ⟨by decide, rfl⟩
  · exact Or.inr ⟨by decide, rfl⟩
  · exact Or.inr ⟨by decide, rfl⟩
  · exact Or.inr ⟨by decide, rfl⟩
  · exact Or.inl ⟨rfl, rfl, rfl⟩
  · exact absurd h h0
theorem encA_c (al : Int) (ka : Option Addr) (kn kc : Nat) (key : List UInt8) (hk : key.length = ksz al) (h0 : ksz al ≠ 0) : Cip 22 (bsz16 al) al (.slice ka kn kc) key (encA al key) := by
  rcases bsz_of h0 with ⟨rfl, hb, h24⟩ | ⟨h5, hb⟩
  · rw [hb, encA, if_pos rfl]
    exact enc3_c ka kn kc key (hk.trans h24)
  · rw [hb, encA, if_neg h5]
    exact enc_c al ka kn kc key hk hb
theorem decA_c (al : Int) (ka : Option Addr) (kn kc : Nat) (key : List UInt8) (hk : key.length = ksz al) (h0 : ksz al ≠ 0) : Cip 46 (bsz16 al) al (.slice ka kn kc) key (decA al key) := by
  rcases bsz_of h0 with ⟨rfl, hb, h24⟩ | ⟨h5, hb⟩
  · rw [hb, decA, if_pos rfl]
    exact dec3_c ka kn kc key (hk.trans h24)
  · rw [hb, decA, if_neg h5]
    exact dec16_c al ka kn kc key hk hb
end Go.Proofs.Qxb6500769a
