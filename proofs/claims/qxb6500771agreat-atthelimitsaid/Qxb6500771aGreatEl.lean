/- cipherm: Encrypt, for the four ciphers with a block of 16 octets. -/
import Derived.Test.Qxb6500771aGreatAi
import Derived.Test.Qxb6500771aGreatCe
import Derived.Test.Qxb6500771aGreatCf
import Derived.Test.Qxb6500771aGreatCg
import Derived.Test.Qxb6500771aGreatEa
namespace Go.Proofs.Qxb6500771aGreat
open Go.RowKit Go.Qm
set_option linter.unusedVariables false
set_option linter.unusedSimpArgs false
attribute [local go_sem ↓] Go.wp_at_zero Go.wp_at_succ

def cam16 (key blk : List UInt8) : List UInt8 := cam (kw16 (klOf key) (0, 0) (kaOf (klOf key) (0, 0)) (0, 0)) (k16 (klOf key) (0, 0) (kaOf (klOf key) (0, 0)) (0, 0)) (ke16 (klOf key) (0, 0) (kaOf (klOf key) (0, 0)) (0, 0)) blk
def cam32 (key blk : List UInt8) : List UInt8 := cam (kw32 (klOf key) (krOf key) (kaOf (klOf key) (krOf key)) (kbOf (kaOf (klOf key) (krOf key)) (krOf key))) (k32 (klOf key) (krOf key) (kaOf (klOf key) (krOf key)) (kbOf (kaOf (klOf key) (krOf key)) (krOf key))) (ke32 (klOf key) (krOf key) (kaOf (klOf key) (krOf key)) (kbOf (kaOf (klOf key) (krOf key)) (krOf key))) blk
theorem cam16_c (kv bv : Value) (key blk : List UInt8) (w : World) (hk : Bs w kv key) (hb : Bs w bv blk) (hl : key.length = 16) (hbl : blk.length = 16) :
    Calls Tryz.prog 103 #[kv, bv, .bool false] w fun e w' => ∃ v', e = .returned v' ∧ Own w.heap.size 5 w' v' ((cam16 key blk).map cb) ∧ Keep w w' :=
  camellia_c kv bv key blk _ _ _ w hk hb hbl rfl 9 rfl (by omega) (by omega) (by simp [ke16]) (fun j h1 h2 h3 => by simp only [ke16, List.length_cons, List.length_nil]; omega) (fun W hW => camKeys16_c kv key W hW hl)
theorem cam32_c (kv bv : Value) (key blk : List UInt8) (w : World) (hk : Bs w kv key) (hb : Bs w bv blk) (hl : key.length = 32) (hbl : blk.length = 16) :
    Calls Tryz.prog 103 #[kv, bv, .bool false] w fun e w' => ∃ v', e = .returned v' ∧ Own w.heap.size 5 w' v' ((cam32 key blk).map cb) ∧ Keep w w' :=
  camellia_c kv bv key blk _ _ _ w hk hb hbl rfl 12 rfl (by omega) (by omega) (by simp [ke32]) (fun j h1 h2 h3 => by simp only [ke32, List.length_cons, List.length_nil]; omega) (fun W hW => camKeys32_c kv key W hW hl)
def encF (al : Int) (key : List UInt8) : List UInt8 → List UInt8 := if al = 3 then cam16 key else if al = 4 then cam32 key else aes key
set_option maxHeartbeats 1000000 in
theorem enc_c (al : Int) (ka : Option Addr) (kn kc : Nat) (key : List UInt8) (hk : key.length = ksz al) (h16 : Alg al) : Enc al (.slice ka kn kc) key (encF al key) := by
  rcases h16 with rfl | rfl | rfl | rfl
  · refine ⟨fun l hl => aes_length _ _ hl, fun W bv blk hkb hb hbl => ?_⟩
    obtain ⟨ba, bc, rfl, hbc, hbm, -⟩ := hb.form
    have K0 := (Keep.refl W).alloc (.cells #[.int .i64 1, .slice ka kn kc] 123)
    have CC := aesEncrypt_c _ _ key blk 4 _ (hkb.keep K0) (hb.keep K0) hk (Or.inl rfl) hbl
    have Q := fun W => blockSizeC_c 1 W (by unfold Alg; omega)
    rw [hbl] at CC ⊢
    clear hbl hbc hbm hb hk
    go_enter Tryz.func98, Tryz.ntmps98
    go_wp2_with fail
    refine (Q _).mono ?_
    rintro e w1 ⟨rfl, rfl⟩
    go_wp2_with fail
    refine CC.mono ?_
    rintro e w2 ⟨v', rfl, o, k⟩
    go_wp2
    go_ret
    exact ⟨_, rfl, o.mono K0.size, K0.trans k⟩
  · refine ⟨fun l hl => aes_length _ _ hl, fun W bv blk hkb hb hbl => ?_⟩
    obtain ⟨ba, bc, rfl, hbc, hbm, -⟩ := hb.form
    have K0 := (Keep.refl W).alloc (.cells #[.int .i64 2, .slice ka kn kc] 123)
    have CC := aesEncrypt_c _ _ key blk 8 _ (hkb.keep K0) (hb.keep K0) hk (Or.inr rfl) hbl
    have Q := fun W => blockSizeC_c 2 W (by unfold Alg; omega)
    rw [hbl] at CC ⊢
    clear hbl hbc hbm hb hk
    go_enter Tryz.func98, Tryz.ntmps98
    go_wp2_with fail
    refine (Q _).mono ?_
    rintro e w1 ⟨rfl, rfl⟩
    go_wp2_with fail
    refine CC.mono ?_
    rintro e w2 ⟨v', rfl, o, k⟩
    go_wp2
    go_ret
    exact ⟨_, rfl, o.mono K0.size, K0.trans k⟩
  · refine ⟨fun l hl => cam_length _ _ _ _, fun W bv blk hkb hb hbl => ?_⟩
    obtain ⟨ba, bc, rfl, hbc, hbm, -⟩ := hb.form
    have K0 := (Keep.refl W).alloc (.cells #[.int .i64 3, .slice ka kn kc] 123)
    have CC := cam16_c _ _ key blk _ (hkb.keep K0) (hb.keep K0) hk hbl
    have Q := fun W => blockSizeC_c 3 W (by unfold Alg; omega)
    rw [hbl] at CC ⊢
    clear hbl hbc hbm hb hk
    go_enter Tryz.func98, Tryz.ntmps98
    go_wp2_with fail
    refine (Q _).mono ?_
    rintro e w1 ⟨rfl, rfl⟩
    go_wp2_with fail
    refine CC.mono ?_
    rintro e w2 ⟨v', rfl, o, k⟩
    go_wp2
    go_ret
    exact ⟨_, rfl, o.mono K0.size, K0.trans k⟩
  · refine ⟨fun l hl => cam_length _ _ _ _, fun W bv blk hkb hb hbl => ?_⟩
    obtain ⟨ba, bc, rfl, hbc, hbm, -⟩ := hb.form
    have K0 := (Keep.refl W).alloc (.cells #[.int .i64 4, .slice ka kn kc] 123)
    have CC := cam32_c _ _ key blk _ (hkb.keep K0) (hb.keep K0) hk hbl
    have Q := fun W => blockSizeC_c 4 W (by unfold Alg; omega)
    rw [hbl] at CC ⊢
    clear hbl hbc hbm hb hk
    go_enter Tryz.func98, Tryz.ntmps98
    go_wp2_with fail
    refine (Q _).mono ?_
    rintro e w1 ⟨rfl, rfl⟩
    go_wp2_with fail
    refine CC.mono ?_
    rintro e w2 ⟨v', rfl, o, k⟩
    go_wp2
    go_ret
    exact ⟨_, rfl, o.mono K0.size, K0.trans k⟩
end Go.Proofs.Qxb6500771aGreat
