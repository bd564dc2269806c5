/- cipherm: AES's mixColumns. -/
import Derived.Test.Qxb6500771aGreatAf
import Derived.Deep.CutRange
namespace Go.Proofs.Qxb6500771aGreat
open Go.RowKit Go.Qm
set_option linter.unusedVariables false
set_option linter.unusedSimpArgs false
attribute [local go_sem ↓] Go.wp_at_zero Go.wp_at_succ

def mx (p q r t a0 a1 a2 a3 : UInt8) : UInt8 := tmul p a0 ^^^ tmul q a1 ^^^ tmul r a2 ^^^ tmul t a3
/-- One column. -/
def mc1 (m0 m1 m2 m3 a0 a1 a2 a3 : UInt8) (l : List UInt8) (i : Nat) : List UInt8 :=
  (((l.set (i + 0) (mx m0 m3 m2 m1 a0 a1 a2 a3)).set (i + 1) (mx m1 m0 m3 m2 a0 a1 a2 a3)).set (i + 2) (mx m2 m1 m0 m3 a0 a1 a2 a3)).set (i + 3) (mx m3 m2 m1 m0 a0 a1 a2 a3)
def mck (m0 m1 m2 m3 : UInt8) (s : List UInt8) : Nat → List UInt8
  | 0 => s
  | k + 1 => mc1 m0 m1 m2 m3 (s.getD (4 * k + 0) 0) (s.getD (4 * k + 1) 0) (s.getD (4 * k + 2) 0) (s.getD (4 * k + 3) 0) (mck m0 m1 m2 m3 s k) (4 * k)
theorem mck_length (m0 m1 m2 m3 : UInt8) (s : List UInt8) : ∀ k, (mck m0 m1 m2 m3 s k).length = s.length
  | 0 => rfl
  | k + 1 => by simp [mck, mc1, mck_length m0 m1 m2 m3 s k]
theorem mx_facts (p q r t a0 a1 a2 a3 : UInt8) : ∃ t0 t1 t2 t3 u1 u2 z : UInt8, z = mx p q r t a0 a1 a2 a3 ∧
    (∀ W, Calls Tryz.prog 129 #[.int .u8 p.toNat, .int .u8 a0.toNat] W fun e w' => e = .returned (.int .u8 t0.toNat) ∧ w' = W) ∧
    (∀ W, Calls Tryz.prog 129 #[.int .u8 q.toNat, .int .u8 a1.toNat] W fun e w' => e = .returned (.int .u8 t1.toNat) ∧ w' = W) ∧
    (∀ W, Calls Tryz.prog 129 #[.int .u8 r.toNat, .int .u8 a2.toNat] W fun e w' => e = .returned (.int .u8 t2.toNat) ∧ w' = W) ∧
    (∀ W, Calls Tryz.prog 129 #[.int .u8 t.toNat, .int .u8 a3.toNat] W fun e w' => e = .returned (.int .u8 t3.toNat) ∧ w' = W) ∧
    bits .xor .u8 (t0.toNat : Int) t1.toNat = u1.toNat ∧ bits .xor .u8 (u1.toNat : Int) t2.toNat = u2.toNat ∧ bits .xor .u8 (u2.toNat : Int) t3.toNat = z.toNat :=
  ⟨tmul p a0, tmul q a1, tmul r a2, tmul t a3, tmul p a0 ^^^ tmul q a1, tmul p a0 ^^^ tmul q a1 ^^^ tmul r a2, mx p q r t a0 a1 a2 a3, rfl, fun W => times_c _ _ W, fun W => times_c _ _ W, fun W => times_c _ _ W, fun W => times_c _ _ W, bits_xor8 _ _, bits_xor8 _ _, bits_xor8 _ _⟩
set_option maxRecDepth 2000 in
set_option maxHeartbeats 4000000 in
theorem mixColumns_c (v : Value) (s : List UInt8) (m0 m1 m2 m3 : UInt8) (w : World) (h : Bs w v s) (hl : s.length = 16) : Calls Tryz.prog 114 #[v, .int .u8 m0.toNat, .int .u8 m1.toNat, .int .u8 m2.toNat, .int .u8 m3.toNat] w fun e w' => ∃ v', e = .returned v' ∧ Own w.heap.size 5 w' v' ((mck m0 m1 m2 m3 s 4).map cb) ∧ Keep w w' := by
  obtain ⟨a, c, rfl, hac, hcm, hca⟩ := h.form
  obtain ⟨b, o, rfl, -⟩ := hca 0 (by omega)
  have HC : ∀ k (hk : k < s.length), w.cell? ⟨b, o + k, none⟩ = some (.int .u8 (s[k]).toNat) := by
    intro k hk
    obtain ⟨b', o', e, h1⟩ := hca k hk
    simp at e
    obtain ⟨rfl, rfl⟩ := e
    exact h1
  clear hca
  unfold maxLen at hcm
  have hc16 : 16 ≤ c := by omega
  rw [hl] at h ⊢
  have HL := Hid.mk hl
  clear hl hac
  have hcp := copy_c _ s w h (by have := HL.out; omega)
  clear h
  go_enter Tryz.func114, Tryz.ntmps114
  go_wp2_with fail
  refine hcp.mono ?_
  rintro e w1 ⟨v1, rfl, hown, k1⟩
  clear hcp
  rcases hown.win with ⟨-, h0⟩ | ⟨g, cap, sp, rfl, hB, hwin, hcap, hm⟩
  · exact absurd (congrArg List.length h0) (by rw [HL.out]; simp)
  unfold maxLen at hm
  have HP := Hid.mk hcap
  rw [HL.out]
  clear hcap hown
  have hcap16 : 16 ≤ cap := by have := HP.out; have := HL.out; omega
  go_wp2_with fail
  go_loopw [12, 13] (fun cv av wr => ∃ q : Nat, q ≤ 4 ∧ cv = .int .i64 q ∧ Win wr g 5 [] (mck m0 m1 m2 m3 s q) sp ∧ Keep w wr) (fun c _ _ => 4 - (intOf c).toNat)
  case atStart => exact ⟨0, by omega, rfl, hwin, k1⟩
  case round =>
    clear hwin k1
    obtain ⟨q, hq, rfl, hw, kw⟩ := hrel
    by_cases hlt : q < 4
    · have hlt' : (q : Int) < 4 := by omega
      have em : mck m0 m1 m2 m3 s (q + 1) = mc1 m0 m1 m2 m3 (s.getD (4 * q + 0) 0) (s.getD (4 * q + 1) 0) (s.getD (4 * q + 2) 0) (s.getD (4 * q + 3) 0) (mck m0 m1 m2 m3 s q) (4 * q) := rfl
      have hlen : (mck m0 m1 m2 m3 s q).length = 16 := by rw [mck_length]; exact HL.out
      have c0 : w.cell? ⟨b, o + (4 * q + 0), none⟩ = some (.int .u8 (s.getD (4 * q + 0) 0).toNat) := by
        have hk : 4 * q + 0 < s.length := by have := HL.out; omega
        have e : s.getD (4 * q + 0) 0 = s[4 * q + 0] := by rw [List.getD_eq_getElem?_getD, List.getElem?_eq_getElem hk]; rfl
        rw [HC _ hk, e]
      have c1 : w.cell? ⟨b, o + (4 * q + 1), none⟩ = some (.int .u8 (s.getD (4 * q + 1) 0).toNat) := by
        have hk : 4 * q + 1 < s.length := by have := HL.out; omega
        have e : s.getD (4 * q + 1) 0 = s[4 * q + 1] := by rw [List.getD_eq_getElem?_getD, List.getElem?_eq_getElem hk]; rfl
        rw [HC _ hk, e]
      have c2 : w.cell? ⟨b, o + (4 * q + 2), none⟩ = some (.int .u8 (s.getD (4 * q + 2) 0).toNat) := by
        have hk : 4 * q + 2 < s.length := by have := HL.out; omega
        have e : s.getD (4 * q + 2) 0 = s[4 * q + 2] := by rw [List.getD_eq_getElem?_getD, List.getElem?_eq_getElem hk]; rfl
        rw [HC _ hk, e]
      have c3 : w.cell? ⟨b, o + (4 * q + 3), none⟩ = some (.int .u8 (s.getD (4 * q + 3) 0).toNat) := by
        have hk : 4 * q + 3 < s.length := by have := HL.out; omega
        have e : s.getD (4 * q + 3) 0 = s[4 * q + 3] := by rw [List.getD_eq_getElem?_getD, List.getElem?_eq_getElem hk]; rfl
        rw [HC _ hk, e]
      generalize s.getD (4 * q + 0) 0 = a0 at *
      generalize s.getD (4 * q + 1) 0 = a1 at *
      generalize s.getD (4 * q + 2) 0 = a2 at *
      generalize s.getD (4 * q + 3) 0 = a3 at *
      generalize mck m0 m1 m2 m3 s q = l at *
      have EM := Hid.mk em
      clear em
      obtain ⟨p, hp⟩ : ∃ p : Nat, p = 4 * q := ⟨_, rfl⟩
      rw [← hp] at c0 c1 c2 c3
      have HPQ := Hid.mk hp
      have p12 : p ≤ 12 := by omega
      have z0 : IntKind.i64.wrap (4 * (q : Int)) = (p : Int) := by rw [IntKind.wrap_i64] <;> omega
      have z4 : IntKind.i64.wrap ((p : Int) + 4) = ((p + 4 : Nat) : Int) := by rw [IntKind.wrap_i64] <;> omega
      have y0 : IntKind.i64.wrap (p : Int) = (p : Int) := by rw [IntKind.wrap_i64] <;> omega
      obtain ⟨p1, hp1⟩ : ∃ p1 : Nat, p1 = p + 1 := ⟨_, rfl⟩
      obtain ⟨p2, hp2⟩ : ∃ p2 : Nat, p2 = p + 2 := ⟨_, rfl⟩
      obtain ⟨p3, hp3⟩ : ∃ p3 : Nat, p3 = p + 3 := ⟨_, rfl⟩
      have y1 : IntKind.i64.wrap ((p : Int) + 1) = (p1 : Int) := by rw [IntKind.wrap_i64] <;> omega
      have y2 : IntKind.i64.wrap ((p : Int) + 2) = (p2 : Int) := by rw [IntKind.wrap_i64] <;> omega
      have y3 : IntKind.i64.wrap ((p : Int) + 3) = (p3 : Int) := by rw [IntKind.wrap_i64] <;> omega
      have HP1 := Hid.mk hp1
      have HP2 := Hid.mk hp2
      have HP3 := Hid.mk hp3
      have w0 : (p : Int) < 16 := by omega
      have w1' : (p1 : Int) < 16 := by omega
      have w2' : (p2 : Int) < 16 := by omega
      have w3' : (p3 : Int) < 16 := by omega
      have v0 : (0 : Int) ≤ p := by omega
      have v1' : (0 : Int) ≤ p1 := by omega
      have v2' : (0 : Int) ≤ p2 := by omega
      have v3' : (0 : Int) ≤ p3 := by omega
      have n0 : p < 16 := by omega
      have n1 : p1 < 16 := by omega
      have n2 : p2 < 16 := by omega
      have n3 : p3 < 16 := by omega
      clear hp1 hp2 hp3
      clear hp
      rw [← Nat.add_assoc] at c0 c1 c2 c3
      rw [Nat.add_zero] at c0
      have d0 := kw.cell c0
      have d1 := kw.cell c1
      have d2 := kw.cell c2
      have d3 := kw.cell c3
      obtain ⟨t0, t1, t2, t3, u1, u2, z0, hz0, C0, C1, C2, C3, x1, x2, x3⟩ := mx_facts m0 m3 m2 m1 a0 a1 a2 a3
      have Z0 := Hid.mk hz0
      clear hz0
      have hf := hw.frozen (p)
      obtain ⟨cv, hc⟩ : ∃ cv : Value, wr.cell? ⟨g, p, none⟩ = some cv := ⟨_, hw.cell (k := p) (o := p) (by omega) (by simp)⟩
      have hset := hw.set (k := p) (by omega) z0 (o := p) (by simp)
      have kset : Keep w (wr.setCell ⟨g, p, none⟩ (.int .u8 z0.toNat)) := kw.setCell (by simpa using hB) _
      have HS0 := Hid.mk hset
      have KS0 := Hid.mk kset
      clear hset kset
      go_upto_region 6 with fail
      go_region_held3 (fun w' => w'.cell? ⟨b, o + p, none⟩ = some (.int .u8 a0.toNat) ∧ w'.cell? ⟨b, o + p + 1, none⟩ = some (.int .u8 a1.toNat) ∧ w'.cell? ⟨b, o + p + 2, none⟩ = some (.int .u8 a2.toNat) ∧ w'.cell? ⟨b, o + p + 3, none⟩ = some (.int .u8 a3.toNat))
        (first | assumption | exact ⟨d0, d1, d2, d3⟩ | exact ⟨KS0.out.cell c0, KS0.out.cell c1, KS0.out.cell c2, KS0.out.cell c3⟩)
        (first
          | (go_at_call_of 129 (Value.int IntKind.u8 (a0.toNat : Int)); refine (C0 _).mono ?_; rintro e y ⟨rfl, rfl⟩)
          | (go_at_call_of 129 (Value.int IntKind.u8 (a1.toNat : Int)); refine (C1 _).mono ?_; rintro e y ⟨rfl, rfl⟩)
          | (go_at_call_of 129 (Value.int IntKind.u8 (a2.toNat : Int)); refine (C2 _).mono ?_; rintro e y ⟨rfl, rfl⟩)
          | (go_at_call_of 129 (Value.int IntKind.u8 (a3.toNat : Int)); refine (C3 _).mono ?_; rintro e y ⟨rfl, rfl⟩))
      have hw0 := HS0.out.drew
      have kw0 := KS0.out.drew
      generalize (wr.setCell ⟨g, p, none⟩ (.int .u8 z0.toNat)).drew = wr0 at *
      clear hf hc cv HS0 KS0 d0 d1 d2 d3 C0 C1 C2 C3 x1 x2 x3
      have d0 := kw0.cell c0
      have d1 := kw0.cell c1
      have d2 := kw0.cell c2
      have d3 := kw0.cell c3
      obtain ⟨t0, t1, t2, t3, u1, u2, z1, hz1, C0, C1, C2, C3, x1, x2, x3⟩ := mx_facts m1 m0 m3 m2 a0 a1 a2 a3
      have Z1 := Hid.mk hz1
      clear hz1
      have hf := hw0.frozen p1
      obtain ⟨cv, hc⟩ : ∃ cv : Value, wr0.cell? ⟨g, p1, none⟩ = some cv := ⟨_, hw0.cell (k := p1) (o := p1) (by (try simp); omega) (by simp)⟩
      have hset := hw0.set (k := p1) (by (try simp); omega) z1 (o := p1) (by simp)
      have kset : Keep w (wr0.setCell ⟨g, p1, none⟩ (.int .u8 z1.toNat)) := kw0.setCell (by simpa using hB) _
      have HS1 := Hid.mk hset
      have KS1 := Hid.mk kset
      clear hset kset
      go_upto_region 7 with fail
      go_region_held3 (fun w' => w'.cell? ⟨b, o + p, none⟩ = some (.int .u8 a0.toNat) ∧ w'.cell? ⟨b, o + p + 1, none⟩ = some (.int .u8 a1.toNat) ∧ w'.cell? ⟨b, o + p + 2, none⟩ = some (.int .u8 a2.toNat) ∧ w'.cell? ⟨b, o + p + 3, none⟩ = some (.int .u8 a3.toNat))
        (first | assumption | exact ⟨d0, d1, d2, d3⟩ | exact ⟨KS1.out.cell c0, KS1.out.cell c1, KS1.out.cell c2, KS1.out.cell c3⟩)
        (first
          | (go_at_call_of 129 (Value.int IntKind.u8 (a0.toNat : Int)); refine (C0 _).mono ?_; rintro e y ⟨rfl, rfl⟩)
          | (go_at_call_of 129 (Value.int IntKind.u8 (a1.toNat : Int)); refine (C1 _).mono ?_; rintro e y ⟨rfl, rfl⟩)
          | (go_at_call_of 129 (Value.int IntKind.u8 (a2.toNat : Int)); refine (C2 _).mono ?_; rintro e y ⟨rfl, rfl⟩)
          | (go_at_call_of 129 (Value.int IntKind.u8 (a3.toNat : Int)); refine (C3 _).mono ?_; rintro e y ⟨rfl, rfl⟩))
      have hw1 := HS1.out.drew
      have kw1 := KS1.out.drew
      generalize (wr0.setCell ⟨g, p1, none⟩ (.int .u8 z1.toNat)).drew = wr1 at *
      clear hf hc cv HS1 KS1 d0 d1 d2 d3 C0 C1 C2 C3 x1 x2 x3
      have d0 := kw1.cell c0
      have d1 := kw1.cell c1
      have d2 := kw1.cell c2
      have d3 := kw1.cell c3
      obtain ⟨t0, t1, t2, t3, u1, u2, z2, hz2, C0, C1, C2, C3, x1, x2, x3⟩ := mx_facts m2 m1 m0 m3 a0 a1 a2 a3
      have Z2 := Hid.mk hz2
      clear hz2
      have hf := hw1.frozen p2
      obtain ⟨cv, hc⟩ : ∃ cv : Value, wr1.cell? ⟨g, p2, none⟩ = some cv := ⟨_, hw1.cell (k := p2) (o := p2) (by (try simp); omega) (by simp)⟩
      have hset := hw1.set (k := p2) (by (try simp); omega) z2 (o := p2) (by simp)
      have kset : Keep w (wr1.setCell ⟨g, p2, none⟩ (.int .u8 z2.toNat)) := kw1.setCell (by simpa using hB) _
      have HS2 := Hid.mk hset
      have KS2 := Hid.mk kset
      clear hset kset
      go_upto_region 8 with fail
      go_region_held3 (fun w' => w'.cell? ⟨b, o + p, none⟩ = some (.int .u8 a0.toNat) ∧ w'.cell? ⟨b, o + p + 1, none⟩ = some (.int .u8 a1.toNat) ∧ w'.cell? ⟨b, o + p + 2, none⟩ = some (.int .u8 a2.toNat) ∧ w'.cell? ⟨b, o + p + 3, none⟩ = some (.int .u8 a3.toNat))
        (first | assumption | exact ⟨d0, d1, d2, d3⟩ | exact ⟨KS2.out.cell c0, KS2.out.cell c1, KS2.out.cell c2, KS2.out.cell c3⟩)
        (first
          | (go_at_call_of 129 (Value.int IntKind.u8 (a0.toNat : Int)); refine (C0 _).mono ?_; rintro e y ⟨rfl, rfl⟩)
          | (go_at_call_of 129 (Value.int IntKind.u8 (a1.toNat : Int)); refine (C1 _).mono ?_; rintro e y ⟨rfl, rfl⟩)
          | (go_at_call_of 129 (Value.int IntKind.u8 (a2.toNat : Int)); refine (C2 _).mono ?_; rintro e y ⟨rfl, rfl⟩)
          | (go_at_call_of 129 (Value.int IntKind.u8 (a3.toNat : Int)); refine (C3 _).mono ?_; rintro e y ⟨rfl, rfl⟩))
      have hw2 := HS2.out.drew
      have kw2 := KS2.out.drew
      generalize (wr1.setCell ⟨g, p2, none⟩ (.int .u8 z2.toNat)).drew = wr2 at *
      clear hf hc cv HS2 KS2 d0 d1 d2 d3 C0 C1 C2 C3 x1 x2 x3
      have d0 := kw2.cell c0
      have d1 := kw2.cell c1
      have d2 := kw2.cell c2
      have d3 := kw2.cell c3
      obtain ⟨t0, t1, t2, t3, u1, u2, z3, hz3, C0, C1, C2, C3, x1, x2, x3⟩ := mx_facts m3 m2 m1 m0 a0 a1 a2 a3
      have Z3 := Hid.mk hz3
      clear hz3
      have hf := hw2.frozen p3
      obtain ⟨cv, hc⟩ : ∃ cv : Value, wr2.cell? ⟨g, p3, none⟩ = some cv := ⟨_, hw2.cell (k := p3) (o := p3) (by (try simp); omega) (by simp)⟩
      have hset := hw2.set (k := p3) (by (try simp); omega) z3 (o := p3) (by simp)
      have kset : Keep w (wr2.setCell ⟨g, p3, none⟩ (.int .u8 z3.toNat)) := kw2.setCell (by simpa using hB) _
      have HS3 := Hid.mk hset
      have KS3 := Hid.mk kset
      clear hset kset
      go_upto_region 9 with fail
      go_region_held3 (fun w' => w'.cell? ⟨b, o + p, none⟩ = some (.int .u8 a0.toNat) ∧ w'.cell? ⟨b, o + p + 1, none⟩ = some (.int .u8 a1.toNat) ∧ w'.cell? ⟨b, o + p + 2, none⟩ = some (.int .u8 a2.toNat) ∧ w'.cell? ⟨b, o + p + 3, none⟩ = some (.int .u8 a3.toNat))
        (first | assumption | exact ⟨d0, d1, d2, d3⟩ | exact ⟨KS3.out.cell c0, KS3.out.cell c1, KS3.out.cell c2, KS3.out.cell c3⟩)
        (first
          | (go_at_call_of 129 (Value.int IntKind.u8 (a0.toNat : Int)); refine (C0 _).mono ?_; rintro e y ⟨rfl, rfl⟩)
          | (go_at_call_of 129 (Value.int IntKind.u8 (a1.toNat : Int)); refine (C1 _).mono ?_; rintro e y ⟨rfl, rfl⟩)
          | (go_at_call_of 129 (Value.int IntKind.u8 (a2.toNat : Int)); refine (C2 _).mono ?_; rintro e y ⟨rfl, rfl⟩)
          | (go_at_call_of 129 (Value.int IntKind.u8 (a3.toNat : Int)); refine (C3 _).mono ?_; rintro e y ⟨rfl, rfl⟩))
      have hw3 := HS3.out.drew
      have kw3 := KS3.out.drew
      generalize (wr2.setCell ⟨g, p3, none⟩ (.int .u8 z3.toNat)).drew = wr3 at *
      clear hf hc cv HS3 KS3 d0 d1 d2 d3 C0 C1 C2 C3 x1 x2 x3
      have d0 := kw3.cell c0
      have d1 := kw3.cell c1
      have d2 := kw3.cell c2
      have d3 := kw3.cell c3
      go_wp2_with fail
      go_roundw
      case rel =>
        refine ⟨q + 1, by omega, by go_num, ?_, kw3⟩
        rw [EM.out, ← HPQ.out]
        unfold mc1
        rw [← Z0.out, ← Z1.out, ← Z2.out, ← Z3.out, ← HP1.out, ← HP2.out, ← HP3.out]
        exact hw3
      case measure => simp [intOf]; omega
    · have hlt' : ¬ (q : Int) < 4 := by omega
      have : q = 4 := by omega
      subst this
      go_wp2
      go_ret
      refine ⟨_, rfl, ?_, kw⟩
      have := Own.of_win (cap := cap) hB hw (by rw [mck_length]; exact HP.out) (by simpa [maxLen] using hm)
      rw [mck_length, HL.out] at this
      exact this
end Go.Proofs.Qxb6500771aGreat
