/- blastm: Check. -/
import Derived.Test.Qxb6500772aTk
namespace Go.Proofs.Qxb6500772a
open Go Go.RowKit Go.Qm
set_option linter.unusedVariables false
set_option linter.unusedSimpArgs false
attribute [local go_sem ↓] Go.wp_at_zero Go.wp_at_succ
set_option maxRecDepth 4000 in
set_option maxHeartbeats 4000000 in
theorem chkM_c {P : Nat → Prop} {cels : List Cel} {body : SL} {f : EF} {t : EL} (hcl : cels.length ≤ 1000000) (hcr : ∀ c ∈ cels, CelR c) (hN : body.size ≤ 1000000) {w : World} {cv bv v : Value} {brows rows : List (List Value)} (hc : CsW P w cv cels) (hb1 : Rows P w bv 8 brows) (hb2 : SLW P w body brows) (hf : EFr f) (hr : Rows P w v 7 rows) (he : ELW P w t rows) :
    Calls Try.prog 15 #[prA cv bv f v] w fun e w' => e = .returned (.int .i64 ((ckP cels body f t : Nat) : Int)) ∧ Keep w w' := by
  obtain ⟨ba, bm, bc, hbv⟩ := hb1.sl
  obtain ⟨ka, km, kc, hkv⟩ := hr.sl
  obtain ⟨pa, pc, hcv, pc1, pc2⟩ := hc.form
  subst hbv hkv hcv
  obtain ⟨W1, hW1⟩ : ∃ W1, W1 = w.alloc (.cells #[.slice pa cels.length pc, .slice ba bm bc, .int .i64 f.k, .int .i64 f.w, .int .i64 f.o, .int .u64 (f.v : Nat), .int .i64 f.c, .int .i64 f.l, .slice ka km kc] 33) := ⟨_, rfl⟩
  have k1 : Keep w W1 := by rw [hW1]; exact (Keep.refl w).alloc _
  have b1 : Arr W1 w.heap.size 33 [.slice pa cels.length pc, .slice ba bm bc, .int .i64 f.k, .int .i64 f.w, .int .i64 f.o, .int .u64 (f.v : Nat), .int .i64 f.c, .int .i64 f.l, .slice ka km kc] := by rw [hW1]; exact Arr.new w 33 _
  have kp : KP P w W1 := KP.of k1
  have CH := Hid.mk (check_c hcl hcr hN (hc.step kp) (hb1.step kp) (hb2.step kp) hf (hr.step kp) (he.step kp))
  simp only [prA] at CH ⊢
  generalize ckP cels body f t = er at *
  have HK1 := Hid.mk k1
  clear hc hb1 hb2 hr he kp k1 hcr hf
  go_enter Try.func15, Try.ntmps15
  go_upto_region 1 with fail
  rw [← hW1]
  clear hW1
  generalize w.heap.size = g1 at *
  have p0 : W1.cell? ⟨g1, 0, none⟩ = some (.slice pa cels.length pc) := b1.cell 0
  have p1 : W1.cell? ⟨g1, 1, none⟩ = some (.slice ba bm bc) := b1.cell 1
  have p2 : W1.cell? ⟨g1, 2, none⟩ = some (.int .i64 f.k) := b1.cell 2
  have p3 : W1.cell? ⟨g1, 3, none⟩ = some (.int .i64 f.w) := b1.cell 3
  have p4 : W1.cell? ⟨g1, 4, none⟩ = some (.int .i64 f.o) := b1.cell 4
  have p5 : W1.cell? ⟨g1, 5, none⟩ = some (.int .u64 (f.v : Nat)) := b1.cell 5
  have p6 : W1.cell? ⟨g1, 6, none⟩ = some (.int .i64 f.c) := b1.cell 6
  have p7 : W1.cell? ⟨g1, 7, none⟩ = some (.int .i64 f.l) := b1.cell 7
  have p8 : W1.cell? ⟨g1, 8, none⟩ = some (.slice ka km kc) := b1.cell 8
  clear b1
  go_wp2_with fail
  refine CH.out.mono ?_
  rintro e y ⟨rfl, ky⟩
  go_wp2_with fail
  go_ret
  exact ⟨rfl, HK1.out.trans ky⟩
end Go.Proofs.Qxb6500772a
