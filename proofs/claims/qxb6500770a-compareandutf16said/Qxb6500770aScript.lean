/- The script of a law: a slice of api.Op; zzSmall1, isRotation. -/
import Derived.Test.Qxb6500770aRows
import Derived.Test.Qxb6500770aOpen
namespace Go.Proofs.Qxb6500770a
open Go.RowKit Go.Qm
set_option linter.unusedVariables false
set_option linter.unusedSimpArgs false

theorem cel29 : Try.prog.cellsOf 29 = 4 := by kernel_rfl
theorem cel5 : Try.prog.cellsOf 5 = 1 := by kernel_rfl
theorem cel25 : Try.prog.cellsOf 25 = 1 := by kernel_rfl
theorem cel3 : Try.prog.cellsOf 3 = 1 := by kernel_rfl
theorem cel26 : Try.prog.cellsOf 26 = 1 := by kernel_rfl
theorem cel27 : Try.prog.cellsOf 27 = 1 := by kernel_rfl
theorem byt5 : Try.prog.bytesOf 5 = 1 := by kernel_rfl

/-- One step of a script. -/
structure OpR where
  kind : Int
  off : Int
  n : Int
  dv : Value
  data : List UInt8

/-- The step lies at block b from cell q on. -/
def OpAt (w : World) (b q : Nat) (s : OpR) : Prop :=
  w.cell? ⟨b, q, none⟩ = some (.int .i64 s.kind) ∧ w.cell? ⟨b, q + 1, none⟩ = some (.int .i64 s.off) ∧ w.cell? ⟨b, q + 2, none⟩ = some (.int .u64 s.n) ∧ w.cell? ⟨b, q + 3, none⟩ = some s.dv ∧
    (0 ≤ s.n ∧ s.n ≤ 18446744073709551615) ∧ Bs w s.dv s.data ∧ s.data.length ≤ reachBytes

theorem OpAt.keep {w w' : World} {b q : Nat} {s : OpR} (h : OpAt w b q s) (k : Keep w w') : OpAt w' b q s :=
  ⟨k.cell h.1, k.cell h.2.1, k.cell h.2.2.1, k.cell h.2.2.2.1, h.2.2.2.2.1, h.2.2.2.2.2.1.keep k, h.2.2.2.2.2.2⟩

def Script (w : World) (v : Value) (ss : List OpR) : Prop :=
  ∃ a c, v = .slice a ss.length c ∧ ss.length ≤ c ∧ c ≤ maxLen ∧ ∀ k (hk : k < ss.length), ∃ b o, a = some ⟨b, o, none⟩ ∧ OpAt w b (o + k * 4) ss[k]

theorem Script.keep {w w' : World} {v : Value} {ss : List OpR} (h : Script w v ss) (k : Keep w w') : Script w' v ss := by
  obtain ⟨a, c, hv, h1, h2, h3⟩ := h
  exact ⟨a, c, hv, h1, h2, fun i hi => let ⟨b, o, ha, ho⟩ := h3 i hi; ⟨b, o, ha, ho.keep k⟩⟩

theorem script_of_trod {H : Type} {enc : TypeId × Value → H} {w : World} {base : Nat} {spare : Nat → Bool} {held : Bool} {v : Value} {d : DataW H} {ps : List MemPlace} (h : DataW.Trod enc Try.prog w base spare held 22 v d ps) (hL : Light Try.prog 22 d) (hv : v.cells = #[v]) :
    ∃ ss, Script w v ss := by
  obtain ⟨fuel, h⟩ := h
  rw [hv] at h
  obtain ⟨a, n, c, rfl, hnc, hcm, _, hall⟩ := rows_of_trod Try.underlying22 (by rw [cel29]; omega) hL h
  have hone : ∀ k, k < n → ∃ s : OpR, ∃ b o, a = some ⟨b, o, none⟩ ∧ OpAt w b (o + k * 4) s := fun k hk => by
    obtain ⟨b, o, cs, f', y, ha, hl, hcell, htr, hLy⟩ := hall k hk
    rw [cel29] at hl hcell
    match cs, hl with
    | [c0, c1, c2, c3], _ =>
      obtain ⟨m0, y0, t0, g0⟩ := field1_of_trod Try.underlying29 hLy htr 0 rfl cel25 (o := 0) rfl (by simp)
      obtain ⟨m1, y1, t1, g1⟩ := field1_of_trod Try.underlying29 hLy htr 1 rfl cel3 (o := 1) rfl (by simp)
      obtain ⟨m2, y2, t2, g2⟩ := field1_of_trod Try.underlying29 hLy htr 2 rfl cel26 (o := 2) rfl (by simp)
      obtain ⟨m3, y3, t3, g3⟩ := field1_of_trod Try.underlying29 hLy htr 3 rfl cel27 (o := 3) rfl (by simp)
      obtain ⟨n0, e0, _⟩ := int_of_trod Try.underlying25 t0
      obtain ⟨n1, e1, _⟩ := int_of_trod Try.underlying3 t1
      obtain ⟨n2, e2, w2⟩ := int_of_trod Try.underlying26 t2
      obtain ⟨l, hb, hbl⟩ := bs_of_trod Try.underlying27 Try.underlying5 cel5 byt5 g3 t3
      simp only [List.getElem_cons_zero, List.getElem_cons_succ] at e0 e1 e2 hb
      subst e0; subst e1; subst e2
      exact ⟨⟨n0, n1, n2, c3, l⟩, b, o, ha, hcell 0 (by omega), hcell 1 (by omega), hcell 2 (by omega), hcell 3 (by omega), bounds_u64 w2, hb, hbl⟩
  have : Inhabited OpR := ⟨⟨0, 0, 0, undef, []⟩⟩
  obtain ⟨f, hf⟩ := Deep.choose_lt hone
  refine ⟨(List.range n).map f, a, c, by simp, by simpa using hnc, hcm, fun k hk => ?_⟩
  have hk' : k < n := by simpa using hk
  simpa using hf k hk'

set_option maxHeartbeats 400000 in
theorem isRot_c (k : Int) (w : World) : Calls Try.prog 6 #[.int .i64 k] w fun e w' => (∃ b, e = .returned (.bool b)) ∧ w' = w := by
  go_enter Try.func6, Try.ntmps6
  go_wp2
  all_goals (go_ret; exact ⟨⟨_, rfl⟩, rfl⟩)

set_option maxHeartbeats 400000 in
theorem small_c (v : Value) (ss : List OpR) (w : World) (h : Script w v ss) :
    Calls Try.prog 5 #[v] w fun e w' => (∃ b, e = .returned (.bool b) ∧ (b = true → ss.length ≤ 65536 ∧ ∀ s ∈ ss, s.data.length ≤ 65536)) ∧ Keep w w' := by
  obtain ⟨a, c, rfl, hac, hcm, hca⟩ := h
  unfold maxLen at hcm
  by_cases hbig : (ss.length : Int) > 65536
  · go_enter Try.func5, Try.ntmps5
    go_wp2
    go_ret
    exact ⟨⟨false, rfl, by simp⟩, Keep.refl _⟩
  · go_enter Try.func5, Try.ntmps5
    go_wp2
    go_loop [3, 4] (fun nv iv => ∃ (k : Nat) (m : Int), k ≤ ss.length ∧ iv = .int .i64 k ∧ nv = .int .i64 m ∧ 0 ≤ m ∧ m ≤ 65536 ∧ ∀ j (hj : j < k) (hk : k ≤ ss.length), ((ss[j]'(by omega)).data.length : Int) ≤ m) (fun _ i => ss.length - (intOf i).toNat)
    case atStart => exact ⟨0, _, by omega, rfl, rfl, by omega, by omega, fun j hj => by omega⟩
    case round =>
      obtain ⟨k, m, hk, rfl, rfl, hm0, hm1, hall⟩ := hrel
      by_cases hlt : k < ss.length
      · obtain ⟨b, o, rfl, h0, h1, h2, h3, hn, hb, hr⟩ := hca k hlt
        obtain ⟨av, cv, hv, hl, hm, _⟩ := hb.form
        rw [hv] at h3
        clear h0 h1 h2 hn hb hv hm hl
        have i1 : (k : Int) < ss.length := by omega
        have i2 : (ss[k].data.length : Int) ≤ 140737488351232 := by unfold reachBytes at hr; omega
        clear hr
        go_wp2
        · go_ret
          exact ⟨Or.inl rfl, Keep.refl _⟩
        · go_round
          case rel =>
            have : m + (ss[k].data.length : Int) ≤ 65536 := by omega
            refine ⟨k + 1, _, by omega, by go_num, rfl, by omega, this, fun j hj hk2 => ?_⟩
            by_cases hjk : j = k
            · subst hjk; omega
            · have := hall j (by omega) hk; omega
          case measure => simp [intOf]; omega
      · have i1 : ¬ (k : Int) < ss.length := by omega
        have hkl : k = ss.length := by omega
        have hall2 : ∀ s ∈ ss, s.data.length ≤ 65536 := fun s hs => by
          obtain ⟨j, hj, rfl⟩ := List.getElem_of_mem hs
          have := hall j (by omega) hk
          omega
        clear hall
        go_wp2
        go_ret
        exact ⟨Or.inr ⟨rfl, by omega, hall2⟩, Keep.refl _⟩
end Go.Proofs.Qxb6500770a
