/- unionvfs: the rules of the handles (plain). -/
import Derived.Test.Qxb6500767aPe
namespace Go.Proofs.Qxb6500767a
open Go.RowKit Go.Qm
set_option linter.unusedVariables false
set_option linter.unusedSimpArgs false
section
variable {ex : Nat → Prop} {k kf kn u : Nat} {hs : List Hd} {T : List Nd}
theorem release_ti (h : TIx (fun _ => False) k kf kn T) {i : Nat} (hi : i < T.length) (ho : 1 ≤ (at' T i).opens) : TIx (fun _ => False) k kf kn (releaseF T i) := by
  have hz : (at' T i).kind ≠ 0 := fun a => by have := (h.kz i).1 a; omega
  unfold releaseF reapF
  rw [at_set hi]
  simp only
  split
  · next a =>
    rw [List.set_set]
    have hc := h.cn i
    refine h.zero hi (fun e => ?_) ?_ (by omega) (fun i a => a.elim)
    · have := h.rl; rw [e] at a; omega
    · cases e : (at' T i).edges with
      | nil => rfl
      | cons x l => have := (h.live i (by rw [e]; simp)).1; omega
  · next a =>
    refine h.num hi { at' T i with opens := (at' T i).opens - 1 } rfl rfl rfl (h.lnk i) (Nat.le_refl _) (h.links i) (Nat.le_refl _) (fun _ => rfl) ⟨fun b => absurd b hz, fun b => absurd b a⟩ ?_
    exact Nat.le_trans (Nat.le_of_eq (usedB_same hi (x := { at' T i with opens := (at' T i).opens - 1 }) rfl)) h.ub
theorem hold_ti (h : TIx ex k kf kn T) {i : Nat} (hi : i < T.length) (hz : (at' T i).kind ≠ 0) : TIx ex k kf kn (T.set i { at' T i with opens := (at' T i).opens + 1 }) := by
  refine h.num hi { at' T i with opens := (at' T i).opens + 1 } rfl rfl rfl (h.lnk i) (Nat.le_refl _) (h.links i) (Nat.le_refl _) (fun _ => rfl) ⟨fun b => absurd b hz, fun b => by have := b.2; simp at this⟩ ?_
  exact Nat.le_trans (Nat.le_of_eq (usedB_same hi (x := { at' T i with opens := (at' T i).opens + 1 }) rfl)) h.ub
theorem mode_ti (h : TIx ex k kf kn T) {i : Nat} (hi : i < T.length) (m : Int) : TIx ex k kf kn (T.set i { at' T i with mode := m }) := by
  refine h.num hi { at' T i with mode := m } rfl rfl rfl (h.lnk i) (Nat.le_refl _) (h.links i) (Nat.le_refl _) (fun _ => rfl) (h.kz i) ?_
  exact Nat.le_trans (Nat.le_of_eq (usedB_same hi (x := { at' T i with mode := m }) rfl)) h.ub
theorem setD_ti (h : TIx ex k kf kn T) {i : Nat} (hi : i < T.length) (hk : (at' T i).kind ≠ 3) (d : List UInt8) (hu : usedB T + blk d.length ≤ 512 + blk (at' T i).data.length) : TIx ex k kf kn (setD T i d) := by
  unfold setD
  refine h.num hi { at' T i with data := d } rfl rfl rfl (fun a => absurd a hk) (Nat.le_refl _) (h.links i) (Nat.le_refl _) (fun _ => rfl) (h.kz i) ?_
  have := usedB_set hi { at' T i with data := d }
  have e : ({ at' T i with data := d } : Nd).data = d := rfl
  rw [e] at this
  omega
theorem res_ti (h : TIx ex k kf kn T) {i : Nat} (hi : i < T.length) (hk : (at' T i).kind ≠ 3) (n : Nat) : TIx ex k kf kn (resT T i n).1 := by
  unfold resT
  split
  · exact h
  · next a =>
    refine setD_ti h hi hk (rszD (at' T i).data n) ?_
    rw [rszD_length]
    have := h.ub
    omega
theorem res_hi (h : HI u hs T) {i : Nat} (hi : i < T.length) (n : Nat) : HI u hs (resT T i n).1 := by
  unfold resT
  split
  · exact h
  · exact h.tset hi _ rfl rfl
theorem wr_ti (h : TIx ex k kf kn T) {i : Nat} (hi : i < T.length) (hk : (at' T i).kind ≠ 3) (off : Nat) (s : List UInt8) : TIx ex k kf kn (writeT T i off s).1 ∧ ((writeT T i off s).2 = 0 → s ≠ [] → off + s.length ≤ 32768) ∧ ((writeT T i off s).2 ≠ 0 → (writeT T i off s).1 = T) := by
  have key : ∀ d, TIx ex k kf kn (setD T i d) → d.length ≤ 32768 := fun d hd => by
    have := hd.data i
    rw [setD_at T i hi] at this
    exact this
  unfold writeT
  split
  · next a => exact ⟨h, fun _ b => absurd a b, fun b => absurd rfl b⟩
  · split
    · next a =>
      split
      · exact ⟨h, fun b => absurd (show (14 : Int) = 0 from b) (by decide), fun _ => rfl⟩
      · next b =>
        have hl : (wrtD (rszD (at' T i).data (off + s.length)) off s).length = off + s.length := by rw [wrtD_length (by rw [rszD_length]; exact Nat.le_refl _), rszD_length]
        have h2 : TIx ex k kf kn (setD T i (wrtD (rszD (at' T i).data (off + s.length)) off s)) := by
          refine setD_ti h hi hk _ ?_
          rw [hl]
          unfold resT at b
          split at b
          · exact absurd (show (14 : Int) ≠ 0 by decide) b
          · next c => have := h.ub; omega
        exact ⟨h2, fun _ _ => by have := key _ h2; omega, fun b => absurd rfl b⟩
    · next a =>
      have hl : (wrtD (at' T i).data off s).length = (at' T i).data.length := wrtD_length (by omega)
      have h2 : TIx ex k kf kn (setD T i (wrtD (at' T i).data off s)) := by
        refine setD_ti h hi hk _ ?_
        rw [hl]
        have := h.ub
        omega
      exact ⟨h2, fun _ _ => by have := key _ h2; omega, fun b => absurd rfl b⟩
theorem wr_hi (h : HI u hs T) {i : Nat} (hi : i < T.length) (off : Nat) (s : List UInt8) : HI u hs (writeT T i off s).1 := by
  unfold writeT
  split
  · exact h
  · split
    · split
      · exact h
      · exact h.tset hi _ rfl rfl
    · exact h.tset hi _ rfl rfl
/-- The rules of a state after k steps. -/
structure SI (k u : Nat) (hs : List Hd) (T : List Nd) : Prop where
  t : TI k T
  h : HI u hs T
theorem SI.more (s : SI k u hs T) {k' : Nat} (hk : k ≤ k') : SI k' u hs T := ⟨s.t.more hk hk hk, s.h⟩
theorem get_nd (s : SI k u hs T) {h need : Int} (e : getOK u hs h need = true) : h.toNat < 32 ∧ u.testBit h.toNat = true ∧ (hat hs h.toNat).node < T.length ∧ (at' T (hat hs h.toNat).node).kind ≠ 3 ∧ (at' T (hat hs h.toNat).node).kind ≠ 0 ∧ 1 ≤ (at' T (hat hs h.toNat).node).opens := by
  obtain ⟨n, rfl, hn, hb⟩ := getOK_lt e
  rw [Int.toNat_natCast]
  have := (s.h.nd n hn hb).1
  exact ⟨hn, hb, s.h.node n hn hb, by omega, by omega, s.h.opos hn hb⟩
theorem cls_si (s : SI k u hs T) (h : Int) : SI k (clsF u hs T h).1 (clsF u hs T h).2.1 (clsF u hs T h).2.2.1 := by
  unfold clsF
  split
  · exact s
  · next a =>
    obtain ⟨h1, h2, h3, -, -, h5⟩ := get_nd s (by simpa using a)
    exact ⟨release_ti s.t h3 h5, s.h.close h1 h2 h3⟩
theorem rd_si (s : SI k u hs T) (h m : Int) : SI k u (rdF u hs T h m).1 T := by
  unfold rdF
  split
  · exact s
  · next a =>
    split
    · exact s
    · split
      · exact s
      · obtain ⟨h1, h2, h3, -⟩ := get_nd s (by simpa using a)
        refine ⟨s.t, s.h.hset h1 _ rfl rfl ?_ (s.h.cur _ h1)⟩
        have := s.h.off _ h1
        have hd := s.t.data (hat hs h.toNat).node
        simp only
        unfold readF
        rw [List.length_take, List.length_drop]
        omega
theorem wrS_si (s : SI k u hs T) (h : Int) (d : List UInt8) : SI k u (wrF u hs T h d).1 (wrF u hs T h d).2.1 := by
  unfold wrF
  split
  · exact s
  · next a =>
    obtain ⟨h1, h2, h3, h4, -⟩ := get_nd s (by simpa using a)
    split
    · exact s
    · split
      · exact s
      · next b =>
        have w1 := wr_ti s.t h3 h4 (watF T (hat hs h.toNat)) d
        have w2 := wr_hi s.h h3 (watF T (hat hs h.toNat)) d
        split
        · exact ⟨w1.1, w2⟩
        · next c =>
          refine ⟨w1.1, w2.hset h1 _ rfl rfl ?_ (s.h.cur _ h1)⟩
          have := w1.2.1 (by simpa using c) b
          simp only
          omega
theorem sk_si (s : SI k u hs T) (h off wh : Int) : SI k u (skF u hs T h off wh).1 T := by
  unfold skF
  split
  · exact s
  · next a =>
    obtain ⟨h1, -⟩ := get_nd s (by simpa using a)
    split
    · split
      · exact s
      · exact ⟨s.t, s.h.hset h1 _ rfl rfl (s.h.off _ h1) (Nat.zero_le _)⟩
    · split
      · exact s
      · split
        · exact s
        · next b =>
          refine ⟨s.t, s.h.hset h1 _ rfl rfl ?_ (s.h.cur _ h1)⟩
          simp only [not_or, Bool.not_eq_false] at b
          have b2 := b.2.2
          unfold vsB at b2
          simp at b2
          simp only
          omega
theorem fch_si (s : SI k u hs T) (h m : Int) : SI k u hs (fchT u hs T h m).1 := by
  unfold fchT
  split
  · exact s
  · next a =>
    obtain ⟨-, -, h3, -⟩ := get_nd s (by simpa using a)
    split
    · exact s
    · exact ⟨mode_ti s.t h3 m, s.h.tset h3 _ rfl rfl⟩
theorem ftr_si (s : SI k u hs T) (h n : Int) : SI k u hs (ftrT u hs T h n).1 := by
  unfold ftrT
  split
  · exact s
  · next a =>
    obtain ⟨-, -, h3, h4, -⟩ := get_nd s (by simpa using a)
    split
    · exact s
    · split
      · exact s
      · exact ⟨res_ti s.t h3 h4 _, res_hi s.h h3 _⟩
theorem chp_si (s : SI k u hs T) (path : List UInt8) (m : Int) : SI k u hs (chpT T path m).1 := by
  unfold chpT
  have h3 := s.t.lt (path_live s.t path true).1
  split
  · exact s
  · split
    · exact s
    · exact ⟨mode_ti s.t h3 m, s.h.tset h3 _ rfl rfl⟩
theorem trp_si (s : SI k u hs T) (path : List UInt8) (n : Int) : SI k u hs (trpT T path n).1 := by
  unfold trpT
  have h3 := path_live s.t path true
  split
  · exact s
  · split
    · exact s
    · split
      · exact s
      · split
        · exact s
        · exact ⟨res_ti s.t (s.t.lt h3.1) (h3.2 rfl) _, res_hi s.h (s.t.lt h3.1) _⟩
theorem page_mem {T : List Nd} {es : List Edg} {c : List UInt8} {m : Nat} {x : Dir} (h : x ∈ pageF T es c m) : ∃ e ∈ es, lessB c e.key = true ∧ x = dirOf T e := by
  unfold pageF at h
  obtain ⟨e, he, rfl⟩ := List.mem_map.1 (List.mem_of_mem_take h)
  obtain ⟨h1, h2⟩ := List.mem_filter.1 he
  exact ⟨e, h1, h2, rfl⟩
theorem rdd_si (s : SI k u hs T) (h m : Int) : SI k u (rddF u hs T h m).1 T := by
  unfold rddF
  split
  · exact s
  · next a =>
    obtain ⟨h1, -⟩ := get_nd s (by simpa using a)
    split
    · exact s
    · split
      · exact s
      · refine ⟨s.t, s.h.hset h1 _ rfl rfl (s.h.off _ h1) ?_⟩
        simp only
        unfold lastK
        split
        · exact s.h.cur _ h1
        · next x hx =>
          obtain ⟨e, he, -, rfl⟩ := page_mem (List.mem_of_getLast? hx)
          exact (s.t.keys _ e he).2
theorem op_si (s : SI k u hs T) (path : List UInt8) (fl mode : Int) : SI (k + 1) (opF u hs T path fl mode).1 (opF u hs T path fl mode).2.1 (opF u hs T path fl mode).2.2.1 := by
  have sm : SI (k + 1) u hs T := s.more (Nat.le_succ _)
  unfold opF
  split
  · exact sm
  · split
    · exact sm
    · next h hlow =>
      obtain ⟨hh, hb, -⟩ := lowN_lt hlow
      split
      · have M := make_ti s.t path (kd := 1) (by decide) mode (data := []) (fun a => by cases a)
        split
        · next a => rw [(M.2.2.2.1 a).1]; exact sm
        · next a =>
          obtain ⟨m1, m2, m3, m4, m5⟩ := M.2.2.2.2 (by simpa using a)
          rw [m1]
          have hi : T.length < (makeT T path 1 mode []).1.length := by omega
          exact ⟨hold_ti (M.1.more (Nat.le_refl _) (Nat.le_refl _) (Nat.le_succ _)) hi (by rw [m4]; decide), (s.h.ns M.2.1).open hh hb hi (Or.inl m4) _⟩
      · split
        · exact sm
        · split
          · exact sm
          · have P := path_live s.t path true
            have hi := s.t.lt P.1
            have hk := s.t.kd (pathF T path true).1
            have hz := s.t.nz P.1
            have h3 := P.2 rfl
            split
            · have R := res_at T hi 0 (pathF T path true).1
              refine ⟨hold_ti (res_ti sm.t hi h3 0) (by rw [R.2.1]; exact hi) (by rw [R.1]; exact hz), (res_hi s.h hi 0).open hh hb (by rw [R.2.1]; exact hi) (by rw [R.1]; omega) _⟩
            · exact ⟨hold_ti sm.t hi hz, s.h.open hh hb hi (by omega) _⟩
theorem names_si (s : SI k u hs T) {T' : List Nd} {a b c : Nat} (h : TIx (fun _ => False) (k + a) (k + b) (k + c) T' ∧ NS T T') (ha : a ≤ 1) (hb : b ≤ 1) (hc : c ≤ 1) : SI (k + 1) u hs T' := ⟨h.1.more (by omega) (by omega) (by omega), s.h.ns h.2⟩
theorem mkd_si (s : SI k u hs T) (path : List UInt8) (mode : Int) : SI (k + 1) u hs (mkdT T path mode).1 ∧ NS T (mkdT T path mode).1 := by
  unfold mkdT
  split
  · have M := make_ti s.t path (kd := 2) (by decide) mode (data := []) (fun a => by cases a)
    exact ⟨names_si s (a := 1) (b := 1) (c := 0) ⟨M.1, M.2.1⟩ (by omega) (by omega) (by omega), M.2.1⟩
  · exact ⟨s.more (Nat.le_succ _), NS.refl T⟩
theorem unl_si (s : SI k u hs T) (path : List UInt8) : SI (k + 1) u hs (unlT T path).1 ∧ NS T (unlT T path).1 :=
  ⟨names_si s (a := 0) (b := 0) (c := 0) (unl_ti s.t path) (by omega) (by omega) (by omega), (unl_ti s.t path).2⟩
theorem rmd_si (s : SI k u hs T) (path : List UInt8) : SI (k + 1) u hs (rmdT T path).1 ∧ NS T (rmdT T path).1 :=
  ⟨names_si s (a := 0) (b := 0) (c := 0) (rmd_ti s.t path) (by omega) (by omega) (by omega), (rmd_ti s.t path).2⟩
theorem link_si (s : SI k u hs T) (old path : List UInt8) : SI (k + 1) u hs (linkT T old path).1 ∧ NS T (linkT T old path).1 :=
  ⟨names_si s (a := 0) (b := 1) (c := 1) (link_ti s.t old path) (by omega) (by omega) (by omega), (link_ti s.t old path).2⟩
theorem sym_si (s : SI k u hs T) (target path : List UInt8) : SI (k + 1) u hs (symT T target path).1 ∧ NS T (symT T target path).1 :=
  ⟨names_si s (a := 1) (b := 1) (c := 0) (sym_ti s.t target path) (by omega) (by omega) (by omega), (sym_ti s.t target path).2⟩
/-- Enough steps to come to the root from anywhere. -/
noncomputable def fuel (T : List Nd) : Nat := open Classical in if h : ∃ f, ∀ d, upZ T f d then h.choose else 0
theorem fuel_ok (h : TIx ex k kf kn T) : ∀ d, upZ T (fuel T) d := by
  unfold fuel
  rw [dif_pos h.uz]
  exact h.uz.choose_spec
theorem ren_si (s : SI k u hs T) (old path : List UInt8) : SI (k + 1) u hs (renF T (fuel T) old path).1 ∧ NS T (renF T (fuel T) old path).1 :=
  ⟨names_si s (a := 0) (b := 1) (c := 0) (ren_ti s.t (fuel_ok s.t) old path) (by omega) (by omega) (by omega), (ren_ti s.t (fuel_ok s.t) old path).2⟩
theorem SI.lim (s : SI k u hs T) (hk : k ≤ 80000) : TLim T where
  ok := s.t.tok hk hk
  len := by have := s.t.len; omega
  keys := fun i _ x hx => by have := (s.t.keys i x hx).2; omega
  links := fun i _ => by have := s.t.links i; omega
  opens := fun i _ => by have := s.h.olt i; omega
  held := fun i _ x hx => s.t.held hx
end
end Go.Proofs.Qxb6500767a
