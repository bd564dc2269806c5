/- From the reading of an argument (DataW.trod) to what the walks want: slices of numbers (Sl, Bs), rows of structs cell by cell. Over any program. -/
import Derived.Deep.Slices
import Derived.ProofKit
import Derived.OpenShut
import Derived.SizedLaws
import Derived.Test.Qxb6500771aGreatMem
namespace Go.Qm
open Go Go.RowKit Go.ChangeShapes Go.WideShapes Go.ChangeAt
set_option linter.unusedVariables false

section
variable {H : Type} {enc : TypeId × Value → H} {P : Program} {w : World} {base : Nat} {spare : Nat → Bool} {held : Bool} {fuel : Nat} {t : TypeId} {x : DataW H × List MemPlace}

theorem addr_none {a : Addr} {v : Value} (h : w.cell? a = some v) : a = ⟨a.block, a.off, none⟩ := by
  cases a with
  | mk b o s =>
    cases s with
    | none => rfl
    | some q =>
      exfalso
      unfold World.cell? at h
      split at h
      · simp at h
      · cases h

theorem add_lit (b o i : Nat) : (⟨b, o, none⟩ : Addr).add i = ⟨b, o + i, none⟩ := by unfold Addr.add; split <;> simp_all

/-- No slice, string or map in it is greater than a row's reach. -/
def Light (P : Program) (t : TypeId) (d : DataW H) : Prop := ∀ m ∈ d.weights P t, m ≤ reachBytes

theorem weightsAll_mem {e : TypeId} {d : DataW H} {m : Nat} (hm : m ∈ d.weights P e) : ∀ {l : List (DataW H)}, d ∈ l → m ∈ DataW.weightsAll P e l
  | [], h => by simp at h
  | y :: r, h => by
    unfold DataW.weightsAll
    rcases List.mem_cons.1 h with rfl | h
    · exact List.mem_append.2 (Or.inl hm)
    · exact List.mem_append.2 (Or.inr (weightsAll_mem hm h))

/-- A slice, opened at every element: the element's cells, and their reading. -/
theorem rows_of_trod {e : TypeId} {v : Value} (ht : P.underlying t = some (.slice e)) (hpos : 0 < P.cellsOf e) (hL : Light P t x.1) (h : DataW.trod enc P w base spare held fuel t [v] = some x) :
    ∃ a n c, v = .slice a n c ∧ n ≤ c ∧ c ≤ maxLen ∧ n * P.bytesOf e ≤ reachBytes ∧ ∀ k, k < n → ∃ b o cs fuel' y, a = some ⟨b, o, none⟩ ∧ cs.length = P.cellsOf e ∧
      (∀ j, j < P.cellsOf e → w.cell? ⟨b, o + k * P.cellsOf e + j, none⟩ = cs[j]?) ∧ DataW.trod enc P w base spare held fuel' e cs = some y ∧ Light P e y.1 := by
  rcases Deep.open_slice ht h with ⟨h0, _⟩ | ⟨a, len, cap, m, n, D, Pl, hv, hb, hl, hm, hmm, hxe, hx⟩
  · simp only [List.cons.injEq, and_true] at h0
    exact ⟨none, 0, 0, h0, Nat.le_refl _, by simp [maxLen], by simp, fun k hk => absurd hk (Nat.not_lt_zero _)⟩
  · simp only [List.cons.injEq, and_true] at hv
    have hlm : len ≤ m := by rw [hmm]; split <;> omega
    have hL' : ∀ q ∈ ((len + (m - len)) * P.bytesOf e :: (DataW.weightsAll P e ((List.range len).map D) ++ DataW.weightsAll P e ((List.range (m - len)).map fun j => D (len + j)))), q ≤ reachBytes := by
      intro q hq
      apply hL q
      rw [hxe]
      simp only [DataW.weights, ht, List.length_map, List.length_range]
      exact hq
    refine ⟨some a, len, cap, hv, hl, hm, ?_, fun k hk => ?_⟩
    · have := hL' _ (List.mem_cons_self)
      exact Nat.le_trans (Nat.mul_le_mul_right _ (by omega)) this
    obtain ⟨cs, h1, h2⟩ := hx k (by omega)
    obtain ⟨_, hlen, hcell⟩ := World.cells?_some h1
    obtain ⟨cs0, h10, _⟩ := hx 0 (by omega)
    obtain ⟨_, hlen0, hcell0⟩ := World.cells?_some h10
    have ha : a = ⟨a.block, a.off, none⟩ := by
      have h00 := hcell0 0 (by omega)
      simp only [Nat.zero_mul] at h00
      have : (a.add 0).add 0 = a := by simp [Addr.add]
      rw [this] at h00
      rw [List.getElem?_eq_getElem (by omega)] at h00
      exact addr_none h00
    refine ⟨a.block, a.off, cs, n, _, by rw [← ha], hlen, fun j hj => ?_, h2, fun q hq => ?_⟩
    · have hc := hcell j hj
      rw [ha, add_lit, add_lit] at hc
      exact hc
    · exact hL' q (List.mem_cons.2 (Or.inr (List.mem_append.2 (Or.inl (weightsAll_mem hq (List.mem_map.2 ⟨k, List.mem_range.2 hk, rfl⟩))))))

theorem field_of_trod {fs : Array Field} {cs : List Value} (ht : P.underlying t = some (.struct fs)) (hL : Light P t x.1) (h : DataW.trod enc P w base spare held fuel t cs = some x) {i : Nat} {f : Field} (hf : fs[i]? = some f) :
    ∃ m y, DataW.trod enc P w base spare held m f.type ((cs.drop f.offset).take (P.cellsOf f.type)) = some y ∧ Light P f.type y.1 := by
  obtain ⟨xs, n, _, hxe, _, hlen, hall⟩ := DataW.trod_struct ht h
  have hi : i < xs.length := by rw [hlen]; exact (Array.getElem?_eq_some_iff.1 hf).1
  refine ⟨n, xs[i], by rw [hall i f hf]; simp [hi], fun q hq => ?_⟩
  apply hL q
  rw [hxe]
  simp only [DataW.weights, ht]
  exact DataW.weights_mem_each (j := i) (t := f.type) (d := xs[i].1) (by simp [hf]) (by simp [hi]) q hq

theorem field1_of_trod {fs : Array Field} {cs : List Value} (ht : P.underlying t = some (.struct fs)) (hL : Light P t x.1) (h : DataW.trod enc P w base spare held fuel t cs = some x) (i : Nat) {f : Field} (hf : fs[i]? = some f)
    (hc : P.cellsOf f.type = 1) {o : Nat} (ho : f.offset = o) (hl : o < cs.length) : ∃ m y, DataW.trod enc P w base spare held m f.type [cs[o]] = some y ∧ Light P f.type y.1 := by
  obtain ⟨m, y, h1, h2⟩ := field_of_trod ht hL h hf
  refine ⟨m, y, ?_, h2⟩
  rw [hc, ho, List.drop_eq_getElem_cons hl, List.take_succ_cons, List.take_zero] at h1
  exact h1

theorem cells_of_ok {e : TypeId} {r : Reach} {b0 : Nat} {v : Value} (ht : P.underlying t = some (.slice e)) (h : Value.okWide P w r b0 t v) : v.cells = #[v] := by
  unfold Value.okWide at h
  rw [ht] at h
  unfold Cell.okWide Cell.ok at h
  rw [ht] at h
  cases v <;> simp_all [Value.cells]

theorem int_of_trod {k : IntKind} {v : Value} (ht : P.underlying t = some (.int k)) (h : DataW.trod enc P w base spare held fuel t [v] = some x) : ∃ n, v = .int k n ∧ (Lit.int k n).wf = true := by
  obtain ⟨n, hv, _, hw⟩ := DataW.trod_int ht h
  simp only [List.cons.injEq, and_true] at hv
  exact ⟨n, hv, hw⟩
theorem bool_of_trod {v : Value} (ht : P.underlying t = some .bool) (h : DataW.trod enc P w base spare held fuel t [v] = some x) : ∃ b, v = .bool b := by
  obtain ⟨n, hv, _⟩ := DataW.trod_bool ht h
  simp only [List.cons.injEq, and_true] at hv
  exact ⟨n, hv⟩

/-- A slice of octets. -/
theorem bs_of_trod {e : TypeId} {v : Value} (ht : P.underlying t = some (.slice e)) (he : P.underlying e = some (.int .u8)) (hc : P.cellsOf e = 1) (hby : P.bytesOf e = 1) (hL : Light P t x.1) (h : DataW.trod enc P w base spare held fuel t [v] = some x) : ∃ l, Bs w v l ∧ l.length ≤ reachBytes := by
  obtain ⟨a, n, c, rfl, hnc, hcm, hbyt, hall⟩ := rows_of_trod ht (by omega) hL h
  rw [hby, Nat.mul_one] at hbyt
  have hone : ∀ k, k < n → ∃ y : UInt8, ∃ b o, a = some ⟨b, o, none⟩ ∧ w.cell? ⟨b, o + k, none⟩ = some (cb y) := fun k hk => by
    obtain ⟨b, o, cs, f', y, ha, hl, hcell, htr, _⟩ := hall k hk
    rw [hc] at hl
    match cs, hl with
    | [u], _ =>
      obtain ⟨m, rfl, hw⟩ := int_of_trod he htr
      have hb := bounds_u8 hw
      have h0 := hcell 0 (by omega)
      rw [hc] at h0
      simp only [Nat.mul_one, Nat.add_zero, List.getElem?_cons_zero] at h0
      exact ⟨UInt8.ofNat m.toNat, b, o, ha, by rw [h0, cb_mk m hb.1 (by omega)]⟩
  obtain ⟨f, hf⟩ := Deep.choose_lt hone
  refine ⟨(List.range n).map f, ⟨a, c, by simp, by simpa using hnc, hcm, fun k u hu => ?_⟩, by simpa using hbyt⟩
  have hk : k < n := by
    have := (List.getElem?_eq_some_iff.1 hu).1
    simpa using this
  simp [hk] at hu
  obtain ⟨b, o, ha, hcell⟩ := hf k hk
  exact ⟨b, o, ha, by rw [hcell, hu]⟩
end

/-- What a law's call leaves behind fits the row, if nothing that was there has turned. -/
theorem post_of_kept {H : Type} {enc : TypeId × Value → H} {P : Program} {f : Func} {s : ChangeSpec} {apart fresh handsOn again : Bool} {W W' : World} {args : Array Value} {v : Value} {ds gs : List (DataW H)} {before : List MemPlace}
    (hW : DataW.Whole enc P f.params.toList s.vars apart W args.toList ds gs before)
    (hres : ∀ (b : Nat) (sp : Nat → Bool) (hd : Bool), DataW.TrodAll enc P W' b sp hd f.resultTypes.toList (v.resultList f.resultTypes.size) (s.fn H (ds ++ gs)).results [])
    (hargs : ∀ sp : Nat → Bool, (∀ p ∈ before, sp p.block = true) → DataW.TrodAll enc P W' 0 sp true f.params.toList args.toList (s.fn H (ds ++ gs)).args before)
    (hvars : ∀ sp : Nat → Bool, DataW.TrodVars enc P W' sp s.vars (s.fn H (ds ++ gs)).vars [])
    (hk : Keep W W')
    (hok : ∀ (j : Nat) (t : TypeId) (r : Value), f.resultTypes[j]? = some t → (v.resultList f.resultTypes.size)[j]? = some r → Value.okWide P W' .any 0 t r) :
    s.post enc P f apart fresh handsOn again W args v W' := by
  have hlt : ∀ p ∈ before, p.block < W.heap.size := fun p hp => by simpa using hW.lt p hp
  refine ⟨ds, gs, before, [], before, [], hW, hres _ _ _, hargs _ (fun p hp => by simpa using hlt p hp), hvars _, World.keptBut_mono (fun p hp => ⟨hp, Or.inr (by simpa using hp)⟩) (hk.frame (· ∈ before)), fun _ => ⟨hok, _, _, ([] ++ before) ++ [], ⟨[] ++ before, [], trodAll_append (hargs _ (fun _ _ => rfl)) (hres _ _ _), hvars _, rfl, ?_, ?_⟩, ?_⟩⟩
  · obtain ⟨_, _, _, _, _, hz, _⟩ := hW
    intro b off hp
    have hp' : MemPlace.cell b off ∈ before := by simpa using hp
    have h1 : W'.frozen? ⟨b, off, none⟩ = W.frozen? ⟨b, off, none⟩ := Below.frozen hk (p := ⟨b, off, none⟩) (hlt _ hp')
    rw [h1]
    exact hz b off hp'
  · obtain ⟨_, _, _, _, _, _, hn⟩ := hW
    intro ha
    simpa using hn ha
  · intro p hp _
    simpa using hp

end Go.Qm
