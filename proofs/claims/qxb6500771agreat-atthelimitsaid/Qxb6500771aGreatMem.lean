/- What the walks of this seat say of memory: slices of one-cell elements that are read (Sl), slices that the call itself made (Own), whole blocks (Blk), worlds of which nothing old has turned (Keep). Plain lemmas, over any program. -/
import Derived.WalkKit
import Derived.WalkSpells
import Derived.WalkLawsBesides
import Derived.BigQuiet
import Derived.Deep.RegionHeld3
import Derived.Deep.DrawnRows
import Derived.Deep.DeepMust
import Derived.Deep.DeepFit
import Derived.Maps.AppendAt
import Derived.Laws.IdiomCopy
namespace Go.Qm
open Go Go.RowKit

/-- Nothing that was there has turned. -/
def Keep (w w' : World) : Prop := Below w.heap.size w w'

theorem Keep.refl (w : World) : Keep w w := Below.refl _ _
theorem Keep.size {a b : World} (h : Keep a b) : a.heap.size ≤ b.heap.size := Below.size h
theorem Keep.trans {a b c : World} (h : Keep a b) (k : Keep b c) : Keep a c := Below.trans h (Below.mono k (Below.size h))
theorem Keep.drew {a w : World} (h : Keep a w) : Keep a w.drew := Below.drew h
theorem Keep.drewN {a w : World} (h : Keep a w) (n : Nat) : Keep a (w.drewN n) := ⟨h.os, h.tape, h.output, h.size, h.block⟩
theorem Keep.alloc {a w : World} (h : Keep a w) (o : Obj) : Keep a (w.alloc o) := Below.alloc h (Below.size h) o
theorem Keep.setCell {a w : World} (h : Keep a w) {p : Addr} (hp : a.heap.size ≤ p.block) (u : Value) : Keep a (w.setCell p u) := Below.setCell h hp u
theorem Keep.grown {a w w' : World} {row : Option Nat} (h : Keep a w) (hg : w.grownBy w' row) (hr : ∀ k, row = some k → a.heap.size ≤ k) : Keep a w' :=
  Below.grown h hg (Below.size h) hr
theorem Keep.cell {w w' : World} (h : Keep w w') {a : Addr} {v : Value} (hc : w.cell? a = some v) : w'.cell? a = some v :=
  (Below.cell h (World.block_lt_of_cell? w a hc)).trans hc
theorem Keep.heap {w w' : World} (h : Keep w w') {g : Nat} {o : Obj} (hc : w.heap[g]? = some o) : w'.heap[g]? = some o := by
  have hlt : g < w.heap.size := (Array.getElem?_eq_some_iff.1 hc).1
  exact (h.block g hlt).trans hc
theorem Keep.frame {W w' : World} (h : Keep W w') (may : MemPlace → Prop) : W.keptBut w' may := Below.frame h may

/-- An octet as a cell. -/
def cb (x : UInt8) : Value := .int .u8 x.toNat
theorem cb_def (x : UInt8) : cb x = .int .u8 x.toNat := rfl
theorem cb_one (l : List UInt8) : ∀ u ∈ l.map cb, u.oneCell' = true := by
  intro u hu
  obtain ⟨_, _, rfl⟩ := List.mem_map.1 hu
  rfl
theorem cb_inj {a b : UInt8} (h : cb a = cb b) : a = b := by
  simp only [cb, Value.int.injEq, true_and] at h
  exact UInt8.toNat_inj.1 (by omega)
theorem cb_mk (n : Int) (h0 : 0 ≤ n) (h1 : n < 256) : Value.int .u8 n = cb (UInt8.ofNat n.toNat) := by
  unfold cb
  have : (UInt8.ofNat n.toNat).toNat = n.toNat := by
    show n.toNat % 2 ^ 8 = n.toNat
    omega
  rw [this]
  congr 1
  omega

/-- A slice of one-cell elements that reads xs. -/
def Sl (w : World) (v : Value) (xs : List Value) : Prop :=
  ∃ a c, v = .slice a xs.length c ∧ xs.length ≤ c ∧ c ≤ maxLen ∧ ∀ k u, xs[k]? = some u → ∃ b o, a = some ⟨b, o, none⟩ ∧ w.cell? ⟨b, o + k, none⟩ = some u

theorem Sl.keep {w w' : World} {v : Value} {xs : List Value} (h : Sl w v xs) (k : Keep w w') : Sl w' v xs := by
  obtain ⟨a, c, hv, h1, h2, h3⟩ := h
  exact ⟨a, c, hv, h1, h2, fun i u hu => let ⟨b, o, ha, hc⟩ := h3 i u hu; ⟨b, o, ha, k.cell hc⟩⟩

/-- A slice of octets that reads l. -/
def Bs (w : World) (v : Value) (l : List UInt8) : Prop := Sl w v (l.map cb)

theorem Bs.keep {w w' : World} {v : Value} {l : List UInt8} (h : Bs w v l) (k : Keep w w') : Bs w' v l := Sl.keep h k
theorem Bs.drew {w : World} {v : Value} {l : List UInt8} (h : Bs w v l) : Bs w.drew v l := h
theorem Bs.drewN {w : World} {v : Value} {l : List UInt8} (h : Bs w v l) (n : Nat) : Bs (w.drewN n) v l := h
theorem Bs.form {w : World} {v : Value} {l : List UInt8} (h : Bs w v l) :
    ∃ a c, v = .slice a l.length c ∧ l.length ≤ c ∧ c ≤ maxLen ∧ ∀ k (hk : k < l.length), ∃ b o, a = some ⟨b, o, none⟩ ∧ w.cell? ⟨b, o + k, none⟩ = some (.int .u8 (l[k]).toNat) := by
  obtain ⟨a, c, hv, h1, h2, h3⟩ := h
  rw [List.length_map] at hv h1
  exact ⟨a, c, hv, h1, h2, fun k hk => h3 k (.int .u8 (l[k]).toNat) (by simp [hk, cb])⟩
theorem Bs.nil {w : World} (a : Option Addr) (c : Nat) (h : c ≤ maxLen) : Bs w (.slice a 0 c) [] := ⟨a, c, rfl, Nat.zero_le _, h, by simp⟩
theorem Bs.le {w : World} {v : Value} {l : List UInt8} (h : Bs w v l) : l.length ≤ maxLen := by
  obtain ⟨a, c, _, h1, h2, _⟩ := h
  rw [List.length_map] at h1
  omega

/-- A part of a slice. -/
theorem Sl.part {w : World} {a : Option Addr} {n c : Nat} {xs : List Value} (h : Sl w (.slice a n c) xs) {i j : Nat} (hij : i ≤ j) (hj : j ≤ n) (ao : Option Addr)
    (hao : i < c → ao = a.map (·.add i)) : Sl w (.slice ao (j - i) (c - i)) ((xs.drop i).take (j - i)) := by
  obtain ⟨a', c', hv, h1, h2, h3⟩ := h
  simp only [Value.slice.injEq] at hv
  obtain ⟨rfl, hn, rfl⟩ := hv
  refine ⟨ao, c - i, ?_, ?_, ?_, ?_⟩
  · congr 1
    rw [List.length_take, List.length_drop]; omega
  · rw [List.length_take, List.length_drop]; omega
  · omega
  · intro k u hu
    have hk : k < j - i := by
      have := (List.getElem?_eq_some_iff.1 hu).1
      rw [List.length_take] at this; omega
    rw [List.getElem?_take, if_pos hk, List.getElem?_drop] at hu
    obtain ⟨b, o, rfl, hc⟩ := h3 (i + k) u hu
    refine ⟨b, o + i, ?_, by rw [Nat.add_assoc]; exact hc⟩
    rw [hao (by omega)]
    simp only [Option.map_some, Addr.add]
    split <;> simp_all

theorem Bs.part {w : World} {a : Option Addr} {n c : Nat} {l : List UInt8} (h : Bs w (.slice a n c) l) {i j : Nat} (hij : i ≤ j) (hj : j ≤ n) (ao : Option Addr)
    (hao : i < c → ao = a.map (·.add i)) : Bs w (.slice ao (j - i) (c - i)) ((l.drop i).take (j - i)) := by
  unfold Bs
  rw [List.map_take, List.map_drop]
  exact Sl.part h hij hj ao hao

/-- A slice that was made since block B, whole (from its block's head). -/
def Own (B : Nat) (e : TypeId) (w : World) (v : Value) (xs : List Value) : Prop := w.ownsRow B e 1 v xs.length xs

theorem Own.sl {B : Nat} {e : TypeId} {w : World} {v : Value} {xs : List Value} (h : Own B e w v xs) : Sl w v xs := by
  rcases h.2 with ⟨rfl, h0⟩ | ⟨g, cap, cur, rfl, hb, hg, hnc, hcm, hcs, htake⟩
  · refine ⟨none, 0, by rw [h0], by omega, by simp [maxLen], fun k u hu => ?_⟩
    have := (List.getElem?_eq_some_iff.1 hu).1
    omega
  · refine ⟨some ⟨g, 0, none⟩, cap, rfl, hnc, hcm, fun k u hu => ⟨g, 0, rfl, ?_⟩⟩
    rw [Nat.mul_one] at htake
    rw [cell_of_row w g _ cur e (0, 0) hg, Nat.zero_add]
    rw [← htake, List.getElem?_take] at hu
    split at hu
    · simpa using hu
    · cases hu

theorem Own.bs {B : Nat} {e : TypeId} {w : World} {v : Value} {l : List UInt8} (h : Own B e w v (l.map cb)) : Bs w v l := h.sl

theorem Own.lt {B : Nat} {e : TypeId} {w : World} {v : Value} {xs : List Value} (h : Own B e w v xs) : ∀ k, v.ownBlock = some k → B ≤ k ∧ k < w.heap.size := World.ownsRow.lt h

theorem Own.keep {B : Nat} {e : TypeId} {w w' : World} {v : Value} {xs : List Value} (h : Own B e w v xs) (k : Keep w w') : Own B e w' v xs := by
  refine ⟨h.1, ?_⟩
  rcases h.2 with hn | ⟨g, cap, cur, hv, hb, hg, rest⟩
  · exact Or.inl hn
  · exact Or.inr ⟨g, cap, cur, hv, hb, k.heap hg, rest⟩

/-- .. behind a change of another block. -/
theorem Own.kept {B : Nat} {e : TypeId} {w w' : World} {v : Value} {xs : List Value} {row : Option Nat} (h : Own B e w v xs) (hg : w.grownBy w' row) (hne : v.ownBlock = none ∨ v.ownBlock ≠ row) : Own B e w' v xs :=
  World.ownsRow.kept h hg hne

theorem Own.mono {B B' : Nat} {e : TypeId} {w : World} {v : Value} {xs : List Value} (h : Own B e w v xs) (hB : B' ≤ B) : Own B' e w v xs := by
  refine ⟨h.1, ?_⟩
  rcases h.2 with hn | ⟨g, cap, cur, hv, hb, r⟩
  · exact Or.inl hn
  · exact Or.inr ⟨g, cap, cur, hv, Nat.le_trans hB hb, r⟩

theorem Own.form {B : Nat} {e : TypeId} {w : World} {v : Value} {xs : List Value} (h : Own B e w v xs) :
    (v = .slice none 0 0 ∧ xs = []) ∨ ∃ g cap sp, v = .slice (some ⟨g, 0, none⟩) xs.length cap ∧ B ≤ g ∧ w.heap[g]? = some (.cells (xs ++ sp).toArray e (0, 0)) ∧ xs.length + sp.length = cap ∧ cap ≤ maxLen := by
  rcases h.2 with ⟨rfl, h0⟩ | ⟨g, cap, cur, rfl, hb, hg, hnc, hcm, hcs, htake⟩
  · exact Or.inl ⟨rfl, List.eq_nil_of_length_eq_zero h0⟩
  · right
    rw [Nat.mul_one] at hcs htake
    refine ⟨g, cap, cur.toList.drop xs.length, rfl, hb, ?_, ?_, hcm⟩
    · have : xs ++ cur.toList.drop xs.length = cur.toList := by
        conv => lhs; arg 1; rw [← htake]
        exact List.take_append_drop _ _
      rw [this, Array.toArray_toList]; exact hg
    · have hlt : cur.toList.length = cur.size := Array.length_toList
      rw [List.length_drop]
      omega

theorem Own.of_blk {B : Nat} {e : TypeId} {w : World} {xs sp : List Value} {g cap : Nat} (hB : B ≤ g) (hg : w.heap[g]? = some (.cells (xs ++ sp).toArray e (0, 0))) (hc : xs.length + sp.length = cap) (hm : cap ≤ maxLen) :
    Own B e w (.slice (some ⟨g, 0, none⟩) xs.length cap) xs := by
  refine ⟨by omega, Or.inr ⟨g, cap, _, rfl, hB, hg, by omega, hm, by simp; omega, ?_⟩⟩
  rw [Nat.mul_one]
  simp

theorem Own.lit {B : Nat} {e : TypeId} {w : World} (xs : List Value) (hb : B ≤ w.heap.size) (hm : xs.length ≤ maxLen) :
    Own B e (w.alloc (.cells xs.toArray e)) (.slice (some ⟨w.heap.size, 0, none⟩) xs.length xs.length) xs := by
  exact World.ownsRow_lit (base := B) (e := e) (size := 1) w xs.toArray xs.length hb hm (by simp)

/-- A whole block, written in one cell. -/
theorem blk_set {w : World} {g : Nat} {e : TypeId} {ys : List Value} (h : w.heap[g]? = some (.cells ys.toArray e (0, 0))) (i : Nat) (u : Value) :
    (w.setCell ⟨g, i, none⟩ u).heap[g]? = some (.cells (ys.set i u).toArray e (0, 0)) := by
  rw [heap_setCell_same w g i ys.toArray e u h]
  simp
theorem blk_cell {w : World} {g : Nat} {e : TypeId} {ys : List Value} (h : w.heap[g]? = some (.cells ys.toArray e (0, 0))) (i : Nat) : w.cell? ⟨g, i, none⟩ = ys[i]? := by
  rw [cell_of_row w g i ys.toArray e (0, 0) h]
  simp
theorem blk_frozen {w : World} {g : Nat} {e : TypeId} {ys : List Value} (h : w.heap[g]? = some (.cells ys.toArray e (0, 0))) (i : Nat) : w.frozen? ⟨g, i, none⟩ = false :=
  frozen_of_row w g i ys.toArray e h
theorem blk_lt {w : World} {g : Nat} {o : Obj} (h : w.heap[g]? = some o) : g < w.heap.size := (Array.getElem?_eq_some_iff.1 h).1

/-- Only block g has turned. -/
theorem grown_refl (w : World) (row : Option Nat) : w.grownBy w row := ⟨rfl, rfl, rfl, Nat.le_refl _, fun _ _ _ => rfl⟩
theorem grown_trans {a b c : World} {row : Option Nat} (h : a.grownBy b row) (k : b.grownBy c row) : a.grownBy c row :=
  ⟨k.os.trans h.os, k.tape.trans h.tape, k.output.trans h.output, Nat.le_trans h.size k.size, fun i hi hne => (k.block i (Nat.lt_of_lt_of_le hi h.size) hne).trans (h.block i hi hne)⟩
theorem grown_drewN {a b : World} {row : Option Nat} (h : a.grownBy b row) (n : Nat) : a.grownBy (b.drewN n) row := ⟨h.os, h.tape, h.output, h.size, h.block⟩
theorem grown_drew {a b : World} {row : Option Nat} (h : a.grownBy b row) : a.grownBy b.drew row := ⟨h.os, h.tape, h.output, h.size, h.block⟩
theorem grown_set {a b : World} {g : Nat} (h : a.grownBy b (some g)) (i : Nat) (u : Value) : a.grownBy (b.setCell ⟨g, i, none⟩ u) (some g) :=
  ⟨h.os, h.tape, h.output, by simpa using h.size, fun k hk hne => by rw [heap_setCell_other b ⟨g, i, none⟩ k u (by simpa using hne)]; exact h.block k hk hne⟩
theorem grown_keep {a b c : World} {row : Option Nat} (h : a.grownBy b row) (k : Keep b c) : a.grownBy c row :=
  ⟨k.os.trans h.os, k.tape.trans h.tape, k.output.trans h.output, Nat.le_trans h.size k.size, fun i hi hne => (k.block i (Nat.lt_of_lt_of_le hi h.size)).trans (h.block i hi hne)⟩
theorem keep_grown {w w' : World} (h : Keep w w') (row : Option Nat) : w.grownBy w' row := ⟨h.os, h.tape, h.output, h.size, fun k hk _ => h.block k hk⟩
/-- What lies in another block reads as it did. -/
theorem Sl.kept {w w' : World} {v : Value} {xs : List Value} {g : Nat} (h : Sl w v xs) (hg : w.grownBy w' (some g)) (hne : v.ownBlock ≠ some g) : Sl w' v xs := by
  obtain ⟨a, c, rfl, h1, h2, h3⟩ := h
  refine ⟨a, c, rfl, h1, h2, fun i u hu => ?_⟩
  obtain ⟨b, o, rfl, hc⟩ := h3 i u hu
  exact ⟨b, o, rfl, hg.cell hc (by simpa [Value.ownBlock] using hne)⟩
theorem Bs.kept {w w' : World} {v : Value} {l : List UInt8} {g : Nat} (h : Bs w v l) (hg : w.grownBy w' (some g)) (hne : v.ownBlock ≠ some g) : Bs w' v l := Sl.kept h hg hne

/-- A row of n cells z, under a name that the walk leaves alone. -/
def rep (n : Nat) (z : Value) : Array Value := Array.replicate n z
theorem rep_eq (n : Nat) (z : Value) : rep n z = (List.replicate n z).toArray := by simp [rep]
theorem rep_cb (n : Nat) : rep n (.int .u8 0) = ((List.replicate n (0 : UInt8)).map cb).toArray := by rw [rep_eq, List.map_replicate]; rfl

/-- 'make([]T, n)', T of one cell. -/
theorem run_make1 {P : Program} {t e : TypeId} {z : Value} {bytes : Nat} (ht : P.underlying t = some (.slice e)) (hi : (P.info? e).map (fun i => (i.zero, i.size, i.bytes)) = some (some z, 1, bytes)) (hz : z.cells = #[z])
    (n c : Int) (h0 : 0 ≤ n) (hnc : n ≤ c) (hb : (bytes : Int) * c ≤ 281474976710656) (hm : c ≤ 9223372036854775807) (w : World) :
    (Instr.makeSlice t (.int .i64 n) (.int .i64 c)).run P w = .ok (.slice (some ⟨w.heap.size, 0, none⟩) n.toNat c.toNat) (w.alloc (.cells (rep c.toNat z) e)) := by
  obtain ⟨i, hi', hz', hs, hby⟩ := info_parts hi
  rw [run_make w t e i z ht hi' hz' .i64 .i64 n c h0 hnc (by rw [hby]; exact hb) hm, hs, Nat.mul_one, hz]
  congr 3
  rw [rep_eq, ← toList_madeCells_one z, Array.toArray_toList]

/-- 'copy(dst, src)' into a block that is known whole, elements of one cell. -/
theorem run_copy1 {P : Program} {dT sT ty e e' : TypeId} (ht : P.underlying dT = some (.slice e)) (hs : (P.info? e).map (·.size) = some 1) {w : World} {g o dLen dCap : Nat} {ys : List Value} {cur : Array Value} (hg : w.heap[g]? = some (.cells cur e' (0, 0))) (hy : cur = ys.toArray)
    {v : Value} {xs : List Value} (hx : Sl w v xs) (h1 : ∀ u ∈ xs, u.oneCell' = true) (hfit : o + min xs.length dLen ≤ ys.length) :
    (Builtin.copy_ #[dT, sT] ty #[.slice (some ⟨g, o, none⟩) dLen dCap, v]).run P w =
      .ok (.int .i64 (min xs.length dLen : Nat)) (w.setRow g (ys.take o ++ xs.take dLen ++ ys.drop (o + min xs.length dLen)).toArray) := by
  obtain ⟨a, c, rfl, hc, hm, hcell⟩ := hx
  subst hy
  by_cases h0 : min xs.length dLen = 0
  · rw [run_copy_none w dT sT ty e _ a dLen dCap xs.length c ht hs h0, h0]
    have : xs.take dLen = [] := by
      apply List.eq_nil_of_length_eq_zero
      rw [List.length_take]; omega
    rw [this, Nat.add_zero, List.append_nil, List.take_append_drop, setRow_self w g _ e' (0, 0) hg]
    simp [goInt]
  · have hl : 0 < xs.length := by omega
    obtain ⟨b, q, rfl, _⟩ := hcell 0 xs[0] (by simp [hl])
    have hcs : (xs.take dLen).length = Nat.min xs.length dLen := by
      show _ = min xs.length dLen
      rw [List.length_take]; omega
    rw [run_copy_row P w dT sT ty e g o dLen dCap ⟨b, q, none⟩ xs.length c ys.toArray e' (xs.take dLen) ht hs hg hcs (fun j u hu => ?_) (by rw [hcs]; show o + min _ _ ≤ _; simpa using hfit) (fun u hu => h1 u (List.mem_of_mem_take hu)), hcs]
    · rfl
    · have hadd : (⟨b, q, none⟩ : Addr).add j = ⟨b, q + j, none⟩ := by unfold Addr.add; split <;> simp_all
      rw [hadd]
      rw [List.getElem?_take] at hu
      split at hu
      · obtain ⟨b', q', he, hc'⟩ := hcell j u hu
        simp only [Option.some.injEq, Addr.mk.injEq, and_true] at he
        obtain ⟨rfl, rfl⟩ := he
        exact hc'
      · cases hu

theorem setRow_blk {w : World} {g : Nat} {e : TypeId} {ys : List Value} (hg : w.heap[g]? = some (.cells ys.toArray e (0, 0))) (zs : List Value) : (w.setRow g zs.toArray).heap[g]? = some (.cells zs.toArray e (0, 0)) :=
  setRow_heap w g ys.toArray zs.toArray e (0, 0) hg
theorem grown_setRow {a b : World} {g : Nat} (h : a.grownBy b (some g)) (zs : Array Value) : a.grownBy (b.setRow g zs) (some g) :=
  ⟨h.os, h.tape, h.output, by simpa using h.size, fun k hk hne => by rw [setRow_other b g k zs (by simpa using hne)]; exact h.block k hk hne⟩
theorem Keep.setRow {a w : World} (h : Keep a w) {g : Nat} (hg : a.heap.size ≤ g) (zs : Array Value) : Keep a (w.setRow g zs) :=
  h.grown (grown_setRow (grown_refl w _) zs) (fun k hk => by simp at hk; omega)

/-- Block g is pre, then the octets m, then post; none of it frozen. -/
def Win (w : World) (g : Nat) (e : TypeId) (pre : List Value) (m : List UInt8) (post : List Value) : Prop := w.heap[g]? = some (.cells (pre ++ m.map cb ++ post).toArray e (0, 0))

theorem Win.cell {w : World} {g : Nat} {e : TypeId} {pre post : List Value} {m : List UInt8} (h : Win w g e pre m post) {k : Nat} (hk : k < m.length) {o : Nat} (ho : o = pre.length + k) :
    w.cell? ⟨g, o, none⟩ = some (.int .u8 (m[k]).toNat) := by
  rw [blk_cell h, ho, List.append_assoc, List.getElem?_append_right (by omega), Nat.add_sub_cancel_left, List.getElem?_append_left (by simpa using hk)]
  simp [hk, cb]
theorem Win.frozen {w : World} {g : Nat} {e : TypeId} {pre post : List Value} {m : List UInt8} (h : Win w g e pre m post) (o : Nat) : w.frozen? ⟨g, o, none⟩ = false := blk_frozen h o
theorem Win.set {w : World} {g : Nat} {e : TypeId} {pre post : List Value} {m : List UInt8} (h : Win w g e pre m post) {k : Nat} (hk : k < m.length) (x : UInt8) {o : Nat} (ho : o = pre.length + k) :
    Win (w.setCell ⟨g, o, none⟩ (.int .u8 x.toNat)) g e pre (m.set k x) post := by
  have h1 := blk_set h o (.int .u8 x.toNat)
  unfold Win
  rw [h1, ho]
  congr 3
  rw [List.append_assoc, List.append_assoc, List.set_append_right _ _ (by omega), Nat.add_sub_cancel_left, List.set_append_left _ _ (by simpa using hk), List.map_set]
  rfl
theorem Win.drew {w : World} {g : Nat} {e : TypeId} {pre post : List Value} {m : List UInt8} (h : Win w g e pre m post) : Win w.drew g e pre m post := h
theorem Win.drewN {w : World} {g : Nat} {e : TypeId} {pre post : List Value} {m : List UInt8} (h : Win w g e pre m post) (n : Nat) : Win (w.drewN n) g e pre m post := h
theorem Win.lt {w : World} {g : Nat} {e : TypeId} {pre post : List Value} {m : List UInt8} (h : Win w g e pre m post) : g < w.heap.size := blk_lt h
theorem Win.keep {w w' : World} {g : Nat} {e : TypeId} {pre post : List Value} {m : List UInt8} (h : Win w g e pre m post) (k : Keep w w') : Win w' g e pre m post := k.heap h
theorem Win.kept {w w' : World} {g g' : Nat} {e : TypeId} {pre post : List Value} {m : List UInt8} (h : Win w g e pre m post) (hg : w.grownBy w' (some g')) (hne : g ≠ g') : Win w' g e pre m post :=
  (hg.block g h.lt (by simpa using hne)).trans h
/-- Cut anew. -/
theorem Win.cut {w : World} {g : Nat} {e : TypeId} {pre post pre' post' : List Value} {m m' : List UInt8} (h : Win w g e pre m post) (he : pre ++ m.map cb ++ post = pre' ++ m'.map cb ++ post') : Win w g e pre' m' post' := by
  unfold Win at *
  rw [← he]; exact h

theorem Win.range {w : World} {g : Nat} {e0 : TypeId} {sp : List Value} {l0 : List UInt8} {k : Nat} {f : Nat → UInt8} (h : Win w g e0 [] ((List.range k).map f ++ l0.drop k) sp) (hk : k < l0.length) :
    Win (w.setCell ⟨g, k, none⟩ (.int .u8 (f k).toNat)) g e0 [] ((List.range (k + 1)).map f ++ l0.drop (k + 1)) sp := by
  rw [List.drop_eq_getElem_cons hk] at h
  have := h.set (k := k) (by simp; omega) (f k) (o := k) (by simp)
  rw [List.set_append_right _ _ (by simp)] at this
  simp only [List.length_map, List.length_range, Nat.sub_self, List.set_cons_zero] at this
  rwa [List.range_succ, List.map_append, List.map_singleton, List.append_assoc, List.singleton_append]

theorem Own.win {B : Nat} {e : TypeId} {w : World} {v : Value} {l : List UInt8} (h : Own B e w v (l.map cb)) :
    (v = .slice none 0 0 ∧ l = []) ∨ ∃ g cap sp, v = .slice (some ⟨g, 0, none⟩) l.length cap ∧ B ≤ g ∧ Win w g e [] l sp ∧ l.length + sp.length = cap ∧ cap ≤ maxLen := by
  rcases h.form with ⟨hv, hl⟩ | ⟨g, cap, sp, hv, hB, hg, hc, hm⟩
  · exact Or.inl ⟨hv, List.map_eq_nil_iff.1 hl⟩
  · rw [List.length_map] at hv hc
    exact Or.inr ⟨g, cap, sp, hv, hB, hg, hc, hm⟩
theorem Own.of_win {B : Nat} {e : TypeId} {w : World} {l : List UInt8} {g cap : Nat} {sp : List Value} (hB : B ≤ g) (hg : Win w g e [] l sp) (hc : l.length + sp.length = cap) (hm : cap ≤ maxLen) :
    Own B e w (.slice (some ⟨g, 0, none⟩) l.length cap) (l.map cb) := by
  have := Own.of_blk (xs := l.map cb) (sp := sp) hB hg (by simpa using hc) hm
  rwa [List.length_map] at this

/-! ### Octets and bit operations -/
theorem ofInt_u8 (x : UInt8) : BitVec.ofInt 8 (x.toNat : Int) = x.toBitVec := by
  apply BitVec.eq_of_toNat_eq
  rw [BitVec.toNat_ofInt]
  have h : x.toNat < 256 := UInt8.toNat_lt x
  show ((x.toNat : Int) % (2 ^ 8 : Nat)).toNat = x.toNat
  omega
theorem wrap_u8 (n : Nat) (h : n < 256) : IntKind.u8.wrap (n : Int) = n := by
  simp [IntKind.wrap, IntKind.signed, IntKind.bits]
  omega
theorem bits_or8 (x y : UInt8) : bits .or .u8 (x.toNat : Int) (y.toNat : Int) = ((x ||| y).toNat : Int) := by
  show IntKind.u8.wrap ((BitVec.ofInt 8 _ ||| BitVec.ofInt 8 _).toNat : Int) = _
  rw [ofInt_u8, ofInt_u8]
  exact wrap_u8 _ (UInt8.toNat_lt (x ||| y))
theorem bits_xor8 (x y : UInt8) : bits .xor .u8 (x.toNat : Int) (y.toNat : Int) = ((x ^^^ y).toNat : Int) := by
  show IntKind.u8.wrap ((BitVec.ofInt 8 _ ^^^ BitVec.ofInt 8 _).toNat : Int) = _
  rw [ofInt_u8, ofInt_u8]
  exact wrap_u8 _ (UInt8.toNat_lt (x ^^^ y))
theorem bits_and8 (x y : UInt8) : bits .and .u8 (x.toNat : Int) (y.toNat : Int) = ((x &&& y).toNat : Int) := by
  show IntKind.u8.wrap ((BitVec.ofInt 8 _ &&& BitVec.ofInt 8 _).toNat : Int) = _
  rw [ofInt_u8, ofInt_u8]
  exact wrap_u8 _ (UInt8.toNat_lt (x &&& y))
theorem ofInt_u8' (x : Nat) (h : x < 2 ^ 8) : (BitVec.ofInt 8 (x : Int)).toNat = x := by
  rw [BitVec.ofInt_natCast, BitVec.toNat_ofNat, Nat.mod_eq_of_lt h]
theorem wrap_u8' (x : Nat) (h : x < 2 ^ 8) : IntKind.u8.wrap (x : Int) = x := by
  simp [IntKind.wrap, IntKind.signed, IntKind.bits]
  omega
theorem bits_or_u8 (x y : Nat) (hx : x < 2 ^ 8) (hy : y < 2 ^ 8) : bits .or .u8 (x : Int) (y : Int) = ((x ||| y : Nat) : Int) := by
  show IntKind.u8.wrap ((BitVec.ofInt 8 _ ||| BitVec.ofInt 8 _).toNat : Int) = _
  rw [BitVec.toNat_or, ofInt_u8' x hx, ofInt_u8' y hy]
  exact wrap_u8' _ (Nat.or_lt_two_pow hx hy)
theorem bits_and_u8 (x y : Nat) (hx : x < 2 ^ 8) (hy : y < 2 ^ 8) : bits .and .u8 (x : Int) (y : Int) = ((x &&& y : Nat) : Int) := by
  show IntKind.u8.wrap ((BitVec.ofInt 8 _ &&& BitVec.ofInt 8 _).toNat : Int) = _
  rw [BitVec.toNat_and, ofInt_u8' x hx, ofInt_u8' y hy]
  exact wrap_u8' _ (Nat.and_lt_two_pow _ hy)
theorem bits_xor_u8 (x y : Nat) (hx : x < 2 ^ 8) (hy : y < 2 ^ 8) : bits .xor .u8 (x : Int) (y : Int) = ((x ^^^ y : Nat) : Int) := by
  show IntKind.u8.wrap ((BitVec.ofInt 8 _ ^^^ BitVec.ofInt 8 _).toNat : Int) = _
  rw [BitVec.toNat_xor, ofInt_u8' x hx, ofInt_u8' y hy]
  exact wrap_u8' _ (Nat.xor_lt_two_pow hx hy)
theorem ofInt_u16' (x : Nat) (h : x < 2 ^ 16) : (BitVec.ofInt 16 (x : Int)).toNat = x := by
  rw [BitVec.ofInt_natCast, BitVec.toNat_ofNat, Nat.mod_eq_of_lt h]
theorem wrap_u16' (x : Nat) (h : x < 2 ^ 16) : IntKind.u16.wrap (x : Int) = x := by
  simp [IntKind.wrap, IntKind.signed, IntKind.bits]
  omega
theorem bits_or_u16 (x y : Nat) (hx : x < 2 ^ 16) (hy : y < 2 ^ 16) : bits .or .u16 (x : Int) (y : Int) = ((x ||| y : Nat) : Int) := by
  show IntKind.u16.wrap ((BitVec.ofInt 16 _ ||| BitVec.ofInt 16 _).toNat : Int) = _
  rw [BitVec.toNat_or, ofInt_u16' x hx, ofInt_u16' y hy]
  exact wrap_u16' _ (Nat.or_lt_two_pow hx hy)
theorem bits_and_u16 (x y : Nat) (hx : x < 2 ^ 16) (hy : y < 2 ^ 16) : bits .and .u16 (x : Int) (y : Int) = ((x &&& y : Nat) : Int) := by
  show IntKind.u16.wrap ((BitVec.ofInt 16 _ &&& BitVec.ofInt 16 _).toNat : Int) = _
  rw [BitVec.toNat_and, ofInt_u16' x hx, ofInt_u16' y hy]
  exact wrap_u16' _ (Nat.and_lt_two_pow _ hy)
theorem bits_xor_u16 (x y : Nat) (hx : x < 2 ^ 16) (hy : y < 2 ^ 16) : bits .xor .u16 (x : Int) (y : Int) = ((x ^^^ y : Nat) : Int) := by
  show IntKind.u16.wrap ((BitVec.ofInt 16 _ ^^^ BitVec.ofInt 16 _).toNat : Int) = _
  rw [BitVec.toNat_xor, ofInt_u16' x hx, ofInt_u16' y hy]
  exact wrap_u16' _ (Nat.xor_lt_two_pow hx hy)
theorem ofInt_u32' (x : Nat) (h : x < 2 ^ 32) : (BitVec.ofInt 32 (x : Int)).toNat = x := by
  rw [BitVec.ofInt_natCast, BitVec.toNat_ofNat, Nat.mod_eq_of_lt h]
theorem wrap_u32' (x : Nat) (h : x < 2 ^ 32) : IntKind.u32.wrap (x : Int) = x := by
  simp [IntKind.wrap, IntKind.signed, IntKind.bits]
  omega
theorem bits_or_u32 (x y : Nat) (hx : x < 2 ^ 32) (hy : y < 2 ^ 32) : bits .or .u32 (x : Int) (y : Int) = ((x ||| y : Nat) : Int) := by
  show IntKind.u32.wrap ((BitVec.ofInt 32 _ ||| BitVec.ofInt 32 _).toNat : Int) = _
  rw [BitVec.toNat_or, ofInt_u32' x hx, ofInt_u32' y hy]
  exact wrap_u32' _ (Nat.or_lt_two_pow hx hy)
theorem bits_and_u32 (x y : Nat) (hx : x < 2 ^ 32) (hy : y < 2 ^ 32) : bits .and .u32 (x : Int) (y : Int) = ((x &&& y : Nat) : Int) := by
  show IntKind.u32.wrap ((BitVec.ofInt 32 _ &&& BitVec.ofInt 32 _).toNat : Int) = _
  rw [BitVec.toNat_and, ofInt_u32' x hx, ofInt_u32' y hy]
  exact wrap_u32' _ (Nat.and_lt_two_pow _ hy)
theorem bits_xor_u32 (x y : Nat) (hx : x < 2 ^ 32) (hy : y < 2 ^ 32) : bits .xor .u32 (x : Int) (y : Int) = ((x ^^^ y : Nat) : Int) := by
  show IntKind.u32.wrap ((BitVec.ofInt 32 _ ^^^ BitVec.ofInt 32 _).toNat : Int) = _
  rw [BitVec.toNat_xor, ofInt_u32' x hx, ofInt_u32' y hy]
  exact wrap_u32' _ (Nat.xor_lt_two_pow hx hy)
theorem ofInt_u64' (x : Nat) (h : x < 2 ^ 64) : (BitVec.ofInt 64 (x : Int)).toNat = x := by
  rw [BitVec.ofInt_natCast, BitVec.toNat_ofNat, Nat.mod_eq_of_lt h]
theorem wrap_u64' (x : Nat) (h : x < 2 ^ 64) : IntKind.u64.wrap (x : Int) = x := by
  simp [IntKind.wrap, IntKind.signed, IntKind.bits]
  omega
theorem bits_or_u64 (x y : Nat) (hx : x < 2 ^ 64) (hy : y < 2 ^ 64) : bits .or .u64 (x : Int) (y : Int) = ((x ||| y : Nat) : Int) := by
  show IntKind.u64.wrap ((BitVec.ofInt 64 _ ||| BitVec.ofInt 64 _).toNat : Int) = _
  rw [BitVec.toNat_or, ofInt_u64' x hx, ofInt_u64' y hy]
  exact wrap_u64' _ (Nat.or_lt_two_pow hx hy)
theorem bits_and_u64 (x y : Nat) (hx : x < 2 ^ 64) (hy : y < 2 ^ 64) : bits .and .u64 (x : Int) (y : Int) = ((x &&& y : Nat) : Int) := by
  show IntKind.u64.wrap ((BitVec.ofInt 64 _ &&& BitVec.ofInt 64 _).toNat : Int) = _
  rw [BitVec.toNat_and, ofInt_u64' x hx, ofInt_u64' y hy]
  exact wrap_u64' _ (Nat.and_lt_two_pow _ hy)
theorem bits_xor_u64 (x y : Nat) (hx : x < 2 ^ 64) (hy : y < 2 ^ 64) : bits .xor .u64 (x : Int) (y : Int) = ((x ^^^ y : Nat) : Int) := by
  show IntKind.u64.wrap ((BitVec.ofInt 64 _ ^^^ BitVec.ofInt 64 _).toNat : Int) = _
  rw [BitVec.toNat_xor, ofInt_u64' x hx, ofInt_u64' y hy]
  exact wrap_u64' _ (Nat.xor_lt_two_pow hx hy)
/-- Two parts that do not overlap. -/
theorem or_add (a b i : Nat) (h : b < 2 ^ i) : (a * 2 ^ i ||| b) = a * 2 ^ i + b := by
  rw [← Nat.shiftLeft_eq, Nat.shiftLeft_add_eq_or_of_lt h]
theorem and_mask (a i : Nat) : a &&& (2 ^ i - 1) = a % 2 ^ i := Nat.and_two_pow_sub_one_eq_mod a i
/-- Go's shifts of an octet, by whatever count. -/
def shr8 (x : UInt8) (s : Nat) : UInt8 := UInt8.ofNat (x.toNat / 2 ^ s)
def shl8 (x : UInt8) (s : Nat) : UInt8 := UInt8.ofNat (x.toNat * 2 ^ s)
theorem shl8_val (x : UInt8) (s : Nat) : ((shl8 x s).toNat : Int) = (x.toNat : Int) * 2 ^ s % 256 := by
  unfold shl8
  show ((x.toNat * 2 ^ s % 2 ^ 8 : Nat) : Int) = _
  simp
theorem shr8_val (x : UInt8) (s : Nat) : ((shr8 x s).toNat : Int) = (x.toNat : Int) / 2 ^ s := by
  unfold shr8
  have h : x.toNat / 2 ^ s < 256 := Nat.lt_of_le_of_lt (Nat.div_le_self _ _) (UInt8.toNat_lt x)
  show ((x.toNat / 2 ^ s % 2 ^ 8 : Nat) : Int) = _
  rw [Nat.mod_eq_of_lt h]
  simp

theorem Win.bs {w : World} {g : Nat} {e : TypeId} {m : List UInt8} {sp : List Value} (h : Win w g e [] m sp) {n c : Nat} (hn : n = m.length) (hnc : n ≤ c) (hc : c ≤ maxLen) : Bs w (.slice (some ⟨g, 0, none⟩) n c) m := by
  subst hn
  refine ⟨_, c, by rw [List.length_map], by rw [List.length_map]; exact hnc, hc, fun k u hu => ⟨g, 0, rfl, ?_⟩⟩
  have hk : k < m.length := by
    have := (List.getElem?_eq_some_iff.1 hu).1
    simpa using this
  rw [h.cell hk (o := 0 + k) (by simp), ← hu]
  simp [hk, cb]
theorem Bs.block {w : World} {v : Value} {l : List UInt8} (h : Bs w v l) (hl : l.length ≠ 0) {g : Nat} (hg : w.heap.size ≤ g) : v.ownBlock ≠ some g := by
  obtain ⟨a, c, rfl, _, _, h3⟩ := h.form
  obtain ⟨b, o, rfl, hc⟩ := h3 0 (by omega)
  have := World.block_lt_of_cell? w _ hc
  simp only [Value.ownBlock, ne_eq, Option.some.injEq]
  show ¬ b = g
  simp only at this
  omega
/-- 'append(xs, ys...)', one-cell elements, xs a slice of the call's own, ys whatever reads. -/
theorem run_app {P : Program} {w : World} {t ty e : TypeId} {z : Value} {bytes : Nat} (ht : P.underlying t = some (.slice e)) (hi : (P.info? e).map (fun i => (i.zero, i.size, i.bytes)) = some (some z, 1, bytes)) (hz : z.cells = #[z])
    {B : Nat} {v : Value} {xs : List Value} (hown : Own B e w v xs) {xv : Value} {ys : List Value} (hsl : Sl w xv ys) (h1 : ∀ u ∈ ys, u.oneCell' = true)
    (hm : xs.length + ys.length ≤ maxLen) (hb : (xs.length + ys.length) * bytes ≤ 140737488355328) (hB : B ≤ w.heap.size) :
    ∃ v' w', (Builtin.append_ #[t, t] ty #[v, xv]).run P w = .ok v' w' ∧ Own B e w' v' (xs ++ ys) ∧ w.grownBy w' v.ownBlock ∧ (v'.ownBlock = v.ownBlock ∨ v'.ownBlock = some w.heap.size) := by
  obtain ⟨i, hi', hz', hs, hby⟩ := info_parts hi
  obtain ⟨a, c, rfl, hc, hcm, hcell⟩ := hsl
  cases a with
  | some ad =>
    obtain ⟨v', w', h2, h3, h4, _, h5⟩ := run_append_own_at (P := P) w B t ty e i z 1 bytes ht hi' hz' hs hby (by rw [hz]; rfl) (by omega) v xs.length xs hown ad ys.length c ys (by omega)
      (fun j u hu => by
        obtain ⟨b, o, ha, hc'⟩ := hcell j u hu
        simp only [Option.some.injEq] at ha
        subst ha
        have hadd : (⟨b, o, none⟩ : Addr).add j = ⟨b, o + j, none⟩ := by unfold Addr.add; split <;> simp_all
        rw [hadd]; exact hc') h1 hm hb hB
    refine ⟨v', w', h2, ?_, h4, h5⟩
    unfold Own
    rw [List.length_append]
    exact h3
  | none =>
    have hy : ys = [] := by
      cases ys with
      | nil => rfl
      | cons y r =>
        obtain ⟨b, o, ha, _⟩ := hcell 0 y (by simp)
        cases ha
    subst hy
    refine ⟨v, w, ?_, by simpa using hown, grown_refl _ _, Or.inl rfl⟩
    rcases hown.2 with ⟨rfl, h0⟩ | ⟨g, cap, cur, rfl, _, _, hnc, _⟩
    · simp [Builtin.append_, run_underlying ht, sizeOf, typeInfo, hi', Builtin.lenOf, Builtin.firstCells]
    · simp [Builtin.append_, run_underlying ht, sizeOf, typeInfo, hi', Builtin.lenOf, Builtin.firstCells, hnc, storeCells]

theorem wpList_app {P : Program} {ops : Array Oper} {rest : List Oper} {o : Oper} {a : Act} {Q : Exit → Act → World → Prop} {w : World} (hgd : o.guard = none) (s x : Operand) (t : TypeId)
    (ho : o.op = .call { callee := .builtin .append, args := #[s, x], argTypes := #[t, t] })
    {e : TypeId} {z : Value} {bytes : Nat} (ht : P.underlying t = some (.slice e)) (hi : (P.info? e).map (fun i => (i.zero, i.size, i.bytes)) = some (some z, 1, bytes)) (hz : z.cells = #[z])
    (B : Nat) {v : Value} {xs : List Value} (hown : Own B e w v xs) {xv : Value} {ys : List Value} (hsl : Sl w xv ys) (h1 : ∀ u ∈ ys, u.oneCell' = true)
    (hs : a.eval s = v) (hx : a.eval x = xv)
    (hm : xs.length + ys.length ≤ maxLen) (hb : (xs.length + ys.length) * bytes ≤ 140737488355328) (hB : B ≤ w.heap.size)
    (h : ∀ v' w', Own B e w' v' (xs ++ ys) → w.grownBy w' v.ownBlock → (v'.ownBlock = v.ownBlock ∨ v'.ownBlock = some w.heap.size) → wpList P ops Q rest (a.put o.dst v') w') : wpList P ops Q (o :: rest) a w := by
  refine wpList_plain hgd fun _ hK => ?_
  obtain ⟨v', w', hr, h2, h3, h4⟩ := run_app (ty := o.type) ht hi hz hown hsl h1 hm hb hB
  unfold Oper.wp execOp
  simp only [ho, resolve, invoke, builtin, Sem.run_bind, Sem.run_pure, Result.andThen_ok, List.map_toArray, List.map_cons, List.map_nil, hs, hx, hr]
  exact hK _ _ (h v' w' h2 h3 h4)

/-- One new element, laid into a block of its own first. -/
theorem Sl.one {w : World} {e : TypeId} (u : Value) : Sl (w.alloc (.cells #[u] e)) (.slice (some ⟨w.heap.size, 0, none⟩) 1 1) [u] := (Own.lit (B := w.heap.size) (w := w) [u] (Nat.le_refl _) (by simp [maxLen])).sl
theorem Own.alloc {B : Nat} {e : TypeId} {w : World} {v : Value} {xs : List Value} (h : Own B e w v xs) (o : Obj) : Own B e (w.alloc o) v xs := h.keep ((Keep.refl w).alloc o)

theorem Hid.mk {p : Prop} (h : p) : Hid p := h
theorem ret_bool {a b : Bool} (h : a = b) : Ending.returned (.bool a) = .returned (.bool b) := by rw [h]
theorem ret_int {k : IntKind} {a b : Int} (h : a = b) : Ending.returned (.int k a) = .returned (.int k b) := by rw [h]

end Go.Qm
