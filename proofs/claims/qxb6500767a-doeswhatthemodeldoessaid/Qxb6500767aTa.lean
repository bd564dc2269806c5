/- The tree: its nodes and edges, in Lean and in memory. -/
import Derived.Test.Qxb6500767aFr
import Derived.Deep.CutRange
import Derived.Deep.CutBlock
namespace Go.Proofs.Qxb6500767a
open Go.RowKit Go.Qm
set_option linter.unusedVariables false
set_option linter.unusedSimpArgs false
attribute [local go_sem ↓] Go.wp_at_zero Go.wp_at_succ
structure Edg where
  key : List UInt8
  spl : List UInt8
  node : Nat
structure Nd where
  kind : Nat
  mode : Int
  links : Nat
  opens : Nat
  par : Nat
  data : List UInt8
  edges : List Edg
def nd0 : Nd := ⟨0, 0, 0, 0, 0, [], []⟩
/-- Node i. -/
def at' (T : List Nd) (i : Nat) : Nd := T.getD i nd0
theorem at_get {T : List Nd} {i : Nat} (h : i < T.length) : at' T i = T[i] := by
  unfold at'; rw [List.getD_eq_getElem?_getD, List.getElem?_eq_getElem h]; rfl
def edgC (e : Edg) : List Value := [str e.key, str e.spl, .int .i64 (e.node : Nat)]
theorem edgC_length (e : Edg) : (edgC e).length = 3 := rfl
theorem edgC_one (e : Edg) : ∀ u ∈ edgC e, u.oneCell' = true := by intro u hu; simp [edgC] at hu; rcases hu with rfl | rfl | rfl <;> rfl
/-- A node as it lies: with the values of its two slices. -/
structure Nm where
  nd : Nd
  dv : Value
  ev : Value
def nodC (x : Nm) : List Value := [.int .i64 (x.nd.kind : Nat), .int .i64 x.nd.mode, .int .i64 (x.nd.links : Nat), .int .i64 (x.nd.opens : Nat), .int .i64 (x.nd.par : Nat), x.dv, x.ev]
theorem nodC_length (x : Nm) : (nodC x).length = 7 := rfl
/-- The slice v reads as these edges. -/
def Es (w : World) (v : Value) (l : List Edg) : Prop :=
  ∃ (a : Option Addr) (c : Nat), v = .slice a l.length c ∧ l.length ≤ c ∧ c ≤ maxLen ∧ ∀ k (hk : k < l.length), ∃ g, a = some ⟨g, 0, none⟩ ∧ w.cell? ⟨g, k * 3, none⟩ = some (str l[k].key) ∧ w.cell? ⟨g, k * 3 + 1, none⟩ = some (str l[k].spl) ∧ w.cell? ⟨g, k * 3 + 2, none⟩ = some (.int .i64 (l[k].node : Nat))
theorem Es.keep {w w' : World} {v : Value} {l : List Edg} (h : Es w v l) (k : Keep w w') : Es w' v l := by
  obtain ⟨a, c, e, h1, h2, h3⟩ := h
  refine ⟨a, c, e, h1, h2, fun i hi => ?_⟩
  obtain ⟨g, e, c0, c1, c2⟩ := h3 i hi
  exact ⟨g, e, k.cell c0, k.cell c1, k.cell c2⟩
theorem Es.of_own {B : Nat} {w : World} {v : Value} {l : List Edg} (h : OwnS edgC 3 102 B w v l) : Es w v l := by
  rcases h.form with ⟨rfl, rfl⟩ | ⟨g, cap, cur, rfl, hB, hA, hc, hm, hl, ht⟩
  · exact ⟨none, 0, rfl, by simp, by simp [maxLen], fun k hk => by simp at hk⟩
  · refine ⟨_, cap, rfl, hc, hm, fun k hk => ⟨g, rfl, ?_, ?_, ?_⟩⟩
    · have e := flat_take_get edgC_length ht k 0 hk (by omega)
      rw [Nat.add_zero] at e
      exact (hA.cell _).trans e
    · exact (hA.cell _).trans (flat_take_get edgC_length ht k 1 hk (by omega))
    · exact (hA.cell _).trans (flat_take_get edgC_length ht k 2 hk (by omega))
/-- Node i lies in block bn. -/
def NodeAt (w : World) (bn i : Nat) (x : Nd) : Prop :=
  ∃ dv ev, w.cell? ⟨bn, i * 7, none⟩ = some (.int .i64 (x.kind : Nat)) ∧ w.cell? ⟨bn, i * 7 + 1, none⟩ = some (.int .i64 x.mode) ∧ w.cell? ⟨bn, i * 7 + 2, none⟩ = some (.int .i64 (x.links : Nat)) ∧ w.cell? ⟨bn, i * 7 + 3, none⟩ = some (.int .i64 (x.opens : Nat)) ∧ w.cell? ⟨bn, i * 7 + 4, none⟩ = some (.int .i64 (x.par : Nat)) ∧
    w.cell? ⟨bn, i * 7 + 5, none⟩ = some dv ∧ w.cell? ⟨bn, i * 7 + 6, none⟩ = some ev ∧ Bs w dv x.data ∧ Es w ev x.edges
theorem NodeAt.keep {w w' : World} {bn i : Nat} {x : Nd} (h : NodeAt w bn i x) (k : Keep w w') : NodeAt w' bn i x := by
  obtain ⟨dv, ev, c0, c1, c2, c3, c4, c5, c6, hd, he⟩ := h
  exact ⟨dv, ev, k.cell c0, k.cell c1, k.cell c2, k.cell c3, k.cell c4, k.cell c5, k.cell c6, hd.keep k, he.keep k⟩
/-- The tree at block gt reads as T. -/
def TR (w : World) (gt : Nat) (T : List Nd) : Prop :=
  ∃ bn cap, w.cell? ⟨gt, 0, none⟩ = some (.slice (some ⟨bn, 0, none⟩) T.length cap) ∧ T.length ≤ cap ∧ cap ≤ maxLen ∧ ∀ i, i < T.length → NodeAt w bn i (at' T i)
theorem TR.keep {w w' : World} {gt : Nat} {T : List Nd} (h : TR w gt T) (k : Keep w w') : TR w' gt T := by
  obtain ⟨bn, cap, c0, h1, h2, h3⟩ := h
  exact ⟨bn, cap, k.cell c0, h1, h2, fun i hi => (h3 i hi).keep k⟩
/-- The place of a key among edges. -/
def findE (key : List UInt8) : List Edg → Option Nat
  | [] => none
  | e :: l => if e.key = key then some 0 else (findE key l).map (· + 1)
theorem findE_skip {key : List UInt8} : ∀ {k : Nat} {l : List Edg}, k ≤ l.length → (∀ i (hi : i < l.length), i < k → l[i].key ≠ key) → findE key l = (findE key (l.drop k)).map (· + k)
  | 0, l, _, _ => by simp
  | k + 1, [], h, _ => by simp at h
  | k + 1, e :: l, h, hn => by
    have h0 : e.key ≠ key := hn 0 (by simp) (by omega)
    rw [findE, if_neg h0, findE_skip (k := k) (l := l) (by simpa using h) (fun i hi hk => by have := hn (i + 1) (by simp; omega) (by omega); simpa using this), List.drop_succ_cons]
    rw [Option.map_map]
    congr 1
theorem findE_at {key : List UInt8} {l : List Edg} {k : Nat} (hk : k < l.length) (hn : ∀ i (hi : i < l.length), i < k → l[i].key ≠ key) (h : l[k].key = key) : findE key l = some k := by
  rw [findE_skip (Nat.le_of_lt hk) hn, List.drop_eq_getElem_cons hk, findE, if_pos h]; simp
theorem findE_none {key : List UInt8} {l : List Edg} (hn : ∀ i (hi : i < l.length), l[i].key ≠ key) : findE key l = none := by
  rw [findE_skip (Nat.le_refl _) (fun i hi _ => hn i hi), List.drop_length]; rfl
def optI : Option Nat → Int
  | none => -1
  | some q => (q : Nat)
set_option maxHeartbeats 2000000 in
set_option maxRecDepth 3000 in
theorem find_c (gt d : Nat) (T : List Nd) (key : List UInt8) (w : World) (h : TR w gt T) (hd : d < T.length) (hl : (at' T d).edges.length ≤ 1000000) :
    Calls Try.prog 93 #[.pointer (some ⟨gt, 0, none⟩), .int .i64 d, str key] w fun e w' => e = .returned (.int .i64 (optI (findE key (at' T d).edges))) ∧ w' = w := by
  obtain ⟨bn, cap, c0, h1, h2, h3⟩ := h
  obtain ⟨dv, ev, n0, n1, n2, n3, n4, n5, n6, -, a, c, rfl, e1, e2, e3⟩ := h3 d hd
  generalize (at' T d).edges = es at *
  have i1 : (d : Int) < T.length := by omega
  have i2 : (0 : Int) ≤ d := by omega
  unfold maxLen at h2 e2
  clear h3 n0 n1 n2 n3 n4 n5
  go_enter Try.func93, Try.ntmps93
  go_wp2_with fail
  go_loopg [7] es.length (fun gk iv wr => ∃ k : Nat, k + gk = es.length ∧ iv = .int .i64 k ∧ (∀ i (hi : i < es.length), i < k → es[i].key ≠ key) ∧ wr = w)
  case atStart => exact ⟨0, Nat.zero_add _, rfl, fun i _ hi => absurd hi (Nat.not_lt_zero _), rfl⟩
  case round => as_aux_lemma =>
    obtain ⟨k, hk, rfl, hn, rfl⟩ := hrel
    by_cases hlt : k < es.length
    · have j1 : (k : Int) < es.length := by omega
      obtain ⟨g, rfl, e3c, -, -⟩ := e3 k hlt
      by_cases hx : es[k].key = key
      · have HF : Hid (findE key es = some k) := Hid.mk (findE_at hlt hn hx)
        have q1 : (es[k].key == key) = true := by simpa using hx
        clear hn hx e3
        go_wp2_with fail
        go_ret
        rw [HF.out]
        exact ⟨rfl, rfl⟩
      · have q1 : (es[k].key == key) = false := by simpa using hx
        have HN : Hid (∀ i (hi : i < es.length), i < k + 1 → es[i].key ≠ key) := Hid.mk (fun i hi hik => by
          by_cases e : i = k
          · subst e; exact hx
          · exact hn i hi (by omega))
        clear hn hx e3
        go_wp2_with fail
        go_roundg (gk - 1)
        case measure => omega
        case rel => exact ⟨k + 1, by omega, by go_num, HN.out, rfl⟩
    · have j1 : ¬ (k : Int) < es.length := by omega
      have HF : Hid (findE key es = none) := Hid.mk (findE_none (fun i hi => hn i hi (by omega)))
      clear hn e3
      go_wp2_with fail
      go_ret
      rw [HF.out]
      exact ⟨rfl, rfl⟩
end Go.Proofs.Qxb6500767a
