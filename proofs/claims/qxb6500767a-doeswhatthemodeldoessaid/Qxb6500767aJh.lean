/- mergem: the bounds that Dump leans on (plain). -/
import Derived.Test.Qxb6500767aJc
import Derived.Test.Qxb6500767aJe
import Derived.Test.Qxb6500767aJg
import Derived.Test.Qxb6500767aSmall
namespace Go.Proofs.Qxb6500767a
open Go.RowKit Go.Qm
set_option linter.unusedVariables false
set_option linter.unusedSimpArgs false
theorem arrK {y w' : World} {g : Nat} {t : TypeId} {cs : List Value} {row : Option Nat} (A : Arr y g t cs) (hg : y.grownBy w' row) (hn : row ≠ some g) : Arr w' g t cs := (hg.block g A.lt (fun e => hn e.symm)).trans A
structure DB (T : List Nd) : Prop where
  len : T.length ≤ 70001
  kind : ∀ i, (at' T i).kind ≤ 3
  mode : ∀ i, -9223372036854775808 < (at' T i).mode ∧ (at' T i).mode ≤ 9223372036854775807
  links : ∀ i, (at' T i).links ≤ 100000
  opens : ∀ i, (at' T i).opens ≤ 100000
  par : ∀ i, (at' T i).par ≤ 100000
  data : ∀ i, (at' T i).data.length ≤ 32768
  few : ∀ i, (at' T i).edges.length ≤ 70000
  edg : ∀ i, ∀ e ∈ (at' T i).edges, e.key.length ≤ 4000 ∧ e.spl.length ≤ 255 ∧ e.node ≤ 100000
theorem digN_le {n : Nat} (h : n ≤ 100000) : (digN n).length ≤ 6 := digN_len 5 n (by omega)
theorem hdrF_len {T : List Nd} (b : DB T) {i : Nat} (hi : i ≤ 100000) : (hdrF i (at' T i)).length ≤ 200 := by
  have h0 := digN_le hi
  have h1 := digN_le (n := (at' T i).kind) (by have := b.kind i; omega)
  have h2 := digI_len (b.mode i).1 (b.mode i).2
  have h3 := digN_le (b.links i)
  have h4 := digN_le (b.opens i)
  have h5 := digN_le (b.par i)
  have h6 := digN_le (n := (at' T i).data.length) (by have := b.data i; omega)
  unfold hdrF
  simp only [List.length_append, List.length_cons, List.length_nil]
  omega
theorem edgF_len {T : List Nd} (b : DB T) {i : Nat} {e : Edg} (he : e ∈ (at' T i).edges) : (edgF e).length ≤ 4400 := by
  obtain ⟨k1, k2, k3⟩ := b.edg i e he
  have h0 := digN_le (n := e.key.length) (by omega)
  have h1 := digN_le (n := e.spl.length) (by omega)
  have h2 := digN_le k3
  unfold edgF
  simp only [List.length_append, List.length_cons, List.length_nil]
  omega
theorem edg_flat {l : List Edg} : ∀ (h : ∀ e ∈ l, (edgF e).length ≤ 4400), (l.flatMap edgF).length ≤ l.length * 4400 := by
  induction l with
  | nil => intro _; simp
  | cons x l ih =>
    intro h
    have h1 := h x (by simp)
    have h2 := ih (fun e he => h e (List.mem_cons_of_mem _ he))
    rw [List.flatMap_cons, List.length_append, List.length_cons]
    omega
theorem dumpN_len {T : List Nd} (b : DB T) {i : Nat} (hi : i ≤ 100000) : (dumpN T i).length ≤ 308100000 := by
  unfold dumpN
  split
  · exact Nat.zero_le _
  · have h1 := hdrF_len b hi
    have h2 := b.data i
    have h3 := edg_flat (l := (at' T i).edges) (fun e he => edgF_len (i := i) b he)
    have h4 := b.few i
    simp only [List.length_append, List.length_cons, List.length_nil]
    omega
theorem dumpK_len {T : List Nd} (b : DB T) : ∀ k, k ≤ 100000 → (dumpK T k).length ≤ k * 308100000
  | 0, _ => by simp [dumpK]
  | k + 1, h => by
    rw [dumpK_succ, List.length_append]
    have h1 := dumpK_len b k (by omega)
    have h2 := dumpN_len b (i := k) (by omega)
    omega
theorem run_spm {ss : List OpV} (hr : ∀ s ∈ ss, -9223372036854775808 ≤ s.mode ∧ s.mode ≤ 9223372036854775807) : ∀ k, k ≤ ss.length → SPM (runS ss k).T
  | 0, _ => spm0
  | k + 1, h => by
    rw [runS_succ (by omega)]
    exact play_spm (run_spm hr k (by omega)) (hr _ (List.getElem_mem _))
theorem db_of {k u : Nat} {hs : List Hd} {T : List Nd} (si : SI k u hs T) (hk : k ≤ 70000) (sp : SPM T) : DB T where
  len := by have := si.t.len; omega
  kind := fun i => si.t.kd i
  mode := fun i => ⟨(sp i).mode.1, (sp i).mode.2⟩
  links := fun i => by have := si.t.links i; omega
  opens := fun i => by have := si.h.olt i; omega
  par := fun i => by have := si.t.par i; have := si.t.len; omega
  data := fun i => si.t.data i
  few := fun i => by have := si.t.few i; omega
  edg := fun i e he => ⟨(si.t.keys i e he).2, (sp i).spl e he, by have := si.t.edg i e he; have := si.t.len; omega⟩
end Go.Proofs.Qxb6500767a
