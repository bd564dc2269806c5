/- mergem: digits of any number; the line of a node. -/
import Derived.Test.Qxb6500767aJb
namespace Go.Proofs.Qxb6500767a
open Go.RowKit Go.Qm
set_option linter.unusedVariables false
set_option linter.unusedSimpArgs false
attribute [local go_sem ↓] Go.wp_at_zero Go.wp_at_succ
def digI (z : Int) : List UInt8 := if z < 0 then [45] ++ digN (-z).toNat else digN z.toNat
theorem digI_nat (n : Nat) : digI (n : Int) = digN n := by unfold digI; rw [if_neg (by omega), Int.toNat_natCast]
theorem digI_len {z : Int} (h1 : -9223372036854775808 < z) (h2 : z ≤ 9223372036854775807) : (digI z).length ≤ 20 := by
  unfold digI
  split
  · have := digN_len 18 (-z).toNat (by omega)
    simp; omega
  · have := digN_len 18 z.toNat (by omega)
    omega
set_option maxRecDepth 3000 in
theorem digitsI_c (z : Int) (h1 : -9223372036854775808 < z) (h2 : z ≤ 9223372036854775807) (w : World) : Calls Try.prog 72 #[.int .i64 z] w fun e w' => e = .returned (str (digI z)) ∧ Keep w w' := by
  by_cases hz : z < 0
  · have HV : Hid (digI z = [45] ++ digN (-z).toNat) := Hid.mk (by unfold digI; rw [if_pos hz])
    have DC := fun W => digits_c (-z).toNat (by omega) W
    have hl := digN_len 18 (-z).toNat (by omega)
    generalize digI z = D at *
    have e1 : (((-z).toNat : Nat) : Int) = -z := by omega
    rw [e1] at DC
    generalize digN (-z).toNat = D1 at *
    have e2 : IntKind.i64.wrap (-z) = -z := by rw [IntKind.wrap_i64] <;> omega
    have sad := str_add (l := [45]) (m := D1) (by simp; omega)
    clear e1
    go_enter Try.func72, Try.ntmps72
    go_wp2_with fail
    refine (DC _).mono ?_
    rintro e w1 ⟨rfl, k1⟩
    go_wp2_with fail
    go_ret
    rw [HV.out]
    exact ⟨rfl, k1⟩
  · have DC := digits_c z.toNat (by omega) w
    have e1 : ((z.toNat : Nat) : Int) = z := by omega
    rw [e1] at DC
    unfold digI
    rw [if_neg hz]
    exact DC
/-- The operation 'append(out, s...)'. -/
theorem wp_appStr {o : Oper} {a : Act} {w : World} {K : Act → World → Prop} {Q : Exit → Act → World → Prop} (s x : Operand) (ho : o.op = .call { callee := .builtin .append, args := #[s, x], argTypes := #[64, 9] })
    {B : Nat} {v : Value} {xs l : List UInt8} (hown : Own B 5 w v (xs.map cb)) (hse : l ≠ []) (hb : xs.length + l.length ≤ 2 ^ 46) (hB : B ≤ w.heap.size) (hs : a.eval s = v) (hx : a.eval x = str l)
    (h : ∀ v' w', Own B 5 w' v' ((xs ++ l).map cb) → w.grownBy w' v.ownBlock → (v'.ownBlock = v.ownBlock ∨ v'.ownBlock = some w.heap.size) → K (a.put o.dst v') w') : o.wp Try.prog a w K Q := by
  obtain ⟨v', w', hr, h2, h3, h4⟩ := run_appStr hown l hse hb hB o.type
  unfold Oper.wp execOp
  simp only [ho, resolve, invoke, builtin, Sem.run_bind, Sem.run_pure, Result.andThen_ok, List.map_toArray, List.map_cons, List.map_nil, hs, hx, hr]
  exact h v' w' h2 h3 h4
def hdrF (i : Nat) (x : Nd) : List UInt8 :=
  [35] ++ digN i ++ [32, 107, 105, 110, 100, 32] ++ digN x.kind ++ [32, 109, 111, 100, 101, 32] ++ digI x.mode ++ [32, 108, 105, 110, 107, 115, 32] ++ digN x.links ++ [32, 111, 112, 101, 110, 115, 32] ++ digN x.opens ++ [32, 112, 97, 114, 101, 110, 116, 32] ++ digN x.par ++ [32, 100, 97, 116, 97, 32] ++ digN x.data.length ++ [58]
def edgF (e : Edg) : List UInt8 := [32, 91] ++ digN e.key.length ++ [58] ++ e.key ++ [32] ++ digN e.spl.length ++ [58] ++ e.spl ++ [32] ++ digN e.node ++ [93]
def dumpN (T : List Nd) (i : Nat) : List UInt8 := if (at' T i).kind = 0 then [] else hdrF i (at' T i) ++ (at' T i).data ++ (at' T i).edges.flatMap edgF ++ [10]
def dumpK (T : List Nd) (k : Nat) : List UInt8 := (List.range k).flatMap (dumpN T)
def dumpF (T : List Nd) : List UInt8 := dumpK T T.length
theorem dumpK_succ (T : List Nd) (k : Nat) : dumpK T (k + 1) = dumpK T k ++ dumpN T k := by unfold dumpK; rw [List.range_succ, List.flatMap_append]; simp
end Go.Proofs.Qxb6500767a
