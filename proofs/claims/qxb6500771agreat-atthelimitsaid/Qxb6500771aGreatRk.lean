/- Camellia's key schedule: region 20. -/
import Derived.Test.Qxb6500771aGreatRi
namespace Go.Proofs.Qxb6500771aGreat
open Go Go.RowKit Go.Qm
set_option linter.unusedVariables false
set_option linter.unusedSimpArgs false
def ops20 : Array Oper := #[{ dst := some 154, op := Op.load 168 (Operand.tmp 9), type := 168, pos := "camellia.go:115", after := #[], guard := none }, { dst := some 155, op := Op.call { callee := Callee.value (Operand.func 132), args := #[Operand.tmp 154, Operand.const (Value.int IntKind.u64 30)], argTypes := #[168, 155] }, type := 168, pos := "camellia.go:115", after := #[{ on := 0, ground := Ground.data }], guard := none }, { dst := some 156, op := Op.field 168 (Operand.tmp 155) 0, type := 29, pos := "camellia.go:115", after := #[{ on := 1, ground := Ground.data }], guard := none }, { dst := some 157, op := Op.load 168 (Operand.tmp 9), type := 168, pos := "camellia.go:115", after := #[], guard := none }, { dst := some 158, op := Op.call { callee := Callee.value (Operand.func 132), args := #[Operand.tmp 157, Operand.const (Value.int IntKind.u64 30)], argTypes := #[168, 155] }, type := 168, pos := "camellia.go:115", after := #[{ on := 3, ground := Ground.data }, { on := 1, ground := Ground.chain }], guard := none }, { dst := some 159, op := Op.field 168 (Operand.tmp 158) 1, type := 29, pos := "camellia.go:115", after := #[{ on := 4, ground := Ground.data }], guard := none }, { dst := some 160, op := Op.load 168 (Operand.tmp 5), type := 168, pos := "camellia.go:115", after := #[], guard := none }, { dst := some 161, op := Op.call { callee := Callee.value (Operand.func 132), args := #[Operand.tmp 160, Operand.const (Value.int IntKind.u64 77)], argTypes := #[168, 155] }, type := 168, pos := "camellia.go:115", after := #[{ on := 6, ground := Ground.data }, { on := 4, ground := Ground.chain }], guard := none }, { dst := some 162, op := Op.field 168 (Operand.tmp 161) 0, type := 29, pos := "camellia.go:115", after := #[{ on := 7, ground := Ground.data }], guard := none }, { dst := some 163, op := Op.load 168 (Operand.tmp 5), type := 168, pos := "camellia.go:115", after := #[], guard := none }, { dst := some 164, op := Op.call { callee := Callee.value (Operand.func 132), args := #[Operand.tmp 163, Operand.const (Value.int IntKind.u64 77)], argTypes := #[168, 155] }, type := 168, pos := "camellia.go:115", after := #[{ on := 9, ground := Ground.data }, { on := 7, ground := Ground.chain }], guard := none }, { dst := some 165, op := Op.field 168 (Operand.tmp 164) 1, type := 29, pos := "camellia.go:115", after := #[{ on := 10, ground := Ground.data }], guard := none }, { dst := some 166, op := Op.buildSlice 146 4 #[(0, Operand.tmp 156), (1, Operand.tmp 159), (2, Operand.tmp 162), (3, Operand.tmp 165)], type := 146, pos := "camellia.go:115", after := #[{ on := 2, ground := Ground.data }, { on := 5, ground := Ground.data }, { on := 8, ground := Ground.data }, { on := 11, ground := Ground.data }], guard := none }, { dst := some 4, op := Op.assign (Operand.tmp 166), type := 146, pos := "camellia.go:115", after := #[{ on := 12, ground := Ground.data }, { on := 10, ground := Ground.chain }, { on := 0, ground := Ground.phase }, { on := 1, ground := Ground.phase }, { on := 2, ground := Ground.phase }, { on := 3, ground := Ground.phase }, { on := 4, ground := Ground.phase }, { on := 5, ground := Ground.phase }, { on := 6, ground := Ground.phase }, { on := 7, ground := Ground.phase }, { on := 8, ground := Ground.phase }, { on := 9, ground := Ground.phase }, { on := 10, ground := Ground.phase }, { on := 11, ground := Ground.phase }, { on := 12, ground := Ground.phase }], guard := none }]
def dep20 : Nat → List Nat
  | 1 => [0]
  | 2 => [1]
  | 4 => [3]
  | 5 => [4]
  | 7 => [6]
  | 8 => [7]
  | 10 => [9]
  | 11 => [10]
  | 12 => [2, 5, 8, 11]
  | 13 => [12]
  | _ => []
def vl20 (g5 g9 : Nat) (a1 a2 p8 p7 a30x a30y l77x l77y : Int) : List Value := [.agg #[.int .u64 p8, .int .u64 p7], .agg #[.int .u64 a30x, .int .u64 a30y], .int .u64 a30x, .agg #[.int .u64 p8, .int .u64 p7], .agg #[.int .u64 a30x, .int .u64 a30y], .int .u64 a30y, .agg #[.int .u64 a1, .int .u64 a2], .agg #[.int .u64 l77x, .int .u64 l77y], .int .u64 l77x, .agg #[.int .u64 a1, .int .u64 a2], .agg #[.int .u64 l77x, .int .u64 l77y], .int .u64 l77y]
theorem o20_0 : ∃ o, ops20[0]? = some o ∧ o.guard = none ∧ o.dst = some 154 ∧ o.op = .load 168 (.tmp 9) := ⟨_, rfl, rfl, rfl, rfl⟩
theorem o20_1 : ∃ o, ops20[1]? = some o ∧ o.guard = none ∧ o.dst = some 155 ∧ o.op = .call ⟨.value (.func 132), #[.tmp 154, .const (.int .u64 30)], #[168, 155]⟩ := ⟨_, rfl, rfl, rfl, rfl⟩
theorem o20_2 : ∃ o, ops20[2]? = some o ∧ o.guard = none ∧ o.dst = some 156 ∧ o.op = .field 168 (.tmp 155) 0 := ⟨_, rfl, rfl, rfl, rfl⟩
theorem o20_3 : ∃ o, ops20[3]? = some o ∧ o.guard = none ∧ o.dst = some 157 ∧ o.op = .load 168 (.tmp 9) := ⟨_, rfl, rfl, rfl, rfl⟩
theorem o20_4 : ∃ o, ops20[4]? = some o ∧ o.guard = none ∧ o.dst = some 158 ∧ o.op = .call ⟨.value (.func 132), #[.tmp 157, .const (.int .u64 30)], #[168, 155]⟩ := ⟨_, rfl, rfl, rfl, rfl⟩
theorem o20_5 : ∃ o, ops20[5]? = some o ∧ o.guard = none ∧ o.dst = some 159 ∧ o.op = .field 168 (.tmp 158) 1 := ⟨_, rfl, rfl, rfl, rfl⟩
theorem o20_6 : ∃ o, ops20[6]? = some o ∧ o.guard = none ∧ o.dst = some 160 ∧ o.op = .load 168 (.tmp 5) := ⟨_, rfl, rfl, rfl, rfl⟩
theorem o20_7 : ∃ o, ops20[7]? = some o ∧ o.guard = none ∧ o.dst = some 161 ∧ o.op = .call ⟨.value (.func 132), #[.tmp 160, .const (.int .u64 77)], #[168, 155]⟩ := ⟨_, rfl, rfl, rfl, rfl⟩
theorem o20_8 : ∃ o, ops20[8]? = some o ∧ o.guard = none ∧ o.dst = some 162 ∧ o.op = .field 168 (.tmp 161) 0 := ⟨_, rfl, rfl, rfl, rfl⟩
theorem o20_9 : ∃ o, ops20[9]? = some o ∧ o.guard = none ∧ o.dst = some 163 ∧ o.op = .load 168 (.tmp 5) := ⟨_, rfl, rfl, rfl, rfl⟩
theorem o20_10 : ∃ o, ops20[10]? = some o ∧ o.guard = none ∧ o.dst = some 164 ∧ o.op = .call ⟨.value (.func 132), #[.tmp 163, .const (.int .u64 77)], #[168, 155]⟩ := ⟨_, rfl, rfl, rfl, rfl⟩
theorem o20_11 : ∃ o, ops20[11]? = some o ∧ o.guard = none ∧ o.dst = some 165 ∧ o.op = .field 168 (.tmp 164) 1 := ⟨_, rfl, rfl, rfl, rfl⟩
theorem o20_12 : ∃ o, ops20[12]? = some o ∧ o.guard = none ∧ o.dst = some 166 ∧ o.op = .buildSlice 146 4 #[(0, .tmp 156), (1, .tmp 159), (2, .tmp 162), (3, .tmp 165)] := ⟨_, rfl, rfl, rfl, rfl⟩
theorem o20_13 : ∃ o, ops20[13]? = some o ∧ o.guard = none ∧ o.dst = some 4 ∧ o.op = .assign (.tmp 166) := ⟨_, rfl, rfl, rfl, rfl⟩
set_option maxHeartbeats 4000000 in
theorem region20_c {Q : Exit → Act → World → Prop} {a0 : Act} {w0 : World} (B g5 g9 : Nat) (a1 a2 p8 p7 a30x a30y l77x l77y : Int) (hsz : a0.tmps.size = 274) (h5 : a0.tmps[5]? = some (.pointer (some ⟨g5, 0, none⟩))) (A5 : Arr w0 g5 168 [.int .u64 a1, .int .u64 a2]) (h9 : a0.tmps[9]? = some (.pointer (some ⟨g9, 0, none⟩))) (A9 : Arr w0 g9 168 [.int .u64 p8, .int .u64 p7]) (Tka30 : ∀ W, Calls Tryz.prog 132 #[.agg #[.int .u64 p8, .int .u64 p7], .int .u64 30] W fun e w' => e = .returned (.agg #[.int .u64 a30x, .int .u64 a30y]) ∧ Keep W w') (Tkl77 : ∀ W, Calls Tryz.prog 132 #[.agg #[.int .u64 a1, .int .u64 a2], .int .u64 77] W fun e w' => e = .returned (.agg #[.int .u64 l77x, .int .u64 l77y]) ∧ Keep W w') (hB : B ≤ w0.heap.size)
    (hend : ∀ a w v, a.defers = a0.defers → a.tmps.size = a0.tmps.size → (∀ n, ¬ (154 ≤ n ∧ n ≤ 154 + 12) → n ≠ 4 → a.tmps[n]? = a0.tmps[n]?) → a.tmps[4]? = some v → Own B 29 w v [.int .u64 a30x, .int .u64 a30y, .int .u64 l77x, .int .u64 l77y] → Keep w0 w → Q .normal a w) :
    (Code.region 20 ops20 true).wp Tryz.prog Q a0 w0 := by
  refine region_pb (by rfl) 12 154 4 (fun i => (vl20 g5 g9 a1 a2 p8 p7 a30x a30y l77x l77y).getD i undef) B 29 [.int .u64 a30x, .int .u64 a30y, .int .u64 l77x, .int .u64 l77y] dep20 rfl (by omega) (by omega) ?_ ?_ o20_13 ?_ rfl (hr_of rfl (by decide +kernel) (by decide +kernel)) hend
  · intro i hi
    match i, hi with
    | 0, _ => obtain ⟨o, e1, e2, e3, e4⟩ := o20_0; exact ⟨o, e1, e2, e3, fun a w K Q hk ho hdp hK => wp_load_mid 168 (.tmp 9) e4 g9 0 (eval_of (by rw [ho 9 (by omega) (by omega)]; exact h9)) [.int .u64 p8, .int .u64 p7] _ (fun j v hv => by rw [Nat.zero_add, (A9.keep hk).cell j]; exact hv) Tryz.underlying168 rfl s104 (hK w (Keep.refl w))⟩
    | 1, _ => obtain ⟨o, e1, e2, e3, e4⟩ := o20_1; exact ⟨o, e1, e2, e3, fun a w K Q hk ho hdp hK => wp_call2 132 (.tmp 154) (.const (.int .u64 30)) _ e4 _ Tryz.func132 (by kernel_rfl) (by kernel_rfl) _ _ (eval_of (hdp 0 (by decide))) rfl ((Tka30 w).mono fun e w' hh => ⟨_, hh.1, hK w' hh.2⟩)⟩
    | 2, _ => obtain ⟨o, e1, e2, e3, e4⟩ := o20_2; exact ⟨o, e1, e2, e3, fun a w K Q hk ho hdp hK => wp_fl0 (.tmp 155) e4 a30x a30y (eval_of (hdp 1 (by decide))) (hK w (Keep.refl w))⟩
    | 3, _ => obtain ⟨o, e1, e2, e3, e4⟩ := o20_3; exact ⟨o, e1, e2, e3, fun a w K Q hk ho hdp hK => wp_load_mid 168 (.tmp 9) e4 g9 0 (eval_of (by rw [ho 9 (by omega) (by omega)]; exact h9)) [.int .u64 p8, .int .u64 p7] _ (fun j v hv => by rw [Nat.zero_add, (A9.keep hk).cell j]; exact hv) Tryz.underlying168 rfl s104 (hK w (Keep.refl w))⟩
    | 4, _ => obtain ⟨o, e1, e2, e3, e4⟩ := o20_4; exact ⟨o, e1, e2, e3, fun a w K Q hk ho hdp hK => wp_call2 132 (.tmp 157) (.const (.int .u64 30)) _ e4 _ Tryz.func132 (by kernel_rfl) (by kernel_rfl) _ _ (eval_of (hdp 3 (by decide))) rfl ((Tka30 w).mono fun e w' hh => ⟨_, hh.1, hK w' hh.2⟩)⟩
    | 5, _ => obtain ⟨o, e1, e2, e3, e4⟩ := o20_5; exact ⟨o, e1, e2, e3, fun a w K Q hk ho hdp hK => wp_fl1 (.tmp 158) e4 a30x a30y (eval_of (hdp 4 (by decide))) (hK w (Keep.refl w))⟩
    | 6, _ => obtain ⟨o, e1, e2, e3, e4⟩ := o20_6; exact ⟨o, e1, e2, e3, fun a w K Q hk ho hdp hK => wp_load_mid 168 (.tmp 5) e4 g5 0 (eval_of (by rw [ho 5 (by omega) (by omega)]; exact h5)) [.int .u64 a1, .int .u64 a2] _ (fun j v hv => by rw [Nat.zero_add, (A5.keep hk).cell j]; exact hv) Tryz.underlying168 rfl s104 (hK w (Keep.refl w))⟩
    | 7, _ => obtain ⟨o, e1, e2, e3, e4⟩ := o20_7; exact ⟨o, e1, e2, e3, fun a w K Q hk ho hdp hK => wp_call2 132 (.tmp 160) (.const (.int .u64 77)) _ e4 _ Tryz.func132 (by kernel_rfl) (by kernel_rfl) _ _ (eval_of (hdp 6 (by decide))) rfl ((Tkl77 w).mono fun e w' hh => ⟨_, hh.1, hK w' hh.2⟩)⟩
    | 8, _ => obtain ⟨o, e1, e2, e3, e4⟩ := o20_8; exact ⟨o, e1, e2, e3, fun a w K Q hk ho hdp hK => wp_fl0 (.tmp 161) e4 l77x l77y (eval_of (hdp 7 (by decide))) (hK w (Keep.refl w))⟩
    | 9, _ => obtain ⟨o, e1, e2, e3, e4⟩ := o20_9; exact ⟨o, e1, e2, e3, fun a w K Q hk ho hdp hK => wp_load_mid 168 (.tmp 5) e4 g5 0 (eval_of (by rw [ho 5 (by omega) (by omega)]; exact h5)) [.int .u64 a1, .int .u64 a2] _ (fun j v hv => by rw [Nat.zero_add, (A5.keep hk).cell j]; exact hv) Tryz.underlying168 rfl s104 (hK w (Keep.refl w))⟩
    | 10, _ => obtain ⟨o, e1, e2, e3, e4⟩ := o20_10; exact ⟨o, e1, e2, e3, fun a w K Q hk ho hdp hK => wp_call2 132 (.tmp 163) (.const (.int .u64 77)) _ e4 _ Tryz.func132 (by kernel_rfl) (by kernel_rfl) _ _ (eval_of (hdp 9 (by decide))) rfl ((Tkl77 w).mono fun e w' hh => ⟨_, hh.1, hK w' hh.2⟩)⟩
    | 11, _ => obtain ⟨o, e1, e2, e3, e4⟩ := o20_11; exact ⟨o, e1, e2, e3, fun a w K Q hk ho hdp hK => wp_fl1 (.tmp 164) e4 l77x l77y (eval_of (hdp 10 (by decide))) (hK w (Keep.refl w))⟩
  · obtain ⟨o, e1, e2, e3, e4⟩ := o20_12
    exact ⟨o, e1, e2, e3, fun a w K Q hk hdp hK => wp_bs4 156 159 162 165 a30x a30y l77x l77y e4 (hdp 2 (by decide)) (hdp 5 (by decide)) (hdp 8 (by decide)) (hdp 11 (by decide)) B (Nat.le_trans hB hk.size) hK⟩
  · have hd : ∀ i < 12 + 1, ∀ j ∈ dep20 i, j < 12 := by decide
    exact fun i j hi hj => hd i (by omega) j hj
end Go.Proofs.Qxb6500771aGreat
