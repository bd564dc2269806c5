/- Camellia's key schedule: region 24. -/
import Derived.Test.Qxb6500771aGreatRi
namespace Go.Proofs.Qxb6500771aGreat
open Go Go.RowKit Go.Qm
set_option linter.unusedVariables false
set_option linter.unusedSimpArgs false
def ops24 : Array Oper := #[{ dst := some 252, op := Op.load 168 (Operand.tmp 6), type := 168, pos := "camellia.go:125", after := #[], guard := none }, { dst := some 253, op := Op.call { callee := Callee.value (Operand.func 132), args := #[Operand.tmp 252, Operand.const (Value.int IntKind.u64 30)], argTypes := #[168, 155] }, type := 168, pos := "camellia.go:126", after := #[{ on := 0, ground := Ground.data }], guard := none }, { dst := some 254, op := Op.field 168 (Operand.tmp 253) 0, type := 29, pos := "camellia.go:125", after := #[{ on := 1, ground := Ground.data }], guard := none }, { dst := some 255, op := Op.load 168 (Operand.tmp 6), type := 168, pos := "camellia.go:125", after := #[], guard := none }, { dst := some 256, op := Op.call { callee := Callee.value (Operand.func 132), args := #[Operand.tmp 255, Operand.const (Value.int IntKind.u64 30)], argTypes := #[168, 155] }, type := 168, pos := "camellia.go:126", after := #[{ on := 3, ground := Ground.data }, { on := 1, ground := Ground.chain }], guard := none }, { dst := some 257, op := Op.field 168 (Operand.tmp 256) 1, type := 29, pos := "camellia.go:125", after := #[{ on := 4, ground := Ground.data }], guard := none }, { dst := some 258, op := Op.load 168 (Operand.tmp 5), type := 168, pos := "camellia.go:125", after := #[], guard := none }, { dst := some 259, op := Op.call { callee := Callee.value (Operand.func 132), args := #[Operand.tmp 258, Operand.const (Value.int IntKind.u64 60)], argTypes := #[168, 155] }, type := 168, pos := "camellia.go:126", after := #[{ on := 6, ground := Ground.data }, { on := 4, ground := Ground.chain }], guard := none }, { dst := some 260, op := Op.field 168 (Operand.tmp 259) 0, type := 29, pos := "camellia.go:125", after := #[{ on := 7, ground := Ground.data }], guard := none }, { dst := some 261, op := Op.load 168 (Operand.tmp 5), type := 168, pos := "camellia.go:125", after := #[], guard := none }, { dst := some 262, op := Op.call { callee := Callee.value (Operand.func 132), args := #[Operand.tmp 261, Operand.const (Value.int IntKind.u64 60)], argTypes := #[168, 155] }, type := 168, pos := "camellia.go:126", after := #[{ on := 9, ground := Ground.data }, { on := 7, ground := Ground.chain }], guard := none }, { dst := some 263, op := Op.field 168 (Operand.tmp 262) 1, type := 29, pos := "camellia.go:125", after := #[{ on := 10, ground := Ground.data }], guard := none }, { dst := some 264, op := Op.load 168 (Operand.tmp 9), type := 168, pos := "camellia.go:125", after := #[], guard := none }, { dst := some 265, op := Op.call { callee := Callee.value (Operand.func 132), args := #[Operand.tmp 264, Operand.const (Value.int IntKind.u64 77)], argTypes := #[168, 155] }, type := 168, pos := "camellia.go:126", after := #[{ on := 12, ground := Ground.data }, { on := 10, ground := Ground.chain }], guard := none }, { dst := some 266, op := Op.field 168 (Operand.tmp 265) 0, type := 29, pos := "camellia.go:125", after := #[{ on := 13, ground := Ground.data }], guard := none }, { dst := some 267, op := Op.load 168 (Operand.tmp 9), type := 168, pos := "camellia.go:125", after := #[], guard := none }, { dst := some 268, op := Op.call { callee := Callee.value (Operand.func 132), args := #[Operand.tmp 267, Operand.const (Value.int IntKind.u64 77)], argTypes := #[168, 155] }, type := 168, pos := "camellia.go:126", after := #[{ on := 15, ground := Ground.data }, { on := 13, ground := Ground.chain }], guard := none }, { dst := some 269, op := Op.field 168 (Operand.tmp 268) 1, type := 29, pos := "camellia.go:125", after := #[{ on := 16, ground := Ground.data }], guard := none }, { dst := some 270, op := Op.buildSlice 146 6 #[(0, Operand.tmp 254), (1, Operand.tmp 257), (2, Operand.tmp 260), (3, Operand.tmp 263), (4, Operand.tmp 266), (5, Operand.tmp 269)], type := 146, pos := "camellia.go:125", after := #[{ on := 2, ground := Ground.data }, { on := 5, ground := Ground.data }, { on := 8, ground := Ground.data }, { on := 11, ground := Ground.data }, { on := 14, ground := Ground.data }, { on := 17, ground := Ground.data }], guard := none }, { dst := some 4, op := Op.assign (Operand.tmp 270), type := 146, pos := "camellia.go:125", after := #[{ on := 18, ground := Ground.data }, { on := 16, ground := Ground.chain }, { on := 0, ground := Ground.phase }, { on := 1, ground := Ground.phase }, { on := 2, ground := Ground.phase }, { on := 3, ground := Ground.phase }, { on := 4, ground := Ground.phase }, { on := 5, ground := Ground.phase }, { on := 6, ground := Ground.phase }, { on := 7, ground := Ground.phase }, { on := 8, ground := Ground.phase }, { on := 9, ground := Ground.phase }, { on := 10, ground := Ground.phase }, { on := 11, ground := Ground.phase }, { on := 12, ground := Ground.phase }, { on := 13, ground := Ground.phase }, { on := 14, ground := Ground.phase }, { on := 15, ground := Ground.phase }, { on := 16, ground := Ground.phase }, { on := 17, ground := Ground.phase }, { on := 18, ground := Ground.phase }], guard := none }]
def dep24 : Nat → List Nat
  | 1 => [0]
  | 2 => [1]
  | 4 => [3]
  | 5 => [4]
  | 7 => [6]
  | 8 => [7]
  | 10 => [9]
  | 11 => [10]
  | 13 => [12]
  | 14 => [13]
  | 16 => [15]
  | 17 => [16]
  | 18 => [2, 5, 8, 11, 14, 17]
  | 19 => [18]
  | _ => []
def vl24 (g5 g6 g9 : Nat) (a1 a2 r1 r2 p8 p7 r30x r30y l60x l60y a77x a77y : Int) : List Value := [.agg #[.int .u64 r1, .int .u64 r2], .agg #[.int .u64 r30x, .int .u64 r30y], .int .u64 r30x, .agg #[.int .u64 r1, .int .u64 r2], .agg #[.int .u64 r30x, .int .u64 r30y], .int .u64 r30y, .agg #[.int .u64 a1, .int .u64 a2], .agg #[.int .u64 l60x, .int .u64 l60y], .int .u64 l60x, .agg #[.int .u64 a1, .int .u64 a2], .agg #[.int .u64 l60x, .int .u64 l60y], .int .u64 l60y, .agg #[.int .u64 p8, .int .u64 p7], .agg #[.int .u64 a77x, .int .u64 a77y], .int .u64 a77x, .agg #[.int .u64 p8, .int .u64 p7], .agg #[.int .u64 a77x, .int .u64 a77y], .int .u64 a77y]
theorem o24_0 : ∃ o, ops24[0]? = some o ∧ o.guard = none ∧ o.dst = some 252 ∧ o.op = .load 168 (.tmp 6) := ⟨_, rfl, rfl, rfl, rfl⟩
theorem o24_1 : ∃ o, ops24[1]? = some o ∧ o.guard = none ∧ o.dst = some 253 ∧ o.op = .call ⟨.value (.func 132), #[.tmp 252, .const (.int .u64 30)], #[168, 155]⟩ := ⟨_, rfl, rfl, rfl, rfl⟩
theorem o24_2 : ∃ o, ops24[2]? = some o ∧ o.guard = none ∧ o.dst = some 254 ∧ o.op = .field 168 (.tmp 253) 0 := ⟨_, rfl, rfl, rfl, rfl⟩
theorem o24_3 : ∃ o, ops24[3]? = some o ∧ o.guard = none ∧ o.dst = some 255 ∧ o.op = .load 168 (.tmp 6) := ⟨_, rfl, rfl, rfl, rfl⟩
theorem o24_4 : ∃ o, ops24[4]? = some o ∧ o.guard = none ∧ o.dst = some 256 ∧ o.op = .call ⟨.value (.func 132), #[.tmp 255, .const (.int .u64 30)], #[168, 155]⟩ := ⟨_, rfl, rfl, rfl, rfl⟩
theorem o24_5 : ∃ o, ops24[5]? = some o ∧ o.guard = none ∧ o.dst = some 257 ∧ o.op = .field 168 (.tmp 256) 1 := ⟨_, rfl, rfl, rfl, rfl⟩
theorem o24_6 : ∃ o, ops24[6]? = some o ∧ o.guard = none ∧ o.dst = some 258 ∧ o.op = .load 168 (.tmp 5) := ⟨_, rfl, rfl, rfl, rfl⟩
theorem o24_7 : ∃ o, ops24[7]? = some o ∧ o.guard = none ∧ o.dst = some 259 ∧ o.op = .call ⟨.value (.func 132), #[.tmp 258, .const (.int .u64 60)], #[168, 155]⟩ := ⟨_, rfl, rfl, rfl, rfl⟩
theorem o24_8 : ∃ o, ops24[8]? = some o ∧ o.guard = none ∧ o.dst = some 260 ∧ o.op = .field 168 (.tmp 259) 0 := ⟨_, rfl, rfl, rfl, rfl⟩
theorem o24_9 : ∃ o, ops24[9]? = some o ∧ o.guard = none ∧ o.dst = some 261 ∧ o.op = .load 168 (.tmp 5) := ⟨_, rfl, rfl, rfl, rfl⟩
theorem o24_10 : ∃ o, ops24[10]? = some o ∧ o.guard = none ∧ o.dst = some 262 ∧ o.op = .call ⟨.value (.func 132), #[.tmp 261, .const (.int .u64 60)], #[168, 155]⟩ := ⟨_, rfl, rfl, rfl, rfl⟩
theorem o24_11 : ∃ o, ops24[11]? = some o ∧ o.guard = none ∧ o.dst = some 263 ∧ o.op = .field 168 (.tmp 262) 1 := ⟨_, rfl, rfl, rfl, rfl⟩
theorem o24_12 : ∃ o, ops24[12]? = some o ∧ o.guard = none ∧ o.dst = some 264 ∧ o.op = .load 168 (.tmp 9) := ⟨_, rfl, rfl, rfl, rfl⟩
theorem o24_13 : ∃ o, ops24[13]? = some o ∧ o.guard = none ∧ o.dst = some 265 ∧ o.op = .call ⟨.value (.func 132), #[.tmp 264, .const (.int .u64 77)], #[168, 155]⟩ := ⟨_, rfl, rfl, rfl, rfl⟩
theorem o24_14 : ∃ o, ops24[14]? = some o ∧ o.guard = none ∧ o.dst = some 266 ∧ o.op = .field 168 (.tmp 265) 0 := ⟨_, rfl, rfl, rfl, rfl⟩
theorem o24_15 : ∃ o, ops24[15]? = some o ∧ o.guard = none ∧ o.dst = some 267 ∧ o.op = .load 168 (.tmp 9) := ⟨_, rfl, rfl, rfl, rfl⟩
theorem o24_16 : ∃ o, ops24[16]? = some o ∧ o.guard = none ∧ o.dst = some 268 ∧ o.op = .call ⟨.value (.func 132), #[.tmp 267, .const (.int .u64 77)], #[168, 155]⟩ := ⟨_, rfl, rfl, rfl, rfl⟩
theorem o24_17 : ∃ o, ops24[17]? = some o ∧ o.guard = none ∧ o.dst = some 269 ∧ o.op = .field 168 (.tmp 268) 1 := ⟨_, rfl, rfl, rfl, rfl⟩
theorem o24_18 : ∃ o, ops24[18]? = some o ∧ o.guard = none ∧ o.dst = some 270 ∧ o.op = .buildSlice 146 6 #[(0, .tmp 254), (1, .tmp 257), (2, .tmp 260), (3, .tmp 263), (4, .tmp 266), (5, .tmp 269)] := ⟨_, rfl, rfl, rfl, rfl⟩
theorem o24_19 : ∃ o, ops24[19]? = some o ∧ o.guard = none ∧ o.dst = some 4 ∧ o.op = .assign (.tmp 270) := ⟨_, rfl, rfl, rfl, rfl⟩
set_option maxHeartbeats 4000000 in
theorem region24_c {Q : Exit → Act → World → Prop} {a0 : Act} {w0 : World} (B g5 g6 g9 : Nat) (a1 a2 r1 r2 p8 p7 r30x r30y l60x l60y a77x a77y : Int) (hsz : a0.tmps.size = 274) (h5 : a0.tmps[5]? = some (.pointer (some ⟨g5, 0, none⟩))) (A5 : Arr w0 g5 168 [.int .u64 a1, .int .u64 a2]) (h6 : a0.tmps[6]? = some (.pointer (some ⟨g6, 0, none⟩))) (A6 : Arr w0 g6 168 [.int .u64 r1, .int .u64 r2]) (h9 : a0.tmps[9]? = some (.pointer (some ⟨g9, 0, none⟩))) (A9 : Arr w0 g9 168 [.int .u64 p8, .int .u64 p7]) (Tkr30 : ∀ W, Calls Tryz.prog 132 #[.agg #[.int .u64 r1, .int .u64 r2], .int .u64 30] W fun e w' => e = .returned (.agg #[.int .u64 r30x, .int .u64 r30y]) ∧ Keep W w') (Tkl60 : ∀ W, Calls Tryz.prog 132 #[.agg #[.int .u64 a1, .int .u64 a2], .int .u64 60] W fun e w' => e = .returned (.agg #[.int .u64 l60x, .int .u64 l60y]) ∧ Keep W w') (Tka77 : ∀ W, Calls Tryz.prog 132 #[.agg #[.int .u64 p8, .int .u64 p7], .int .u64 77] W fun e w' => e = .returned (.agg #[.int .u64 a77x, .int .u64 a77y]) ∧ Keep W w') (hB : B ≤ w0.heap.size)
    (hend : ∀ a w v, a.defers = a0.defers → a.tmps.size = a0.tmps.size → (∀ n, ¬ (252 ≤ n ∧ n ≤ 252 + 18) → n ≠ 4 → a.tmps[n]? = a0.tmps[n]?) → a.tmps[4]? = some v → Own B 29 w v [.int .u64 r30x, .int .u64 r30y, .int .u64 l60x, .int .u64 l60y, .int .u64 a77x, .int .u64 a77y] → Keep w0 w → Q .normal a w) :
    (Code.region 24 ops24 true).wp Tryz.prog Q a0 w0 := by
  refine region_pb (by rfl) 18 252 4 (fun i => (vl24 g5 g6 g9 a1 a2 r1 r2 p8 p7 r30x r30y l60x l60y a77x a77y).getD i undef) B 29 [.int .u64 r30x, .int .u64 r30y, .int .u64 l60x, .int .u64 l60y, .int .u64 a77x, .int .u64 a77y] dep24 rfl (by omega) (by omega) ?_ ?_ o24_19 ?_ rfl (hr_of rfl (by decide +kernel) (by decide +kernel)) hend
  · intro i hi
    have hor : i = 0 ∨ i = 1 ∨ i = 2 ∨ i = 3 ∨ i = 4 ∨ i = 5 ∨ i = 6 ∨ i = 7 ∨ i = 8 ∨ i = 9 ∨ i = 10 ∨ i = 11 ∨ i = 12 ∨ i = 13 ∨ i = 14 ∨ i = 15 ∨ i = 16 ∨ i = 17 := by clear hend hsz hB; omega
    rcases hor with rfl | rfl | rfl | rfl | rfl | rfl | rfl | rfl | rfl | rfl | rfl | rfl | rfl | rfl | rfl | rfl | rfl | rfl
    · obtain ⟨o, e1, e2, e3, e4⟩ := o24_0
      exact ⟨o, e1, e2, e3, fun a w K Q hk ho hdp hK => wp_load_mid 168 (.tmp 6) e4 g6 0 (eval_of (by rw [ho 6 (by omega) (by omega)]; exact h6)) [.int .u64 r1, .int .u64 r2] _ (fun j v hv => by rw [Nat.zero_add, (A6.keep hk).cell j]; exact hv) Tryz.underlying168 rfl s104 (hK w (Keep.refl w))⟩
    · obtain ⟨o, e1, e2, e3, e4⟩ := o24_1
      exact ⟨o, e1, e2, e3, fun a w K Q hk ho hdp hK => wp_call2 132 (.tmp 252) (.const (.int .u64 30)) _ e4 _ Tryz.func132 (by kernel_rfl) (by kernel_rfl) _ _ (eval_of (hdp 0 (by decide))) rfl ((Tkr30 w).mono fun e w' hh => ⟨_, hh.1, hK w' hh.2⟩)⟩
    · obtain ⟨o, e1, e2, e3, e4⟩ := o24_2
      exact ⟨o, e1, e2, e3, fun a w K Q hk ho hdp hK => wp_fl0 (.tmp 253) e4 r30x r30y (eval_of (hdp 1 (by decide))) (hK w (Keep.refl w))⟩
    · obtain ⟨o, e1, e2, e3, e4⟩ := o24_3
      exact ⟨o, e1, e2, e3, fun a w K Q hk ho hdp hK => wp_load_mid 168 (.tmp 6) e4 g6 0 (eval_of (by rw [ho 6 (by omega) (by omega)]; exact h6)) [.int .u64 r1, .int .u64 r2] _ (fun j v hv => by rw [Nat.zero_add, (A6.keep hk).cell j]; exact hv) Tryz.underlying168 rfl s104 (hK w (Keep.refl w))⟩
    · obtain ⟨o, e1, e2, e3, e4⟩ := o24_4
      exact ⟨o, e1, e2, e3, fun a w K Q hk ho hdp hK => wp_call2 132 (.tmp 255) (.const (.int .u64 30)) _ e4 _ Tryz.func132 (by kernel_rfl) (by kernel_rfl) _ _ (eval_of (hdp 3 (by decide))) rfl ((Tkr30 w).mono fun e w' hh => ⟨_, hh.1, hK w' hh.2⟩)⟩
    · obtain ⟨o, e1, e2, e3, e4⟩ := o24_5
      exact ⟨o, e1, e2, e3, fun a w K Q hk ho hdp hK => wp_fl1 (.tmp 256) e4 r30x r30y (eval_of (hdp 4 (by decide))) (hK w (Keep.refl w))⟩
    · obtain ⟨o, e1, e2, e3, e4⟩ := o24_6
      exact ⟨o, e1, e2, e3, fun a w K Q hk ho hdp hK => wp_load_mid 168 (.tmp 5) e4 g5 0 (eval_of (by rw [ho 5 (by omega) (by omega)]; exact h5)) [.int .u64 a1, .int .u64 a2] _ (fun j v hv => by rw [Nat.zero_add, (A5.keep hk).cell j]; exact hv) Tryz.underlying168 rfl s104 (hK w (Keep.refl w))⟩
    · obtain ⟨o, e1, e2, e3, e4⟩ := o24_7
      exact ⟨o, e1, e2, e3, fun a w K Q hk ho hdp hK => wp_call2 132 (.tmp 258) (.const (.int .u64 60)) _ e4 _ Tryz.func132 (by kernel_rfl) (by kernel_rfl) _ _ (eval_of (hdp 6 (by decide))) rfl ((Tkl60 w).mono fun e w' hh => ⟨_, hh.1, hK w' hh.2⟩)⟩
    · obtain ⟨o, e1, e2, e3, e4⟩ := o24_8
      exact ⟨o, e1, e2, e3, fun a w K Q hk ho hdp hK => wp_fl0 (.tmp 259) e4 l60x l60y (eval_of (hdp 7 (by decide))) (hK w (Keep.refl w))⟩
    · obtain ⟨o, e1, e2, e3, e4⟩ := o24_9
      exact ⟨o, e1, e2, e3, fun a w K Q hk ho hdp hK => wp_load_mid 168 (.tmp 5) e4 g5 0 (eval_of (by rw [ho 5 (by omega) (by omega)]; exact h5)) [.int .u64 a1, .int .u64 a2] _ (fun j v hv => by rw [Nat.zero_add, (A5.keep hk).cell j]; exact hv) Tryz.underlying168 rfl s104 (hK w (Keep.refl w))⟩
    · obtain ⟨o, e1, e2, e3, e4⟩ := o24_10
      exact ⟨o, e1, e2, e3, fun a w K Q hk ho hdp hK => wp_call2 132 (.tmp 261) (.const (.int .u64 60)) _ e4 _ Tryz.func132 (by kernel_rfl) (by kernel_rfl) _ _ (eval_of (hdp 9 (by decide))) rfl ((Tkl60 w).mono fun e w' hh => ⟨_, hh.1, hK w' hh.2⟩)⟩
    · obtain ⟨o, e1, e2, e3, e4⟩ := o24_11
      exact ⟨o, e1, e2, e3, fun a w K Q hk ho hdp hK => wp_fl1 (.tmp 262) e4 l60x l60y (eval_of (hdp 10 (by decide))) (hK w (Keep.refl w))⟩
    · obtain ⟨o, e1, e2, e3, e4⟩ := o24_12
      exact ⟨o, e1, e2, e3, fun a w K Q hk ho hdp hK => wp_load_mid 168 (.tmp 9) e4 g9 0 (eval_of (by rw [ho 9 (by omega) (by omega)]; exact h9)) [.int .u64 p8, .int .u64 p7] _ (fun j v hv => by rw [Nat.zero_add, (A9.keep hk).cell j]; exact hv) Tryz.underlying168 rfl s104 (hK w (Keep.refl w))⟩
    · obtain ⟨o, e1, e2, e3, e4⟩ := o24_13
      exact ⟨o, e1, e2, e3, fun a w K Q hk ho hdp hK => wp_call2 132 (.tmp 264) (.const (.int .u64 77)) _ e4 _ Tryz.func132 (by kernel_rfl) (by kernel_rfl) _ _ (eval_of (hdp 12 (by decide))) rfl ((Tka77 w).mono fun e w' hh => ⟨_, hh.1, hK w' hh.2⟩)⟩
    · obtain ⟨o, e1, e2, e3, e4⟩ := o24_14
      exact ⟨o, e1, e2, e3, fun a w K Q hk ho hdp hK => wp_fl0 (.tmp 265) e4 a77x a77y (eval_of (hdp 13 (by decide))) (hK w (Keep.refl w))⟩
    · obtain ⟨o, e1, e2, e3, e4⟩ := o24_15
      exact ⟨o, e1, e2, e3, fun a w K Q hk ho hdp hK => wp_load_mid 168 (.tmp 9) e4 g9 0 (eval_of (by rw [ho 9 (by omega) (by omega)]; exact h9)) [.int .u64 p8, .int .u64 p7] _ (fun j v hv => by rw [Nat.zero_add, (A9.keep hk).cell j]; exact hv) Tryz.underlying168 rfl s104 (hK w (Keep.refl w))⟩
    · obtain ⟨o, e1, e2, e3, e4⟩ := o24_16
      exact ⟨o, e1, e2, e3, fun a w K Q hk ho hdp hK => wp_call2 132 (.tmp 267) (.const (.int .u64 77)) _ e4 _ Tryz.func132 (by kernel_rfl) (by kernel_rfl) _ _ (eval_of (hdp 15 (by decide))) rfl ((Tka77 w).mono fun e w' hh => ⟨_, hh.1, hK w' hh.2⟩)⟩
    · obtain ⟨o, e1, e2, e3, e4⟩ := o24_17
      exact ⟨o, e1, e2, e3, fun a w K Q hk ho hdp hK => wp_fl1 (.tmp 268) e4 a77x a77y (eval_of (hdp 16 (by decide))) (hK w (Keep.refl w))⟩
  · obtain ⟨o, e1, e2, e3, e4⟩ := o24_18
    exact ⟨o, e1, e2, e3, fun a w K Q hk hdp hK => wp_bs6 254 257 260 263 266 269 r30x r30y l60x l60y a77x a77y e4 (hdp 2 (by decide)) (hdp 5 (by decide)) (hdp 8 (by decide)) (hdp 11 (by decide)) (hdp 14 (by decide)) (hdp 17 (by decide)) B (Nat.le_trans hB hk.size) hK⟩
  · have hd : ∀ i < 18 + 1, ∀ j ∈ dep24 i, j < 18 := by decide
    exact fun i j hi hj => hd i (by omega) j hj
end Go.Proofs.Qxb6500771aGreat
