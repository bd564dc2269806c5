/- Camellia's key schedule: region 19. -/
import Derived.Test.Qxb6500771aGreatRi
namespace Go.Proofs.Qxb6500771aGreat
open Go Go.RowKit Go.Qm
set_option linter.unusedVariables false
set_option linter.unusedSimpArgs false
def ops19 : Array Oper := #[{ dst := some 101, op := Op.fieldAddr 168 (Operand.tmp 9) 0, type := 0, pos := "camellia.go:110", after := #[], guard := none }, { dst := some 102, op := Op.load 29 (Operand.tmp 101), type := 29, pos := "camellia.go:110", after := #[{ on := 0, ground := Ground.data }], guard := none }, { dst := some 103, op := Op.fieldAddr 168 (Operand.tmp 9) 1, type := 0, pos := "camellia.go:110", after := #[], guard := none }, { dst := some 104, op := Op.load 29 (Operand.tmp 103), type := 29, pos := "camellia.go:110", after := #[{ on := 2, ground := Ground.data }], guard := none }, { dst := some 105, op := Op.load 168 (Operand.tmp 5), type := 168, pos := "camellia.go:110", after := #[], guard := none }, { dst := some 106, op := Op.call { callee := Callee.value (Operand.func 132), args := #[Operand.tmp 105, Operand.const (Value.int IntKind.u64 15)], argTypes := #[168, 155] }, type := 168, pos := "camellia.go:111", after := #[{ on := 4, ground := Ground.data }], guard := none }, { dst := some 107, op := Op.field 168 (Operand.tmp 106) 0, type := 29, pos := "camellia.go:110", after := #[{ on := 5, ground := Ground.data }], guard := none }, { dst := some 108, op := Op.load 168 (Operand.tmp 5), type := 168, pos := "camellia.go:110", after := #[], guard := none }, { dst := some 109, op := Op.call { callee := Callee.value (Operand.func 132), args := #[Operand.tmp 108, Operand.const (Value.int IntKind.u64 15)], argTypes := #[168, 155] }, type := 168, pos := "camellia.go:111", after := #[{ on := 7, ground := Ground.data }, { on := 5, ground := Ground.chain }], guard := none }, { dst := some 110, op := Op.field 168 (Operand.tmp 109) 1, type := 29, pos := "camellia.go:110", after := #[{ on := 8, ground := Ground.data }], guard := none }, { dst := some 111, op := Op.load 168 (Operand.tmp 9), type := 168, pos := "camellia.go:110", after := #[], guard := none }, { dst := some 112, op := Op.call { callee := Callee.value (Operand.func 132), args := #[Operand.tmp 111, Operand.const (Value.int IntKind.u64 15)], argTypes := #[168, 155] }, type := 168, pos := "camellia.go:111", after := #[{ on := 10, ground := Ground.data }, { on := 8, ground := Ground.chain }], guard := none }, { dst := some 113, op := Op.field 168 (Operand.tmp 112) 0, type := 29, pos := "camellia.go:110", after := #[{ on := 11, ground := Ground.data }], guard := none }, { dst := some 114, op := Op.load 168 (Operand.tmp 9), type := 168, pos := "camellia.go:110", after := #[], guard := none }, { dst := some 115, op := Op.call { callee := Callee.value (Operand.func 132), args := #[Operand.tmp 114, Operand.const (Value.int IntKind.u64 15)], argTypes := #[168, 155] }, type := 168, pos := "camellia.go:111", after := #[{ on := 13, ground := Ground.data }, { on := 11, ground := Ground.chain }], guard := none }, { dst := some 116, op := Op.field 168 (Operand.tmp 115) 1, type := 29, pos := "camellia.go:110", after := #[{ on := 14, ground := Ground.data }], guard := none }, { dst := some 117, op := Op.load 168 (Operand.tmp 5), type := 168, pos := "camellia.go:110", after := #[], guard := none }, { dst := some 118, op := Op.call { callee := Callee.value (Operand.func 132), args := #[Operand.tmp 117, Operand.const (Value.int IntKind.u64 45)], argTypes := #[168, 155] }, type := 168, pos := "camellia.go:112", after := #[{ on := 16, ground := Ground.data }, { on := 14, ground := Ground.chain }], guard := none }, { dst := some 119, op := Op.field 168 (Operand.tmp 118) 0, type := 29, pos := "camellia.go:110", after := #[{ on := 17, ground := Ground.data }], guard := none }, { dst := some 120, op := Op.load 168 (Operand.tmp 5), type := 168, pos := "camellia.go:110", after := #[], guard := none }, { dst := some 121, op := Op.call { callee := Callee.value (Operand.func 132), args := #[Operand.tmp 120, Operand.const (Value.int IntKind.u64 45)], argTypes := #[168, 155] }, type := 168, pos := "camellia.go:112", after := #[{ on := 19, ground := Ground.data }, { on := 17, ground := Ground.chain }], guard := none }, { dst := some 122, op := Op.field 168 (Operand.tmp 121) 1, type := 29, pos := "camellia.go:110", after := #[{ on := 20, ground := Ground.data }], guard := none }, { dst := some 123, op := Op.load 168 (Operand.tmp 9), type := 168, pos := "camellia.go:110", after := #[], guard := none }, { dst := some 124, op := Op.call { callee := Callee.value (Operand.func 132), args := #[Operand.tmp 123, Operand.const (Value.int IntKind.u64 45)], argTypes := #[168, 155] }, type := 168, pos := "camellia.go:112", after := #[{ on := 22, ground := Ground.data }, { on := 20, ground := Ground.chain }], guard := none }, { dst := some 125, op := Op.field 168 (Operand.tmp 124) 0, type := 29, pos := "camellia.go:110", after := #[{ on := 23, ground := Ground.data }], guard := none }, { dst := some 126, op := Op.load 168 (Operand.tmp 5), type := 168, pos := "camellia.go:110", after := #[], guard := none }, { dst := some 127, op := Op.call { callee := Callee.value (Operand.func 132), args := #[Operand.tmp 126, Operand.const (Value.int IntKind.u64 60)], argTypes := #[168, 155] }, type := 168, pos := "camellia.go:112", after := #[{ on := 25, ground := Ground.data }, { on := 23, ground := Ground.chain }], guard := none }, { dst := some 128, op := Op.field 168 (Operand.tmp 127) 1, type := 29, pos := "camellia.go:110", after := #[{ on := 26, ground := Ground.data }], guard := none }, { dst := some 129, op := Op.load 168 (Operand.tmp 9), type := 168, pos := "camellia.go:110", after := #[], guard := none }, { dst := some 130, op := Op.call { callee := Callee.value (Operand.func 132), args := #[Operand.tmp 129, Operand.const (Value.int IntKind.u64 60)], argTypes := #[168, 155] }, type := 168, pos := "camellia.go:112", after := #[{ on := 28, ground := Ground.data }, { on := 26, ground := Ground.chain }], guard := none }, { dst := some 131, op := Op.field 168 (Operand.tmp 130) 0, type := 29, pos := "camellia.go:110", after := #[{ on := 29, ground := Ground.data }], guard := none }, { dst := some 132, op := Op.load 168 (Operand.tmp 9), type := 168, pos := "camellia.go:110", after := #[], guard := none }, { dst := some 133, op := Op.call { callee := Callee.value (Operand.func 132), args := #[Operand.tmp 132, Operand.const (Value.int IntKind.u64 60)], argTypes := #[168, 155] }, type := 168, pos := "camellia.go:112", after := #[{ on := 31, ground := Ground.data }, { on := 29, ground := Ground.chain }], guard := none }, { dst := some 134, op := Op.field 168 (Operand.tmp 133) 1, type := 29, pos := "camellia.go:110", after := #[{ on := 32, ground := Ground.data }], guard := none }, { dst := some 135, op := Op.load 168 (Operand.tmp 5), type := 168, pos := "camellia.go:110", after := #[], guard := none }, { dst := some 136, op := Op.call { callee := Callee.value (Operand.func 132), args := #[Operand.tmp 135, Operand.const (Value.int IntKind.u64 94)], argTypes := #[168, 155] }, type := 168, pos := "camellia.go:113", after := #[{ on := 34, ground := Ground.data }, { on := 32, ground := Ground.chain }], guard := none }, { dst := some 137, op := Op.field 168 (Operand.tmp 136) 0, type := 29, pos := "camellia.go:110", after := #[{ on := 35, ground := Ground.data }], guard := none }, { dst := some 138, op := Op.load 168 (Operand.tmp 5), type := 168, pos := "camellia.go:110", after := #[], guard := none }, { dst := some 139, op := Op.call { callee := Callee.value (Operand.func 132), args := #[Operand.tmp 138, Operand.const (Value.int IntKind.u64 94)], argTypes := #[168, 155] }, type := 168, pos := "camellia.go:113", after := #[{ on := 37, ground := Ground.data }, { on := 35, ground := Ground.chain }], guard := none }, { dst := some 140, op := Op.field 168 (Operand.tmp 139) 1, type := 29, pos := "camellia.go:110", after := #[{ on := 38, ground := Ground.data }], guard := none }, { dst := some 141, op := Op.load 168 (Operand.tmp 9), type := 168, pos := "camellia.go:110", after := #[], guard := none }, { dst := some 142, op := Op.call { callee := Callee.value (Operand.func 132), args := #[Operand.tmp 141, Operand.const (Value.int IntKind.u64 94)], argTypes := #[168, 155] }, type := 168, pos := "camellia.go:113", after := #[{ on := 40, ground := Ground.data }, { on := 38, ground := Ground.chain }], guard := none }, { dst := some 143, op := Op.field 168 (Operand.tmp 142) 0, type := 29, pos := "camellia.go:110", after := #[{ on := 41, ground := Ground.data }], guard := none }, { dst := some 144, op := Op.load 168 (Operand.tmp 9), type := 168, pos := "camellia.go:110", after := #[], guard := none }, { dst := some 145, op := Op.call { callee := Callee.value (Operand.func 132), args := #[Operand.tmp 144, Operand.const (Value.int IntKind.u64 94)], argTypes := #[168, 155] }, type := 168, pos := "camellia.go:113", after := #[{ on := 43, ground := Ground.data }, { on := 41, ground := Ground.chain }], guard := none }, { dst := some 146, op := Op.field 168 (Operand.tmp 145) 1, type := 29, pos := "camellia.go:110", after := #[{ on := 44, ground := Ground.data }], guard := none }, { dst := some 147, op := Op.load 168 (Operand.tmp 5), type := 168, pos := "camellia.go:110", after := #[], guard := none }, { dst := some 148, op := Op.call { callee := Callee.value (Operand.func 132), args := #[Operand.tmp 147, Operand.const (Value.int IntKind.u64 111)], argTypes := #[168, 155] }, type := 168, pos := "camellia.go:113", after := #[{ on := 46, ground := Ground.data }, { on := 44, ground := Ground.chain }], guard := none }, { dst := some 149, op := Op.field 168 (Operand.tmp 148) 0, type := 29, pos := "camellia.go:110", after := #[{ on := 47, ground := Ground.data }], guard := none }, { dst := some 150, op := Op.load 168 (Operand.tmp 5), type := 168, pos := "camellia.go:110", after := #[], guard := none }, { dst := some 151, op := Op.call { callee := Callee.value (Operand.func 132), args := #[Operand.tmp 150, Operand.const (Value.int IntKind.u64 111)], argTypes := #[168, 155] }, type := 168, pos := "camellia.go:113", after := #[{ on := 49, ground := Ground.data }, { on := 47, ground := Ground.chain }], guard := none }, { dst := some 152, op := Op.field 168 (Operand.tmp 151) 1, type := 29, pos := "camellia.go:110", after := #[{ on := 50, ground := Ground.data }], guard := none }, { dst := some 153, op := Op.buildSlice 146 18 #[(0, Operand.tmp 102), (1, Operand.tmp 104), (2, Operand.tmp 107), (3, Operand.tmp 110), (4, Operand.tmp 113), (5, Operand.tmp 116), (6, Operand.tmp 119), (7, Operand.tmp 122), (8, Operand.tmp 125), (9, Operand.tmp 128), (10, Operand.tmp 131), (11, Operand.tmp 134), (12, Operand.tmp 137), (13, Operand.tmp 140), (14, Operand.tmp 143), (15, Operand.tmp 146), (16, Operand.tmp 149), (17, Operand.tmp 152)], type := 146, pos := "camellia.go:110", after := #[{ on := 1, ground := Ground.data }, { on := 3, ground := Ground.data }, { on := 6, ground := Ground.data }, { on := 9, ground := Ground.data }, { on := 12, ground := Ground.data }, { on := 15, ground := Ground.data }, { on := 18, ground := Ground.data }, { on := 21, ground := Ground.data }, { on := 24, ground := Ground.data }, { on := 27, ground := Ground.data }, { on := 30, ground := Ground.data }, { on := 33, ground := Ground.data }, { on := 36, ground := Ground.data }, { on := 39, ground := Ground.data }, { on := 42, ground := Ground.data }, { on := 45, ground := Ground.data }, { on := 48, ground := Ground.data }, { on := 51, ground := Ground.data }], guard := none }, { dst := some 3, op := Op.assign (Operand.tmp 153), type := 146, pos := "camellia.go:110", after := #[{ on := 52, ground := Ground.data }, { on := 50, ground := Ground.chain }, { on := 0, ground := Ground.phase }, { on := 1, ground := Ground.phase }, { on := 2, ground := Ground.phase }, { on := 3, ground := Ground.phase }, { on := 4, ground := Ground.phase }, { on := 5, ground := Ground.phase }, { on := 6, ground := Ground.phase }, { on := 7, ground := Ground.phase }, { on := 8, ground := Ground.phase }, { on := 9, ground := Ground.phase }, { on := 10, ground := Ground.phase }, { on := 11, ground := Ground.phase }, { on := 12, ground := Ground.phase }, { on := 13, ground := Ground.phase }, { on := 14, ground := Ground.phase }, { on := 15, ground := Ground.phase }, { on := 16, ground := Ground.phase }, { on := 17, ground := Ground.phase }, { on := 18, ground := Ground.phase }, { on := 19, ground := Ground.phase }, { on := 20, ground := Ground.phase }, { on := 21, ground := Ground.phase }, { on := 22, ground := Ground.phase }, { on := 23, ground := Ground.phase }, { on := 24, ground := Ground.phase }, { on := 25, ground := Ground.phase }, { on := 26, ground := Ground.phase }, { on := 27, ground := Ground.phase }, { on := 28, ground := Ground.phase }, { on := 29, ground := Ground.phase }, { on := 30, ground := Ground.phase }, { on := 31, ground := Ground.phase }, { on := 32, ground := Ground.phase }, { on := 33, ground := Ground.phase }, { on := 34, ground := Ground.phase }, { on := 35, ground := Ground.phase }, { on := 36, ground := Ground.phase }, { on := 37, ground := Ground.phase }, { on := 38, ground := Ground.phase }, { on := 39, ground := Ground.phase }, { on := 40, ground := Ground.phase }, { on := 41, ground := Ground.phase }, { on := 42, ground := Ground.phase }, { on := 43, ground := Ground.phase }, { on := 44, ground := Ground.phase }, { on := 45, ground := Ground.phase }, { on := 46, ground := Ground.phase }, { on := 47, ground := Ground.phase }, { on := 48, ground := Ground.phase }, { on := 49, ground := Ground.phase }, { on := 50, ground := Ground.phase }, { on := 51, ground := Ground.phase }, { on := 52, ground := Ground.phase }], guard := none }]
def dep19 : Nat → List Nat
  | 1 => [0]
  | 3 => [2]
  | 5 => [4]
  | 6 => [5]
  | 8 => [7]
  | 9 => [8]
  | 11 => [10]
  | 12 => [11]
  | 14 => [13]
  | 15 => [14]
  | 17 => [16]
  | 18 => [17]
  | 20 => [19]
  | 21 => [20]
  | 23 => [22]
  | 24 => [23]
  | 26 => [25]
  | 27 => [26]
  | 29 => [28]
  | 30 => [29]
  | 32 => [31]
  | 33 => [32]
  | 35 => [34]
  | 36 => [35]
  | 38 => [37]
  | 39 => [38]
  | 41 => [40]
  | 42 => [41]
  | 44 => [43]
  | 45 => [44]
  | 47 => [46]
  | 48 => [47]
  | 50 => [49]
  | 51 => [50]
  | 52 => [1, 3, 6, 9, 12, 15, 18, 21, 24, 27, 30, 33, 36, 39, 42, 45, 48, 51]
  | 53 => [52]
  | _ => []
def vl19 (g5 g9 : Nat) (a1 a2 p8 p7 l15x l15y a15x a15y l45x l45y a45x a45y l60x l60y a60x a60y l94x l94y a94x a94y l111x l111y : Int) : List Value := [.pointer (some ⟨g9, 0, none⟩), .int .u64 p8, .pointer (some ⟨g9, 1, none⟩), .int .u64 p7, .agg #[.int .u64 a1, .int .u64 a2], .agg #[.int .u64 l15x, .int .u64 l15y], .int .u64 l15x, .agg #[.int .u64 a1, .int .u64 a2], .agg #[.int .u64 l15x, .int .u64 l15y], .int .u64 l15y, .agg #[.int .u64 p8, .int .u64 p7], .agg #[.int .u64 a15x, .int .u64 a15y], .int .u64 a15x, .agg #[.int .u64 p8, .int .u64 p7], .agg #[.int .u64 a15x, .int .u64 a15y], .int .u64 a15y, .agg #[.int .u64 a1, .int .u64 a2], .agg #[.int .u64 l45x, .int .u64 l45y], .int .u64 l45x, .agg #[.int .u64 a1, .int .u64 a2], .agg #[.int .u64 l45x, .int .u64 l45y], .int .u64 l45y, .agg #[.int .u64 p8, .int .u64 p7], .agg #[.int .u64 a45x, .int .u64 a45y], .int .u64 a45x, .agg #[.int .u64 a1, .int .u64 a2], .agg #[.int .u64 l60x, .int .u64 l60y], .int .u64 l60y, .agg #[.int .u64 p8, .int .u64 p7], .agg #[.int .u64 a60x, .int .u64 a60y], .int .u64 a60x, .agg #[.int .u64 p8, .int .u64 p7], .agg #[.int .u64 a60x, .int .u64 a60y], .int .u64 a60y, .agg #[.int .u64 a1, .int .u64 a2], .agg #[.int .u64 l94x, .int .u64 l94y], .int .u64 l94x, .agg #[.int .u64 a1, .int .u64 a2], .agg #[.int .u64 l94x, .int .u64 l94y], .int .u64 l94y, .agg #[.int .u64 p8, .int .u64 p7], .agg #[.int .u64 a94x, .int .u64 a94y], .int .u64 a94x, .agg #[.int .u64 p8, .int .u64 p7], .agg #[.int .u64 a94x, .int .u64 a94y], .int .u64 a94y, .agg #[.int .u64 a1, .int .u64 a2], .agg #[.int .u64 l111x, .int .u64 l111y], .int .u64 l111x, .agg #[.int .u64 a1, .int .u64 a2], .agg #[.int .u64 l111x, .int .u64 l111y], .int .u64 l111y]
theorem o19_0 : ∃ o, ops19[0]? = some o ∧ o.guard = none ∧ o.dst = some 101 ∧ o.op = .fieldAddr 168 (.tmp 9) 0 := ⟨_, rfl, rfl, rfl, rfl⟩
theorem o19_1 : ∃ o, ops19[1]? = some o ∧ o.guard = none ∧ o.dst = some 102 ∧ o.op = .load 29 (.tmp 101) := ⟨_, rfl, rfl, rfl, rfl⟩
theorem o19_2 : ∃ o, ops19[2]? = some o ∧ o.guard = none ∧ o.dst = some 103 ∧ o.op = .fieldAddr 168 (.tmp 9) 1 := ⟨_, rfl, rfl, rfl, rfl⟩
theorem o19_3 : ∃ o, ops19[3]? = some o ∧ o.guard = none ∧ o.dst = some 104 ∧ o.op = .load 29 (.tmp 103) := ⟨_, rfl, rfl, rfl, rfl⟩
theorem o19_4 : ∃ o, ops19[4]? = some o ∧ o.guard = none ∧ o.dst = some 105 ∧ o.op = .load 168 (.tmp 5) := ⟨_, rfl, rfl, rfl, rfl⟩
theorem o19_5 : ∃ o, ops19[5]? = some o ∧ o.guard = none ∧ o.dst = some 106 ∧ o.op = .call ⟨.value (.func 132), #[.tmp 105, .const (.int .u64 15)], #[168, 155]⟩ := ⟨_, rfl, rfl, rfl, rfl⟩
theorem o19_6 : ∃ o, ops19[6]? = some o ∧ o.guard = none ∧ o.dst = some 107 ∧ o.op = .field 168 (.tmp 106) 0 := ⟨_, rfl, rfl, rfl, rfl⟩
theorem o19_7 : ∃ o, ops19[7]? = some o ∧ o.guard = none ∧ o.dst = some 108 ∧ o.op = .load 168 (.tmp 5) := ⟨_, rfl, rfl, rfl, rfl⟩
theorem o19_8 : ∃ o, ops19[8]? = some o ∧ o.guard = none ∧ o.dst = some 109 ∧ o.op = .call ⟨.value (.func 132), #[.tmp 108, .const (.int .u64 15)], #[168, 155]⟩ := ⟨_, rfl, rfl, rfl, rfl⟩
theorem o19_9 : ∃ o, ops19[9]? = some o ∧ o.guard = none ∧ o.dst = some 110 ∧ o.op = .field 168 (.tmp 109) 1 := ⟨_, rfl, rfl, rfl, rfl⟩
theorem o19_10 : ∃ o, ops19[10]? = some o ∧ o.guard = none ∧ o.dst = some 111 ∧ o.op = .load 168 (.tmp 9) := ⟨_, rfl, rfl, rfl, rfl⟩
theorem o19_11 : ∃ o, ops19[11]? = some o ∧ o.guard = none ∧ o.dst = some 112 ∧ o.op = .call ⟨.value (.func 132), #[.tmp 111, .const (.int .u64 15)], #[168, 155]⟩ := ⟨_, rfl, rfl, rfl, rfl⟩
theorem o19_12 : ∃ o, ops19[12]? = some o ∧ o.guard = none ∧ o.dst = some 113 ∧ o.op = .field 168 (.tmp 112) 0 := ⟨_, rfl, rfl, rfl, rfl⟩
theorem o19_13 : ∃ o, ops19[13]? = some o ∧ o.guard = none ∧ o.dst = some 114 ∧ o.op = .load 168 (.tmp 9) := ⟨_, rfl, rfl, rfl, rfl⟩
theorem o19_14 : ∃ o, ops19[14]? = some o ∧ o.guard = none ∧ o.dst = some 115 ∧ o.op = .call ⟨.value (.func 132), #[.tmp 114, .const (.int .u64 15)], #[168, 155]⟩ := ⟨_, rfl, rfl, rfl, rfl⟩
theorem o19_15 : ∃ o, ops19[15]? = some o ∧ o.guard = none ∧ o.dst = some 116 ∧ o.op = .field 168 (.tmp 115) 1 := ⟨_, rfl, rfl, rfl, rfl⟩
theorem o19_16 : ∃ o, ops19[16]? = some o ∧ o.guard = none ∧ o.dst = some 117 ∧ o.op = .load 168 (.tmp 5) := ⟨_, rfl, rfl, rfl, rfl⟩
theorem o19_17 : ∃ o, ops19[17]? = some o ∧ o.guard = none ∧ o.dst = some 118 ∧ o.op = .call ⟨.value (.func 132), #[.tmp 117, .const (.int .u64 45)], #[168, 155]⟩ := ⟨_, rfl, rfl, rfl, rfl⟩
theorem o19_18 : ∃ o, ops19[18]? = some o ∧ o.guard = none ∧ o.dst = some 119 ∧ o.op = .field 168 (.tmp 118) 0 := ⟨_, rfl, rfl, rfl, rfl⟩
theorem o19_19 : ∃ o, ops19[19]? = some o ∧ o.guard = none ∧ o.dst = some 120 ∧ o.op = .load 168 (.tmp 5) := ⟨_, rfl, rfl, rfl, rfl⟩
theorem o19_20 : ∃ o, ops19[20]? = some o ∧ o.guard = none ∧ o.dst = some 121 ∧ o.op = .call ⟨.value (.func 132), #[.tmp 120, .const (.int .u64 45)], #[168, 155]⟩ := ⟨_, rfl, rfl, rfl, rfl⟩
theorem o19_21 : ∃ o, ops19[21]? = some o ∧ o.guard = none ∧ o.dst = some 122 ∧ o.op = .field 168 (.tmp 121) 1 := ⟨_, rfl, rfl, rfl, rfl⟩
theorem o19_22 : ∃ o, ops19[22]? = some o ∧ o.guard = none ∧ o.dst = some 123 ∧ o.op = .load 168 (.tmp 9) := ⟨_, rfl, rfl, rfl, rfl⟩
theorem o19_23 : ∃ o, ops19[23]? = some o ∧ o.guard = none ∧ o.dst = some 124 ∧ o.op = .call ⟨.value (.func 132), #[.tmp 123, .const (.int .u64 45)], #[168, 155]⟩ := ⟨_, rfl, rfl, rfl, rfl⟩
theorem o19_24 : ∃ o, ops19[24]? = some o ∧ o.guard = none ∧ o.dst = some 125 ∧ o.op = .field 168 (.tmp 124) 0 := ⟨_, rfl, rfl, rfl, rfl⟩
theorem o19_25 : ∃ o, ops19[25]? = some o ∧ o.guard = none ∧ o.dst = some 126 ∧ o.op = .load 168 (.tmp 5) := ⟨_, rfl, rfl, rfl, rfl⟩
theorem o19_26 : ∃ o, ops19[26]? = some o ∧ o.guard = none ∧ o.dst = some 127 ∧ o.op = .call ⟨.value (.func 132), #[.tmp 126, .const (.int .u64 60)], #[168, 155]⟩ := ⟨_, rfl, rfl, rfl, rfl⟩
theorem o19_27 : ∃ o, ops19[27]? = some o ∧ o.guard = none ∧ o.dst = some 128 ∧ o.op = .field 168 (.tmp 127) 1 := ⟨_, rfl, rfl, rfl, rfl⟩
theorem o19_28 : ∃ o, ops19[28]? = some o ∧ o.guard = none ∧ o.dst = some 129 ∧ o.op = .load 168 (.tmp 9) := ⟨_, rfl, rfl, rfl, rfl⟩
theorem o19_29 : ∃ o, ops19[29]? = some o ∧ o.guard = none ∧ o.dst = some 130 ∧ o.op = .call ⟨.value (.func 132), #[.tmp 129, .const (.int .u64 60)], #[168, 155]⟩ := ⟨_, rfl, rfl, rfl, rfl⟩
theorem o19_30 : ∃ o, ops19[30]? = some o ∧ o.guard = none ∧ o.dst = some 131 ∧ o.op = .field 168 (.tmp 130) 0 := ⟨_, rfl, rfl, rfl, rfl⟩
theorem o19_31 : ∃ o, ops19[31]? = some o ∧ o.guard = none ∧ o.dst = some 132 ∧ o.op = .load 168 (.tmp 9) := ⟨_, rfl, rfl, rfl, rfl⟩
theorem o19_32 : ∃ o, ops19[32]? = some o ∧ o.guard = none ∧ o.dst = some 133 ∧ o.op = .call ⟨.value (.func 132), #[.tmp 132, .const (.int .u64 60)], #[168, 155]⟩ := ⟨_, rfl, rfl, rfl, rfl⟩
theorem o19_33 : ∃ o, ops19[33]? = some o ∧ o.guard = none ∧ o.dst = some 134 ∧ o.op = .field 168 (.tmp 133) 1 := ⟨_, rfl, rfl, rfl, rfl⟩
theorem o19_34 : ∃ o, ops19[34]? = some o ∧ o.guard = none ∧ o.dst = some 135 ∧ o.op = .load 168 (.tmp 5) := ⟨_, rfl, rfl, rfl, rfl⟩
theorem o19_35 : ∃ o, ops19[35]? = some o ∧ o.guard = none ∧ o.dst = some 136 ∧ o.op = .call ⟨.value (.func 132), #[.tmp 135, .const (.int .u64 94)], #[168, 155]⟩ := ⟨_, rfl, rfl, rfl, rfl⟩
theorem o19_36 : ∃ o, ops19[36]? = some o ∧ o.guard = none ∧ o.dst = some 137 ∧ o.op = .field 168 (.tmp 136) 0 := ⟨_, rfl, rfl, rfl, rfl⟩
theorem o19_37 : ∃ o, ops19[37]? = some o ∧ o.guard = none ∧ o.dst = some 138 ∧ o.op = .load 168 (.tmp 5) := ⟨_, rfl, rfl, rfl, rfl⟩
theorem o19_38 : ∃ o, ops19[38]? = some o ∧ o.guard = none ∧ o.dst = some 139 ∧ o.op = .call ⟨.value (.func 132), #[.tmp 138, .const (.int .u64 94)], #[168, 155]⟩ := ⟨_, rfl, rfl, rfl, rfl⟩
theorem o19_39 : ∃ o, ops19[39]? = some o ∧ o.guard = none ∧ o.dst = some 140 ∧ o.op = .field 168 (.tmp 139) 1 := ⟨_, rfl, rfl, rfl, rfl⟩
theorem o19_40 : ∃ o, ops19[40]? = some o ∧ o.guard = none ∧ o.dst = some 141 ∧ o.op = .load 168 (.tmp 9) := ⟨_, rfl, rfl, rfl, rfl⟩
theorem o19_41 : ∃ o, ops19[41]? = some o ∧ o.guard = none ∧ o.dst = some 142 ∧ o.op = .call ⟨.value (.func 132), #[.tmp 141, .const (.int .u64 94)], #[168, 155]⟩ := ⟨_, rfl, rfl, rfl, rfl⟩
theorem o19_42 : ∃ o, ops19[42]? = some o ∧ o.guard = none ∧ o.dst = some 143 ∧ o.op = .field 168 (.tmp 142) 0 := ⟨_, rfl, rfl, rfl, rfl⟩
theorem o19_43 : ∃ o, ops19[43]? = some o ∧ o.guard = none ∧ o.dst = some 144 ∧ o.op = .load 168 (.tmp 9) := ⟨_, rfl, rfl, rfl, rfl⟩
theorem o19_44 : ∃ o, ops19[44]? = some o ∧ o.guard = none ∧ o.dst = some 145 ∧ o.op = .call ⟨.value (.func 132), #[.tmp 144, .const (.int .u64 94)], #[168, 155]⟩ := ⟨_, rfl, rfl, rfl, rfl⟩
theorem o19_45 : ∃ o, ops19[45]? = some o ∧ o.guard = none ∧ o.dst = some 146 ∧ o.op = .field 168 (.tmp 145) 1 := ⟨_, rfl, rfl, rfl, rfl⟩
theorem o19_46 : ∃ o, ops19[46]? = some o ∧ o.guard = none ∧ o.dst = some 147 ∧ o.op = .load 168 (.tmp 5) := ⟨_, rfl, rfl, rfl, rfl⟩
theorem o19_47 : ∃ o, ops19[47]? = some o ∧ o.guard = none ∧ o.dst = some 148 ∧ o.op = .call ⟨.value (.func 132), #[.tmp 147, .const (.int .u64 111)], #[168, 155]⟩ := ⟨_, rfl, rfl, rfl, rfl⟩
theorem o19_48 : ∃ o, ops19[48]? = some o ∧ o.guard = none ∧ o.dst = some 149 ∧ o.op = .field 168 (.tmp 148) 0 := ⟨_, rfl, rfl, rfl, rfl⟩
theorem o19_49 : ∃ o, ops19[49]? = some o ∧ o.guard = none ∧ o.dst = some 150 ∧ o.op = .load 168 (.tmp 5) := ⟨_, rfl, rfl, rfl, rfl⟩
theorem o19_50 : ∃ o, ops19[50]? = some o ∧ o.guard = none ∧ o.dst = some 151 ∧ o.op = .call ⟨.value (.func 132), #[.tmp 150, .const (.int .u64 111)], #[168, 155]⟩ := ⟨_, rfl, rfl, rfl, rfl⟩
theorem o19_51 : ∃ o, ops19[51]? = some o ∧ o.guard = none ∧ o.dst = some 152 ∧ o.op = .field 168 (.tmp 151) 1 := ⟨_, rfl, rfl, rfl, rfl⟩
theorem o19_52 : ∃ o, ops19[52]? = some o ∧ o.guard = none ∧ o.dst = some 153 ∧ o.op = .buildSlice 146 18 #[(0, .tmp 102), (1, .tmp 104), (2, .tmp 107), (3, .tmp 110), (4, .tmp 113), (5, .tmp 116), (6, .tmp 119), (7, .tmp 122), (8, .tmp 125), (9, .tmp 128), (10, .tmp 131), (11, .tmp 134), (12, .tmp 137), (13, .tmp 140), (14, .tmp 143), (15, .tmp 146), (16, .tmp 149), (17, .tmp 152)] := ⟨_, rfl, rfl, rfl, rfl⟩
theorem o19_53 : ∃ o, ops19[53]? = some o ∧ o.guard = none ∧ o.dst = some 3 ∧ o.op = .assign (.tmp 153) := ⟨_, rfl, rfl, rfl, rfl⟩
set_option maxHeartbeats 4000000 in
theorem region19_c {Q : Exit → Act → World → Prop} {a0 : Act} {w0 : World} (B g5 g9 : Nat) (a1 a2 p8 p7 l15x l15y a15x a15y l45x l45y a45x a45y l60x l60y a60x a60y l94x l94y a94x a94y l111x l111y : Int) (hsz : a0.tmps.size = 274) (h5 : a0.tmps[5]? = some (.pointer (some ⟨g5, 0, none⟩))) (A5 : Arr w0 g5 168 [.int .u64 a1, .int .u64 a2]) (h9 : a0.tmps[9]? = some (.pointer (some ⟨g9, 0, none⟩))) (A9 : Arr w0 g9 168 [.int .u64 p8, .int .u64 p7]) (Tkl15 : ∀ W, Calls Tryz.prog 132 #[.agg #[.int .u64 a1, .int .u64 a2], .int .u64 15] W fun e w' => e = .returned (.agg #[.int .u64 l15x, .int .u64 l15y]) ∧ Keep W w') (Tka15 : ∀ W, Calls Tryz.prog 132 #[.agg #[.int .u64 p8, .int .u64 p7], .int .u64 15] W fun e w' => e = .returned (.agg #[.int .u64 a15x, .int .u64 a15y]) ∧ Keep W w') (Tkl45 : ∀ W, Calls Tryz.prog 132 #[.agg #[.int .u64 a1, .int .u64 a2], .int .u64 45] W fun e w' => e = .returned (.agg #[.int .u64 l45x, .int .u64 l45y]) ∧ Keep W w') (Tka45 : ∀ W, Calls Tryz.prog 132 #[.agg #[.int .u64 p8, .int .u64 p7], .int .u64 45] W fun e w' => e = .returned (.agg #[.int .u64 a45x, .int .u64 a45y]) ∧ Keep W w') (Tkl60 : ∀ W, Calls Tryz.prog 132 #[.agg #[.int .u64 a1, .int .u64 a2], .int .u64 60] W fun e w' => e = .returned (.agg #[.int .u64 l60x, .int .u64 l60y]) ∧ Keep W w') (Tka60 : ∀ W, Calls Tryz.prog 132 #[.agg #[.int .u64 p8, .int .u64 p7], .int .u64 60] W fun e w' => e = .returned (.agg #[.int .u64 a60x, .int .u64 a60y]) ∧ Keep W w') (Tkl94 : ∀ W, Calls Tryz.prog 132 #[.agg #[.int .u64 a1, .int .u64 a2], .int .u64 94] W fun e w' => e = .returned (.agg #[.int .u64 l94x, .int .u64 l94y]) ∧ Keep W w') (Tka94 : ∀ W, Calls Tryz.prog 132 #[.agg #[.int .u64 p8, .int .u64 p7], .int .u64 94] W fun e w' => e = .returned (.agg #[.int .u64 a94x, .int .u64 a94y]) ∧ Keep W w') (Tkl111 : ∀ W, Calls Tryz.prog 132 #[.agg #[.int .u64 a1, .int .u64 a2], .int .u64 111] W fun e w' => e = .returned (.agg #[.int .u64 l111x, .int .u64 l111y]) ∧ Keep W w') (hB : B ≤ w0.heap.size)
    (hend : ∀ a w v, a.defers = a0.defers → a.tmps.size = a0.tmps.size → (∀ n, ¬ (101 ≤ n ∧ n ≤ 101 + 52) → n ≠ 3 → a.tmps[n]? = a0.tmps[n]?) → a.tmps[3]? = some v → Own B 29 w v [.int .u64 p8, .int .u64 p7, .int .u64 l15x, .int .u64 l15y, .int .u64 a15x, .int .u64 a15y, .int .u64 l45x, .int .u64 l45y, .int .u64 a45x, .int .u64 l60y, .int .u64 a60x, .int .u64 a60y, .int .u64 l94x, .int .u64 l94y, .int .u64 a94x, .int .u64 a94y, .int .u64 l111x, .int .u64 l111y] → Keep w0 w → Q .normal a w) :
    (Code.region 19 ops19 true).wp Tryz.prog Q a0 w0 := by
  refine region_pb (by rfl) 52 101 3 (fun i => (vl19 g5 g9 a1 a2 p8 p7 l15x l15y a15x a15y l45x l45y a45x a45y l60x l60y a60x a60y l94x l94y a94x a94y l111x l111y).getD i undef) B 29 [.int .u64 p8, .int .u64 p7, .int .u64 l15x, .int .u64 l15y, .int .u64 a15x, .int .u64 a15y, .int .u64 l45x, .int .u64 l45y, .int .u64 a45x, .int .u64 l60y, .int .u64 a60x, .int .u64 a60y, .int .u64 l94x, .int .u64 l94y, .int .u64 a94x, .int .u64 a94y, .int .u64 l111x, .int .u64 l111y] dep19 rfl (by omega) (by omega) ?_ ?_ o19_53 ?_ rfl (hr_of rfl (by decide +kernel) (by decide +kernel)) hend
  · intro i hi
    have hor : i = 0 ∨ i = 1 ∨ i = 2 ∨ i = 3 ∨ i = 4 ∨ i = 5 ∨ i = 6 ∨ i = 7 ∨ i = 8 ∨ i = 9 ∨ i = 10 ∨ i = 11 ∨ i = 12 ∨ i = 13 ∨ i = 14 ∨ i = 15 ∨ i = 16 ∨ i = 17 ∨ i = 18 ∨ i = 19 ∨ i = 20 ∨ i = 21 ∨ i = 22 ∨ i = 23 ∨ i = 24 ∨ i = 25 ∨ i = 26 ∨ i = 27 ∨ i = 28 ∨ i = 29 ∨ i = 30 ∨ i = 31 ∨ i = 32 ∨ i = 33 ∨ i = 34 ∨ i = 35 ∨ i = 36 ∨ i = 37 ∨ i = 38 ∨ i = 39 ∨ i = 40 ∨ i = 41 ∨ i = 42 ∨ i = 43 ∨ i = 44 ∨ i = 45 ∨ i = 46 ∨ i = 47 ∨ i = 48 ∨ i = 49 ∨ i = 50 ∨ i = 51 := by clear hend hsz hB; omega
    rcases hor with rfl | rfl | rfl | rfl | rfl | rfl | rfl | rfl | rfl | rfl | rfl | rfl | rfl | rfl | rfl | rfl | rfl | rfl | rfl | rfl | rfl | rfl | rfl | rfl | rfl | rfl | rfl | rfl | rfl | rfl | rfl | rfl | rfl | rfl | rfl | rfl | rfl | rfl | rfl | rfl | rfl | rfl | rfl | rfl | rfl | rfl | rfl | rfl | rfl | rfl | rfl | rfl
    · obtain ⟨o, e1, e2, e3, e4⟩ := o19_0
      exact ⟨o, e1, e2, e3, fun a w K Q hk ho hdp hK => wp_fa0 (.tmp 9) e4 g9 (eval_of (by rw [ho 9 (by omega) (by omega)]; exact h9)) (hK w (Keep.refl w))⟩
    · obtain ⟨o, e1, e2, e3, e4⟩ := o19_1
      exact ⟨o, e1, e2, e3, fun a w K Q hk ho hdp hK => wp_ld74 (.tmp 101) e4 g9 0 p8 (eval_of (hdp 0 (by decide))) ((A9.keep hk).cell 0) (hK w (Keep.refl w))⟩
    · obtain ⟨o, e1, e2, e3, e4⟩ := o19_2
      exact ⟨o, e1, e2, e3, fun a w K Q hk ho hdp hK => wp_fa1 (.tmp 9) e4 g9 (eval_of (by rw [ho 9 (by omega) (by omega)]; exact h9)) (hK w (Keep.refl w))⟩
    · obtain ⟨o, e1, e2, e3, e4⟩ := o19_3
      exact ⟨o, e1, e2, e3, fun a w K Q hk ho hdp hK => wp_ld74 (.tmp 103) e4 g9 1 p7 (eval_of (hdp 2 (by decide))) ((A9.keep hk).cell 1) (hK w (Keep.refl w))⟩
    · obtain ⟨o, e1, e2, e3, e4⟩ := o19_4
      exact ⟨o, e1, e2, e3, fun a w K Q hk ho hdp hK => wp_load_mid 168 (.tmp 5) e4 g5 0 (eval_of (by rw [ho 5 (by omega) (by omega)]; exact h5)) [.int .u64 a1, .int .u64 a2] _ (fun j v hv => by rw [Nat.zero_add, (A5.keep hk).cell j]; exact hv) Tryz.underlying168 rfl s104 (hK w (Keep.refl w))⟩
    · obtain ⟨o, e1, e2, e3, e4⟩ := o19_5
      exact ⟨o, e1, e2, e3, fun a w K Q hk ho hdp hK => wp_call2 132 (.tmp 105) (.const (.int .u64 15)) _ e4 _ Tryz.func132 (by kernel_rfl) (by kernel_rfl) _ _ (eval_of (hdp 4 (by decide))) rfl ((Tkl15 w).mono fun e w' hh => ⟨_, hh.1, hK w' hh.2⟩)⟩
    · obtain ⟨o, e1, e2, e3, e4⟩ := o19_6
      exact ⟨o, e1, e2, e3, fun a w K Q hk ho hdp hK => wp_fl0 (.tmp 106) e4 l15x l15y (eval_of (hdp 5 (by decide))) (hK w (Keep.refl w))⟩
    · obtain ⟨o, e1, e2, e3, e4⟩ := o19_7
      exact ⟨o, e1, e2, e3, fun a w K Q hk ho hdp hK => wp_load_mid 168 (.tmp 5) e4 g5 0 (eval_of (by rw [ho 5 (by omega) (by omega)]; exact h5)) [.int .u64 a1, .int .u64 a2] _ (fun j v hv => by rw [Nat.zero_add, (A5.keep hk).cell j]; exact hv) Tryz.underlying168 rfl s104 (hK w (Keep.refl w))⟩
    · obtain ⟨o, e1, e2, e3, e4⟩ := o19_8
      exact ⟨o, e1, e2, e3, fun a w K Q hk ho hdp hK => wp_call2 132 (.tmp 108) (.const (.int .u64 15)) _ e4 _ Tryz.func132 (by kernel_rfl) (by kernel_rfl) _ _ (eval_of (hdp 7 (by decide))) rfl ((Tkl15 w).mono fun e w' hh => ⟨_, hh.1, hK w' hh.2⟩)⟩
    · obtain ⟨o, e1, e2, e3, e4⟩ := o19_9
      exact ⟨o, e1, e2, e3, fun a w K Q hk ho hdp hK => wp_fl1 (.tmp 109) e4 l15x l15y (eval_of (hdp 8 (by decide))) (hK w (Keep.refl w))⟩
    · obtain ⟨o, e1, e2, e3, e4⟩ := o19_10
      exact ⟨o, e1, e2, e3, fun a w K Q hk ho hdp hK => wp_load_mid 168 (.tmp 9) e4 g9 0 (eval_of (by rw [ho 9 (by omega) (by omega)]; exact h9)) [.int .u64 p8, .int .u64 p7] _ (fun j v hv => by rw [Nat.zero_add, (A9.keep hk).cell j]; exact hv) Tryz.underlying168 rfl s104 (hK w (Keep.refl w))⟩
    · obtain ⟨o, e1, e2, e3, e4⟩ := o19_11
      exact ⟨o, e1, e2, e3, fun a w K Q hk ho hdp hK => wp_call2 132 (.tmp 111) (.const (.int .u64 15)) _ e4 _ Tryz.func132 (by kernel_rfl) (by kernel_rfl) _ _ (eval_of (hdp 10 (by decide))) rfl ((Tka15 w).mono fun e w' hh => ⟨_, hh.1, hK w' hh.2⟩)⟩
    · obtain ⟨o, e1, e2, e3, e4⟩ := o19_12
      exact ⟨o, e1, e2, e3, fun a w K Q hk ho hdp hK => wp_fl0 (.tmp 112) e4 a15x a15y (eval_of (hdp 11 (by decide))) (hK w (Keep.refl w))⟩
    · obtain ⟨o, e1, e2, e3, e4⟩ := o19_13
      exact ⟨o, e1, e2, e3, fun a w K Q hk ho hdp hK => wp_load_mid 168 (.tmp 9) e4 g9 0 (eval_of (by rw [ho 9 (by omega) (by omega)]; exact h9)) [.int .u64 p8, .int .u64 p7] _ (fun j v hv => by rw [Nat.zero_add, (A9.keep hk).cell j]; exact hv) Tryz.underlying168 rfl s104 (hK w (Keep.refl w))⟩
    · obtain ⟨o, e1, e2, e3, e4⟩ := o19_14
      exact ⟨o, e1, e2, e3, fun a w K Q hk ho hdp hK => wp_call2 132 (.tmp 114) (.const (.int .u64 15)) _ e4 _ Tryz.func132 (by kernel_rfl) (by kernel_rfl) _ _ (eval_of (hdp 13 (by decide))) rfl ((Tka15 w).mono fun e w' hh => ⟨_, hh.1, hK w' hh.2⟩)⟩
    · obtain ⟨o, e1, e2, e3, e4⟩ := o19_15
      exact ⟨o, e1, e2, e3, fun a w K Q hk ho hdp hK => wp_fl1 (.tmp 115) e4 a15x a15y (eval_of (hdp 14 (by decide))) (hK w (Keep.refl w))⟩
    · obtain ⟨o, e1, e2, e3, e4⟩ := o19_16
      exact ⟨o, e1, e2, e3, fun a w K Q hk ho hdp hK => wp_load_mid 168 (.tmp 5) e4 g5 0 (eval_of (by rw [ho 5 (by omega) (by omega)]; exact h5)) [.int .u64 a1, .int .u64 a2] _ (fun j v hv => by rw [Nat.zero_add, (A5.keep hk).cell j]; exact hv) Tryz.underlying168 rfl s104 (hK w (Keep.refl w))⟩
    · obtain ⟨o, e1, e2, e3, e4⟩ := o19_17
      exact ⟨o, e1, e2, e3, fun a w K Q hk ho hdp hK => wp_call2 132 (.tmp 117) (.const (.int .u64 45)) _ e4 _ Tryz.func132 (by kernel_rfl) (by kernel_rfl) _ _ (eval_of (hdp 16 (by decide))) rfl ((Tkl45 w).mono fun e w' hh => ⟨_, hh.1, hK w' hh.2⟩)⟩
    · obtain ⟨o, e1, e2, e3, e4⟩ := o19_18
      exact ⟨o, e1, e2, e3, fun a w K Q hk ho hdp hK => wp_fl0 (.tmp 118) e4 l45x l45y (eval_of (hdp 17 (by decide))) (hK w (Keep.refl w))⟩
    · obtain ⟨o, e1, e2, e3, e4⟩ := o19_19
      exact ⟨o, e1, e2, e3, fun a w K Q hk ho hdp hK => wp_load_mid 168 (.tmp 5) e4 g5 0 (eval_of (by rw [ho 5 (by omega) (by omega)]; exact h5)) [.int .u64 a1, .int .u64 a2] _ (fun j v hv => by rw [Nat.zero_add, (A5.keep hk).cell j]; exact hv) Tryz.underlying168 rfl s104 (hK w (Keep.refl w))⟩
    · obtain ⟨o, e1, e2, e3, e4⟩ := o19_20
      exact ⟨o, e1, e2, e3, fun a w K Q hk ho hdp hK => wp_call2 132 (.tmp 120) (.const (.int .u64 45)) _ e4 _ Tryz.func132 (by kernel_rfl) (by kernel_rfl) _ _ (eval_of (hdp 19 (by decide))) rfl ((Tkl45 w).mono fun e w' hh => ⟨_, hh.1, hK w' hh.2⟩)⟩
    · obtain ⟨o, e1, e2, e3, e4⟩ := o19_21
      exact ⟨o, e1, e2, e3, fun a w K Q hk ho hdp hK => wp_fl1 (.tmp 121) e4 l45x l45y (eval_of (hdp 20 (by decide))) (hK w (Keep.refl w))⟩
    · obtain ⟨o, e1, e2, e3, e4⟩ := o19_22
      exact ⟨o, e1, e2, e3, fun a w K Q hk ho hdp hK => wp_load_mid 168 (.tmp 9) e4 g9 0 (eval_of (by rw [ho 9 (by omega) (by omega)]; exact h9)) [.int .u64 p8, .int .u64 p7] _ (fun j v hv => by rw [Nat.zero_add, (A9.keep hk).cell j]; exact hv) Tryz.underlying168 rfl s104 (hK w (Keep.refl w))⟩
    · obtain ⟨o, e1, e2, e3, e4⟩ := o19_23
      exact ⟨o, e1, e2, e3, fun a w K Q hk ho hdp hK => wp_call2 132 (.tmp 123) (.const (.int .u64 45)) _ e4 _ Tryz.func132 (by kernel_rfl) (by kernel_rfl) _ _ (eval_of (hdp 22 (by decide))) rfl ((Tka45 w).mono fun e w' hh => ⟨_, hh.1, hK w' hh.2⟩)⟩
    · obtain ⟨o, e1, e2, e3, e4⟩ := o19_24
      exact ⟨o, e1, e2, e3, fun a w K Q hk ho hdp hK => wp_fl0 (.tmp 124) e4 a45x a45y (eval_of (hdp 23 (by decide))) (hK w (Keep.refl w))⟩
    · obtain ⟨o, e1, e2, e3, e4⟩ := o19_25
      exact ⟨o, e1, e2, e3, fun a w K Q hk ho hdp hK => wp_load_mid 168 (.tmp 5) e4 g5 0 (eval_of (by rw [ho 5 (by omega) (by omega)]; exact h5)) [.int .u64 a1, .int .u64 a2] _ (fun j v hv => by rw [Nat.zero_add, (A5.keep hk).cell j]; exact hv) Tryz.underlying168 rfl s104 (hK w (Keep.refl w))⟩
    · obtain ⟨o, e1, e2, e3, e4⟩ := o19_26
      exact ⟨o, e1, e2, e3, fun a w K Q hk ho hdp hK => wp_call2 132 (.tmp 126) (.const (.int .u64 60)) _ e4 _ Tryz.func132 (by kernel_rfl) (by kernel_rfl) _ _ (eval_of (hdp 25 (by decide))) rfl ((Tkl60 w).mono fun e w' hh => ⟨_, hh.1, hK w' hh.2⟩)⟩
    · obtain ⟨o, e1, e2, e3, e4⟩ := o19_27
      exact ⟨o, e1, e2, e3, fun a w K Q hk ho hdp hK => wp_fl1 (.tmp 127) e4 l60x l60y (eval_of (hdp 26 (by decide))) (hK w (Keep.refl w))⟩
    · obtain ⟨o, e1, e2, e3, e4⟩ := o19_28
      exact ⟨o, e1, e2, e3, fun a w K Q hk ho hdp hK => wp_load_mid 168 (.tmp 9) e4 g9 0 (eval_of (by rw [ho 9 (by omega) (by omega)]; exact h9)) [.int .u64 p8, .int .u64 p7] _ (fun j v hv => by rw [Nat.zero_add, (A9.keep hk).cell j]; exact hv) Tryz.underlying168 rfl s104 (hK w (Keep.refl w))⟩
    · obtain ⟨o, e1, e2, e3, e4⟩ := o19_29
      exact ⟨o, e1, e2, e3, fun a w K Q hk ho hdp hK => wp_call2 132 (.tmp 129) (.const (.int .u64 60)) _ e4 _ Tryz.func132 (by kernel_rfl) (by kernel_rfl) _ _ (eval_of (hdp 28 (by decide))) rfl ((Tka60 w).mono fun e w' hh => ⟨_, hh.1, hK w' hh.2⟩)⟩
    · obtain ⟨o, e1, e2, e3, e4⟩ := o19_30
      exact ⟨o, e1, e2, e3, fun a w K Q hk ho hdp hK => wp_fl0 (.tmp 130) e4 a60x a60y (eval_of (hdp 29 (by decide))) (hK w (Keep.refl w))⟩
    · obtain ⟨o, e1, e2, e3, e4⟩ := o19_31
      exact ⟨o, e1, e2, e3, fun a w K Q hk ho hdp hK => wp_load_mid 168 (.tmp 9) e4 g9 0 (eval_of (by rw [ho 9 (by omega) (by omega)]; exact h9)) [.int .u64 p8, .int .u64 p7] _ (fun j v hv => by rw [Nat.zero_add, (A9.keep hk).cell j]; exact hv) Tryz.underlying168 rfl s104 (hK w (Keep.refl w))⟩
    · obtain ⟨o, e1, e2, e3, e4⟩ := o19_32
      exact ⟨o, e1, e2, e3, fun a w K Q hk ho hdp hK => wp_call2 132 (.tmp 132) (.const (.int .u64 60)) _ e4 _ Tryz.func132 (by kernel_rfl) (by kernel_rfl) _ _ (eval_of (hdp 31 (by decide))) rfl ((Tka60 w).mono fun e w' hh => ⟨_, hh.1, hK w' hh.2⟩)⟩
    · obtain ⟨o, e1, e2, e3, e4⟩ := o19_33
      exact ⟨o, e1, e2, e3, fun a w K Q hk ho hdp hK => wp_fl1 (.tmp 133) e4 a60x a60y (eval_of (hdp 32 (by decide))) (hK w (Keep.refl w))⟩
    · obtain ⟨o, e1, e2, e3, e4⟩ := o19_34
      exact ⟨o, e1, e2, e3, fun a w K Q hk ho hdp hK => wp_load_mid 168 (.tmp 5) e4 g5 0 (eval_of (by rw [ho 5 (by omega) (by omega)]; exact h5)) [.int .u64 a1, .int .u64 a2] _ (fun j v hv => by rw [Nat.zero_add, (A5.keep hk).cell j]; exact hv) Tryz.underlying168 rfl s104 (hK w (Keep.refl w))⟩
    · obtain ⟨o, e1, e2, e3, e4⟩ := o19_35
      exact ⟨o, e1, e2, e3, fun a w K Q hk ho hdp hK => wp_call2 132 (.tmp 135) (.const (.int .u64 94)) _ e4 _ Tryz.func132 (by kernel_rfl) (by kernel_rfl) _ _ (eval_of (hdp 34 (by decide))) rfl ((Tkl94 w).mono fun e w' hh => ⟨_, hh.1, hK w' hh.2⟩)⟩
    · obtain ⟨o, e1, e2, e3, e4⟩ := o19_36
      exact ⟨o, e1, e2, e3, fun a w K Q hk ho hdp hK => wp_fl0 (.tmp 136) e4 l94x l94y (eval_of (hdp 35 (by decide))) (hK w (Keep.refl w))⟩
    · obtain ⟨o, e1, e2, e3, e4⟩ := o19_37
      exact ⟨o, e1, e2, e3, fun a w K Q hk ho hdp hK => wp_load_mid 168 (.tmp 5) e4 g5 0 (eval_of (by rw [ho 5 (by omega) (by omega)]; exact h5)) [.int .u64 a1, .int .u64 a2] _ (fun j v hv => by rw [Nat.zero_add, (A5.keep hk).cell j]; exact hv) Tryz.underlying168 rfl s104 (hK w (Keep.refl w))⟩
    · obtain ⟨o, e1, e2, e3, e4⟩ := o19_38
      exact ⟨o, e1, e2, e3, fun a w K Q hk ho hdp hK => wp_call2 132 (.tmp 138) (.const (.int .u64 94)) _ e4 _ Tryz.func132 (by kernel_rfl) (by kernel_rfl) _ _ (eval_of (hdp 37 (by decide))) rfl ((Tkl94 w).mono fun e w' hh => ⟨_, hh.1, hK w' hh.2⟩)⟩
    · obtain ⟨o, e1, e2, e3, e4⟩ := o19_39
      exact ⟨o, e1, e2, e3, fun a w K Q hk ho hdp hK => wp_fl1 (.tmp 139) e4 l94x l94y (eval_of (hdp 38 (by decide))) (hK w (Keep.refl w))⟩
    · obtain ⟨o, e1, e2, e3, e4⟩ := o19_40
      exact ⟨o, e1, e2, e3, fun a w K Q hk ho hdp hK => wp_load_mid 168 (.tmp 9) e4 g9 0 (eval_of (by rw [ho 9 (by omega) (by omega)]; exact h9)) [.int .u64 p8, .int .u64 p7] _ (fun j v hv => by rw [Nat.zero_add, (A9.keep hk).cell j]; exact hv) Tryz.underlying168 rfl s104 (hK w (Keep.refl w))⟩
    · obtain ⟨o, e1, e2, e3, e4⟩ := o19_41
      exact ⟨o, e1, e2, e3, fun a w K Q hk ho hdp hK => wp_call2 132 (.tmp 141) (.const (.int .u64 94)) _ e4 _ Tryz.func132 (by kernel_rfl) (by kernel_rfl) _ _ (eval_of (hdp 40 (by decide))) rfl ((Tka94 w).mono fun e w' hh => ⟨_, hh.1, hK w' hh.2⟩)⟩
    · obtain ⟨o, e1, e2, e3, e4⟩ := o19_42
      exact ⟨o, e1, e2, e3, fun a w K Q hk ho hdp hK => wp_fl0 (.tmp 142) e4 a94x a94y (eval_of (hdp 41 (by decide))) (hK w (Keep.refl w))⟩
    · obtain ⟨o, e1, e2, e3, e4⟩ := o19_43
      exact ⟨o, e1, e2, e3, fun a w K Q hk ho hdp hK => wp_load_mid 168 (.tmp 9) e4 g9 0 (eval_of (by rw [ho 9 (by omega) (by omega)]; exact h9)) [.int .u64 p8, .int .u64 p7] _ (fun j v hv => by rw [Nat.zero_add, (A9.keep hk).cell j]; exact hv) Tryz.underlying168 rfl s104 (hK w (Keep.refl w))⟩
    · obtain ⟨o, e1, e2, e3, e4⟩ := o19_44
      exact ⟨o, e1, e2, e3, fun a w K Q hk ho hdp hK => wp_call2 132 (.tmp 144) (.const (.int .u64 94)) _ e4 _ Tryz.func132 (by kernel_rfl) (by kernel_rfl) _ _ (eval_of (hdp 43 (by decide))) rfl ((Tka94 w).mono fun e w' hh => ⟨_, hh.1, hK w' hh.2⟩)⟩
    · obtain ⟨o, e1, e2, e3, e4⟩ := o19_45
      exact ⟨o, e1, e2, e3, fun a w K Q hk ho hdp hK => wp_fl1 (.tmp 145) e4 a94x a94y (eval_of (hdp 44 (by decide))) (hK w (Keep.refl w))⟩
    · obtain ⟨o, e1, e2, e3, e4⟩ := o19_46
      exact ⟨o, e1, e2, e3, fun a w K Q hk ho hdp hK => wp_load_mid 168 (.tmp 5) e4 g5 0 (eval_of (by rw [ho 5 (by omega) (by omega)]; exact h5)) [.int .u64 a1, .int .u64 a2] _ (fun j v hv => by rw [Nat.zero_add, (A5.keep hk).cell j]; exact hv) Tryz.underlying168 rfl s104 (hK w (Keep.refl w))⟩
    · obtain ⟨o, e1, e2, e3, e4⟩ := o19_47
      exact ⟨o, e1, e2, e3, fun a w K Q hk ho hdp hK => wp_call2 132 (.tmp 147) (.const (.int .u64 111)) _ e4 _ Tryz.func132 (by kernel_rfl) (by kernel_rfl) _ _ (eval_of (hdp 46 (by decide))) rfl ((Tkl111 w).mono fun e w' hh => ⟨_, hh.1, hK w' hh.2⟩)⟩
    · obtain ⟨o, e1, e2, e3, e4⟩ := o19_48
      exact ⟨o, e1, e2, e3, fun a w K Q hk ho hdp hK => wp_fl0 (.tmp 148) e4 l111x l111y (eval_of (hdp 47 (by decide))) (hK w (Keep.refl w))⟩
    · obtain ⟨o, e1, e2, e3, e4⟩ := o19_49
      exact ⟨o, e1, e2, e3, fun a w K Q hk ho hdp hK => wp_load_mid 168 (.tmp 5) e4 g5 0 (eval_of (by rw [ho 5 (by omega) (by omega)]; exact h5)) [.int .u64 a1, .int .u64 a2] _ (fun j v hv => by rw [Nat.zero_add, (A5.keep hk).cell j]; exact hv) Tryz.underlying168 rfl s104 (hK w (Keep.refl w))⟩
    · obtain ⟨o, e1, e2, e3, e4⟩ := o19_50
      exact ⟨o, e1, e2, e3, fun a w K Q hk ho hdp hK => wp_call2 132 (.tmp 150) (.const (.int .u64 111)) _ e4 _ Tryz.func132 (by kernel_rfl) (by kernel_rfl) _ _ (eval_of (hdp 49 (by decide))) rfl ((Tkl111 w).mono fun e w' hh => ⟨_, hh.1, hK w' hh.2⟩)⟩
    · obtain ⟨o, e1, e2, e3, e4⟩ := o19_51
      exact ⟨o, e1, e2, e3, fun a w K Q hk ho hdp hK => wp_fl1 (.tmp 151) e4 l111x l111y (eval_of (hdp 50 (by decide))) (hK w (Keep.refl w))⟩
  · obtain ⟨o, e1, e2, e3, e4⟩ := o19_52
    exact ⟨o, e1, e2, e3, fun a w K Q hk hdp hK => wp_bs18 102 104 107 110 113 116 119 122 125 128 131 134 137 140 143 146 149 152 p8 p7 l15x l15y a15x a15y l45x l45y a45x l60y a60x a60y l94x l94y a94x a94y l111x l111y e4 (hdp 1 (by decide)) (hdp 3 (by decide)) (hdp 6 (by decide)) (hdp 9 (by decide)) (hdp 12 (by decide)) (hdp 15 (by decide)) (hdp 18 (by decide)) (hdp 21 (by decide)) (hdp 24 (by decide)) (hdp 27 (by decide)) (hdp 30 (by decide)) (hdp 33 (by decide)) (hdp 36 (by decide)) (hdp 39 (by decide)) (hdp 42 (by decide)) (hdp 45 (by decide)) (hdp 48 (by decide)) (hdp 51 (by decide)) B (Nat.le_trans hB hk.size) hK⟩
  · have hd : ∀ i < 52 + 1, ∀ j ∈ dep19 i, j < 52 := by decide
    exact fun i j hi hj => hd i (by omega) j hj
end Go.Proofs.Qxb6500771aGreat
