/- KeyOf, SendOf, ExpectOf of a step. -/
import Derived.Test.Qxb6500771aGreatTlE
import Derived.Test.Qxb6500771aGreatSmall
namespace Go.Proofs.Qxb6500771aGreat
open Go.RowKit Go.Qm
set_option linter.unusedVariables false
set_option linter.unusedSimpArgs false

section
variable (kd e us id f ec rrc sq off nn room fi : Int) (a2 a9 a10 : Option Addr) (n2 c2 n9 c9 n10 c10 : Nat) (fa : Bool) (w : World)
theorem keyOf_c : Calls Tryz.prog 14 #[.agg #[.int .i64 kd, .int .i32 e, .slice a2 n2 c2, .int .u32 us, .int .u16 id, .int .u8 f, .int .u16 ec, .int .u16 rrc, .int .u64 sq, .slice a9 n9 c9, .slice a10 n10 c10, .bool fa, .int .i64 off, .int .i64 nn, .int .i64 room, .int .u8 fi]] w fun x w' =>
    x = .returned (.agg #[.int .i32 e, .slice a2 n2 c2]) ∧ Keep w w' := by
  go_enter Tryz.func14, Tryz.ntmps14
  go_wp2
  refine bodyPost_ret (v := .agg #[.int .i32 e, .slice a2 n2 c2]) (by simp [results, Tryz.results14, go_sem]) rfl ⟨rfl, ((Keep.refl _).alloc _).alloc _⟩
theorem sendOf_c : Calls Tryz.prog 15 #[.agg #[.int .i64 kd, .int .i32 e, .slice a2 n2 c2, .int .u32 us, .int .u16 id, .int .u8 f, .int .u16 ec, .int .u16 rrc, .int .u64 sq, .slice a9 n9 c9, .slice a10 n10 c10, .bool fa, .int .i64 off, .int .i64 nn, .int .i64 room, .int .u8 fi]] w fun x w' =>
    x = .returned (.agg #[.int .u32 us, .int .u8 f, .int .u64 sq, .int .u16 ec, .int .u16 rrc, .slice a9 n9 c9]) ∧ Keep w w' := by
  go_enter Tryz.func15, Tryz.ntmps15
  go_wp2
  refine bodyPost_ret (v := .agg #[.int .u32 us, .int .u8 f, .int .u64 sq, .int .u16 ec, .int .u16 rrc, .slice a9 n9 c9]) (by simp [results, Tryz.results15, go_sem]) rfl ⟨rfl, ((Keep.refl _).alloc _).alloc _⟩
theorem expectOf_c : Calls Tryz.prog 23 #[.agg #[.int .i64 kd, .int .i32 e, .slice a2 n2 c2, .int .u32 us, .int .u16 id, .int .u8 f, .int .u16 ec, .int .u16 rrc, .int .u64 sq, .slice a9 n9 c9, .slice a10 n10 c10, .bool fa, .int .i64 off, .int .i64 nn, .int .i64 room, .int .u8 fi]] w fun x w' =>
    x = .returned (.agg #[.int .u32 us, .bool fa]) ∧ Keep w w' := by
  go_enter Tryz.func23, Tryz.ntmps23
  go_wp2
  refine bodyPost_ret (v := .agg #[.int .u32 us, .bool fa]) (by simp [results, Tryz.results23, go_sem]) rfl ⟨rfl, ((Keep.refl _).alloc _).alloc _⟩
end
end Go.Proofs.Qxb6500771aGreat
