/- blast: expr. -/
import Derived.Test.Qxb6500772aDh
import Derived.Test.Qxb6500772aDi
import Derived.Test.Qxb6500772aDj
import Derived.Test.Qxb6500772aDk
import Derived.Test.Qxb6500772aDl
namespace Go.Proofs.Qxb6500772a
open Go.RowKit Go.Qm
set_option linter.unusedVariables false
theorem wt_kind' {ws : List Int} {f : EF} {ks : List Int} (h : wtOne ws f ks) : f.k = 0 ∨ f.k = 1 ∨ f.k = 2 ∨ f.k = 3 ∨ f.k = 4 ∨ f.k = 5 ∨ f.k = 6 := by
  rcases h.2 with ⟨a, -⟩ | ⟨a, -⟩ | ⟨a, -⟩ | ⟨a, -⟩ | ⟨a, -⟩ | ⟨a, -⟩ | ⟨a, -⟩ <;> simp [a]
theorem expr_n {P : Nat → Prop} : ∀ (N : Nat) (f : EF) (t : EL), t.size = N → XC P f t := by
  intro N
  induction N using Nat.strongRecOn with
  | _ N ih =>
    intro f t hN
    have IH : ∀ x ∈ t.toL, XC P x.1 x.2 := fun x hx => ih x.2.size (by rw [← hN]; exact EL.mem_size hx) x.1 x.2 rfl
    intro B X w gB cv gc gv G n gF oF gW ty cs cw S vs ls fb kx rows h hF hW hcl hf hr he hwt hwo hl
    rcases wt_kind' hwo with k | k | k | k | k | k | k
    · exact xc_k0 IH k B X w gB cv gc gv G n gF oF gW ty cs cw S vs ls fb kx rows h hF hW hcl hf hr he hwt hwo hl
    · exact xc_k1 IH k B X w gB cv gc gv G n gF oF gW ty cs cw S vs ls fb kx rows h hF hW hcl hf hr he hwt hwo hl
    · exact xc_k2 IH k B X w gB cv gc gv G n gF oF gW ty cs cw S vs ls fb kx rows h hF hW hcl hf hr he hwt hwo hl
    · exact xc_k3 IH k B X w gB cv gc gv G n gF oF gW ty cs cw S vs ls fb kx rows h hF hW hcl hf hr he hwt hwo hl
    · exact xc_k4 IH k B X w gB cv gc gv G n gF oF gW ty cs cw S vs ls fb kx rows h hF hW hcl hf hr he hwt hwo hl
    · exact xc_k5 IH k B X w gB cv gc gv G n gF oF gW ty cs cw S vs ls fb kx rows h hF hW hcl hf hr he hwt hwo hl
    · exact xc_k6 IH k B X w gB cv gc gv G n gF oF gW ty cs cw S vs ls fb kx rows h hF hW hcl hf hr he hwt hwo hl
theorem expr_b {P : Nat → Prop} (f : EF) (t : EL) : XC P f t := expr_n t.size f t rfl
end Go.Proofs.Qxb6500772a
