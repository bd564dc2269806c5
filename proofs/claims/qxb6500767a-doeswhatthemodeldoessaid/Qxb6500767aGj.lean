/- unionvfslaw: play. -/
import Derived.Test.Qxb6500767aGa
import Derived.Test.Qxb6500767aGb
import Derived.Test.Qxb6500767aGc
import Derived.Test.Qxb6500767aGd
import Derived.Test.Qxb6500767aGe
import Derived.Test.Qxb6500767aGf
import Derived.Test.Qxb6500767aGg
import Derived.Test.Qxb6500767aGh
import Derived.Test.Qxb6500767aGi
namespace Go.Proofs.Qxb6500767a
open Go.RowKit Go.Qm
set_option linter.unusedVariables false
def opA (s : Stt) (o : OpV) : AnsV := if (opF s.u s.hs s.T o.path o.flags o.mode).2.2.2.2 = 0 then ⟨0, (opF s.u s.hs s.T o.path o.flags o.mode).2.2.2.1, [], sta0, []⟩ else ⟨(opF s.u s.hs s.T o.path o.flags o.mode).2.2.2.2, 0, [], sta0, []⟩
/-- What a step answers, and leaves. -/
noncomputable def playF (s : Stt) (o : OpV) : AnsV × Stt :=
  if o.kind = 1 then (opA s o, ⟨(opF s.u s.hs s.T o.path o.flags o.mode).1, (opF s.u s.hs s.T o.path o.flags o.mode).2.1, (opF s.u s.hs s.T o.path o.flags o.mode).2.2.1⟩)
  else if o.kind = 2 then (⟨(clsF s.u s.hs s.T o.h).2.2.2, 0, [], sta0, []⟩, ⟨(clsF s.u s.hs s.T o.h).1, (clsF s.u s.hs s.T o.h).2.1, (clsF s.u s.hs s.T o.h).2.2.1⟩)
  else if o.kind = 3 then (⟨(rdF s.u s.hs s.T o.h o.n).2.2, ((rdF s.u s.hs s.T o.h o.n).2.1.length : Nat), (rdF s.u s.hs s.T o.h o.n).2.1, sta0, []⟩, ⟨s.u, (rdF s.u s.hs s.T o.h o.n).1, s.T⟩)
  else if o.kind = 4 then (⟨(rdaF s.u s.hs s.T o.h o.off o.n).2, ((rdaF s.u s.hs s.T o.h o.off o.n).1.length : Nat), (rdaF s.u s.hs s.T o.h o.off o.n).1, sta0, []⟩, s)
  else if o.kind = 5 then (⟨(wrF s.u s.hs s.T o.h o.data).2.2.2, (wrF s.u s.hs s.T o.h o.data).2.2.1, [], sta0, []⟩, ⟨s.u, (wrF s.u s.hs s.T o.h o.data).1, (wrF s.u s.hs s.T o.h o.data).2.1⟩)
  else if o.kind = 6 then (⟨(skF s.u s.hs s.T o.h o.off o.wh).2.2, (skF s.u s.hs s.T o.h o.off o.wh).2.1, [], sta0, []⟩, ⟨s.u, (skF s.u s.hs s.T o.h o.off o.wh).1, s.T⟩)
  else if o.kind = 7 then (⟨(ftrT s.u s.hs s.T o.h o.off).2, 0, [], sta0, []⟩, ⟨s.u, s.hs, (ftrT s.u s.hs s.T o.h o.off).1⟩)
  else if o.kind = 8 then (⟨(fstF s.u s.hs s.T o.h).2, 0, [], (fstF s.u s.hs s.T o.h).1, []⟩, s)
  else if o.kind = 9 then (⟨(fchT s.u s.hs s.T o.h o.mode).2, 0, [], sta0, []⟩, ⟨s.u, s.hs, (fchT s.u s.hs s.T o.h o.mode).1⟩)
  else if o.kind = 10 then (⟨(rddF s.u s.hs s.T o.h o.n).2.2, ((rddF s.u s.hs s.T o.h o.n).2.1.length : Nat), [], sta0, (rddF s.u s.hs s.T o.h o.n).2.1⟩, ⟨s.u, (rddF s.u s.hs s.T o.h o.n).1, s.T⟩)
  else if o.kind = 11 then (⟨(stpF s.T o.path true).2, 0, [], (stpF s.T o.path true).1, []⟩, s)
  else if o.kind = 12 then (⟨(stpF s.T o.path false).2, 0, [], (stpF s.T o.path false).1, []⟩, s)
  else if o.kind = 13 then (⟨(chpT s.T o.path o.mode).2, 0, [], sta0, []⟩, ⟨s.u, s.hs, (chpT s.T o.path o.mode).1⟩)
  else if o.kind = 14 then (⟨(trpT s.T o.path o.off).2, 0, [], sta0, []⟩, ⟨s.u, s.hs, (trpT s.T o.path o.off).1⟩)
  else if o.kind = 15 then (⟨(rlkF s.T o.path).2, 0, (rlkF s.T o.path).1, sta0, []⟩, s)
  else if o.kind = 16 then (⟨(mkdT s.T o.path o.mode).2, 0, [], sta0, []⟩, ⟨s.u, s.hs, (mkdT s.T o.path o.mode).1⟩)
  else if o.kind = 17 then (⟨(unlT s.T o.path).2, 0, [], sta0, []⟩, ⟨s.u, s.hs, (unlT s.T o.path).1⟩)
  else if o.kind = 18 then (⟨(rmdT s.T o.path).2, 0, [], sta0, []⟩, ⟨s.u, s.hs, (rmdT s.T o.path).1⟩)
  else if o.kind = 19 then (⟨(renF s.T (fuel s.T) o.path o.path2).2, 0, [], sta0, []⟩, ⟨s.u, s.hs, (renF s.T (fuel s.T) o.path o.path2).1⟩)
  else if o.kind = 20 then (⟨(linkT s.T o.path o.path2).2, 0, [], sta0, []⟩, ⟨s.u, s.hs, (linkT s.T o.path o.path2).1⟩)
  else if o.kind = 21 then (⟨(symT s.T o.path o.path2).2, 0, [], sta0, []⟩, ⟨s.u, s.hs, (symT s.T o.path o.path2).1⟩)
  else (⟨2, 0, [], sta0, []⟩, s)
theorem playF1 {s : Stt} {o : OpV} (h : o.kind = 1) : playF s o = (opA s o, ⟨(opF s.u s.hs s.T o.path o.flags o.mode).1, (opF s.u s.hs s.T o.path o.flags o.mode).2.1, (opF s.u s.hs s.T o.path o.flags o.mode).2.2.1⟩) := by unfold playF; rw [if_pos h]
theorem playF2 {s : Stt} {o : OpV} (h : o.kind = 2) : playF s o = (⟨(clsF s.u s.hs s.T o.h).2.2.2, 0, [], sta0, []⟩, ⟨(clsF s.u s.hs s.T o.h).1, (clsF s.u s.hs s.T o.h).2.1, (clsF s.u s.hs s.T o.h).2.2.1⟩) := by unfold playF; rw [if_neg (show ¬ o.kind = 1 by omega), if_pos h]
theorem playF3 {s : Stt} {o : OpV} (h : o.kind = 3) : playF s o = (⟨(rdF s.u s.hs s.T o.h o.n).2.2, ((rdF s.u s.hs s.T o.h o.n).2.1.length : Nat), (rdF s.u s.hs s.T o.h o.n).2.1, sta0, []⟩, ⟨s.u, (rdF s.u s.hs s.T o.h o.n).1, s.T⟩) := by unfold playF; rw [if_neg (show ¬ o.kind = 1 by omega), if_neg (show ¬ o.kind = 2 by omega), if_pos h]
theorem playF4 {s : Stt} {o : OpV} (h : o.kind = 4) : playF s o = (⟨(rdaF s.u s.hs s.T o.h o.off o.n).2, ((rdaF s.u s.hs s.T o.h o.off o.n).1.length : Nat), (rdaF s.u s.hs s.T o.h o.off o.n).1, sta0, []⟩, s) := by unfold playF; rw [if_neg (show ¬ o.kind = 1 by omega), if_neg (show ¬ o.kind = 2 by omega), if_neg (show ¬ o.kind = 3 by omega), if_pos h]
theorem playF5 {s : Stt} {o : OpV} (h : o.kind = 5) : playF s o = (⟨(wrF s.u s.hs s.T o.h o.data).2.2.2, (wrF s.u s.hs s.T o.h o.data).2.2.1, [], sta0, []⟩, ⟨s.u, (wrF s.u s.hs s.T o.h o.data).1, (wrF s.u s.hs s.T o.h o.data).2.1⟩) := by unfold playF; rw [if_neg (show ¬ o.kind = 1 by omega), if_neg (show ¬ o.kind = 2 by omega), if_neg (show ¬ o.kind = 3 by omega), if_neg (show ¬ o.kind = 4 by omega), if_pos h]
theorem playF6 {s : Stt} {o : OpV} (h : o.kind = 6) : playF s o = (⟨(skF s.u s.hs s.T o.h o.off o.wh).2.2, (skF s.u s.hs s.T o.h o.off o.wh).2.1, [], sta0, []⟩, ⟨s.u, (skF s.u s.hs s.T o.h o.off o.wh).1, s.T⟩) := by unfold playF; rw [if_neg (show ¬ o.kind = 1 by omega), if_neg (show ¬ o.kind = 2 by omega), if_neg (show ¬ o.kind = 3 by omega), if_neg (show ¬ o.kind = 4 by omega), if_neg (show ¬ o.kind = 5 by omega), if_pos h]
theorem playF7 {s : Stt} {o : OpV} (h : o.kind = 7) : playF s o = (⟨(ftrT s.u s.hs s.T o.h o.off).2, 0, [], sta0, []⟩, ⟨s.u, s.hs, (ftrT s.u s.hs s.T o.h o.off).1⟩) := by unfold playF; rw [if_neg (show ¬ o.kind = 1 by omega), if_neg (show ¬ o.kind = 2 by omega), if_neg (show ¬ o.kind = 3 by omega), if_neg (show ¬ o.kind = 4 by omega), if_neg (show ¬ o.kind = 5 by omega), if_neg (show ¬ o.kind = 6 by omega), if_pos h]
theorem playF8 {s : Stt} {o : OpV} (h : o.kind = 8) : playF s o = (⟨(fstF s.u s.hs s.T o.h).2, 0, [], (fstF s.u s.hs s.T o.h).1, []⟩, s) := by unfold playF; rw [if_neg (show ¬ o.kind = 1 by omega), if_neg (show ¬ o.kind = 2 by omega), if_neg (show ¬ o.kind = 3 by omega), if_neg (show ¬ o.kind = 4 by omega), if_neg (show ¬ o.kind = 5 by omega), if_neg (show ¬ o.kind = 6 by omega), if_neg (show ¬ o.kind = 7 by omega), if_pos h]
theorem playF9 {s : Stt} {o : OpV} (h : o.kind = 9) : playF s o = (⟨(fchT s.u s.hs s.T o.h o.mode).2, 0, [], sta0, []⟩, ⟨s.u, s.hs, (fchT s.u s.hs s.T o.h o.mode).1⟩) := by unfold playF; rw [if_neg (show ¬ o.kind = 1 by omega), if_neg (show ¬ o.kind = 2 by omega), if_neg (show ¬ o.kind = 3 by omega), if_neg (show ¬ o.kind = 4 by omega), if_neg (show ¬ o.kind = 5 by omega), if_neg (show ¬ o.kind = 6 by omega), if_neg (show ¬ o.kind = 7 by omega), if_neg (show ¬ o.kind = 8 by omega), if_pos h]
theorem playF10 {s : Stt} {o : OpV} (h : o.kind = 10) : playF s o = (⟨(rddF s.u s.hs s.T o.h o.n).2.2, ((rddF s.u s.hs s.T o.h o.n).2.1.length : Nat), [], sta0, (rddF s.u s.hs s.T o.h o.n).2.1⟩, ⟨s.u, (rddF s.u s.hs s.T o.h o.n).1, s.T⟩) := by unfold playF; rw [if_neg (show ¬ o.kind = 1 by omega), if_neg (show ¬ o.kind = 2 by omega), if_neg (show ¬ o.kind = 3 by omega), if_neg (show ¬ o.kind = 4 by omega), if_neg (show ¬ o.kind = 5 by omega), if_neg (show ¬ o.kind = 6 by omega), if_neg (show ¬ o.kind = 7 by omega), if_neg (show ¬ o.kind = 8 by omega), if_neg (show ¬ o.kind = 9 by omega), if_pos h]
theorem playF11 {s : Stt} {o : OpV} (h : o.kind = 11) : playF s o = (⟨(stpF s.T o.path true).2, 0, [], (stpF s.T o.path true).1, []⟩, s) := by unfold playF; rw [if_neg (show ¬ o.kind = 1 by omega), if_neg (show ¬ o.kind = 2 by omega), if_neg (show ¬ o.kind = 3 by omega), if_neg (show ¬ o.kind = 4 by omega), if_neg (show ¬ o.kind = 5 by omega), if_neg (show ¬ o.kind = 6 by omega), if_neg (show ¬ o.kind = 7 by omega), if_neg (show ¬ o.kind = 8 by omega), if_neg (show ¬ o.kind = 9 by omega), if_neg (show ¬ o.kind = 10 by omega), if_pos h]
theorem playF12 {s : Stt} {o : OpV} (h : o.kind = 12) : playF s o = (⟨(stpF s.T o.path false).2, 0, [], (stpF s.T o.path false).1, []⟩, s) := by unfold playF; rw [if_neg (show ¬ o.kind = 1 by omega), if_neg (show ¬ o.kind = 2 by omega), if_neg (show ¬ o.kind = 3 by omega), if_neg (show ¬ o.kind = 4 by omega), if_neg (show ¬ o.kind = 5 by omega), if_neg (show ¬ o.kind = 6 by omega), if_neg (show ¬ o.kind = 7 by omega), if_neg (show ¬ o.kind = 8 by omega), if_neg (show ¬ o.kind = 9 by omega), if_neg (show ¬ o.kind = 10 by omega), if_neg (show ¬ o.kind = 11 by omega), if_pos h]
theorem playF13 {s : Stt} {o : OpV} (h : o.kind = 13) : playF s o = (⟨(chpT s.T o.path o.mode).2, 0, [], sta0, []⟩, ⟨s.u, s.hs, (chpT s.T o.path o.mode).1⟩) := by unfold playF; rw [if_neg (show ¬ o.kind = 1 by omega), if_neg (show ¬ o.kind = 2 by omega), if_neg (show ¬ o.kind = 3 by omega), if_neg (show ¬ o.kind = 4 by omega), if_neg (show ¬ o.kind = 5 by omega), if_neg (show ¬ o.kind = 6 by omega), if_neg (show ¬ o.kind = 7 by omega), if_neg (show ¬ o.kind = 8 by omega), if_neg (show ¬ o.kind = 9 by omega), if_neg (show ¬ o.kind = 10 by omega), if_neg (show ¬ o.kind = 11 by omega), if_neg (show ¬ o.kind = 12 by omega), if_pos h]
theorem playF14 {s : Stt} {o : OpV} (h : o.kind = 14) : playF s o = (⟨(trpT s.T o.path o.off).2, 0, [], sta0, []⟩, ⟨s.u, s.hs, (trpT s.T o.path o.off).1⟩) := by unfold playF; rw [if_neg (show ¬ o.kind = 1 by omega), if_neg (show ¬ o.kind = 2 by omega), if_neg (show ¬ o.kind = 3 by omega), if_neg (show ¬ o.kind = 4 by omega), if_neg (show ¬ o.kind = 5 by omega), if_neg (show ¬ o.kind = 6 by omega), if_neg (show ¬ o.kind = 7 by omega), if_neg (show ¬ o.kind = 8 by omega), if_neg (show ¬ o.kind = 9 by omega), if_neg (show ¬ o.kind = 10 by omega), if_neg (show ¬ o.kind = 11 by omega), if_neg (show ¬ o.kind = 12 by omega), if_neg (show ¬ o.kind = 13 by omega), if_pos h]
theorem playF15 {s : Stt} {o : OpV} (h : o.kind = 15) : playF s o = (⟨(rlkF s.T o.path).2, 0, (rlkF s.T o.path).1, sta0, []⟩, s) := by unfold playF; rw [if_neg (show ¬ o.kind = 1 by omega), if_neg (show ¬ o.kind = 2 by omega), if_neg (show ¬ o.kind = 3 by omega), if_neg (show ¬ o.kind = 4 by omega), if_neg (show ¬ o.kind = 5 by omega), if_neg (show ¬ o.kind = 6 by omega), if_neg (show ¬ o.kind = 7 by omega), if_neg (show ¬ o.kind = 8 by omega), if_neg (show ¬ o.kind = 9 by omega), if_neg (show ¬ o.kind = 10 by omega), if_neg (show ¬ o.kind = 11 by omega), if_neg (show ¬ o.kind = 12 by omega), if_neg (show ¬ o.kind = 13 by omega), if_neg (show ¬ o.kind = 14 by omega), if_pos h]
theorem playF16 {s : Stt} {o : OpV} (h : o.kind = 16) : playF s o = (⟨(mkdT s.T o.path o.mode).2, 0, [], sta0, []⟩, ⟨s.u, s.hs, (mkdT s.T o.path o.mode).1⟩) := by unfold playF; rw [if_neg (show ¬ o.kind = 1 by omega), if_neg (show ¬ o.kind = 2 by omega), if_neg (show ¬ o.kind = 3 by omega), if_neg (show ¬ o.kind = 4 by omega), if_neg (show ¬ o.kind = 5 by omega), if_neg (show ¬ o.kind = 6 by omega), if_neg (show ¬ o.kind = 7 by omega), if_neg (show ¬ o.kind = 8 by omega), if_neg (show ¬ o.kind = 9 by omega), if_neg (show ¬ o.kind = 10 by omega), if_neg (show ¬ o.kind = 11 by omega), if_neg (show ¬ o.kind = 12 by omega), if_neg (show ¬ o.kind = 13 by omega), if_neg (show ¬ o.kind = 14 by omega), if_neg (show ¬ o.kind = 15 by omega), if_pos h]
theorem playF17 {s : Stt} {o : OpV} (h : o.kind = 17) : playF s o = (⟨(unlT s.T o.path).2, 0, [], sta0, []⟩, ⟨s.u, s.hs, (unlT s.T o.path).1⟩) := by unfold playF; rw [if_neg (show ¬ o.kind = 1 by omega), if_neg (show ¬ o.kind = 2 by omega), if_neg (show ¬ o.kind = 3 by omega), if_neg (show ¬ o.kind = 4 by omega), if_neg (show ¬ o.kind = 5 by omega), if_neg (show ¬ o.kind = 6 by omega), if_neg (show ¬ o.kind = 7 by omega), if_neg (show ¬ o.kind = 8 by omega), if_neg (show ¬ o.kind = 9 by omega), if_neg (show ¬ o.kind = 10 by omega), if_neg (show ¬ o.kind = 11 by omega), if_neg (show ¬ o.kind = 12 by omega), if_neg (show ¬ o.kind = 13 by omega), if_neg (show ¬ o.kind = 14 by omega), if_neg (show ¬ o.kind = 15 by omega), if_neg (show ¬ o.kind = 16 by omega), if_pos h]
theorem playF18 {s : Stt} {o : OpV} (h : o.kind = 18) : playF s o = (⟨(rmdT s.T o.path).2, 0, [], sta0, []⟩, ⟨s.u, s.hs, (rmdT s.T o.path).1⟩) := by unfold playF; rw [if_neg (show ¬ o.kind = 1 by omega), if_neg (show ¬ o.kind = 2 by omega), if_neg (show ¬ o.kind = 3 by omega), if_neg (show ¬ o.kind = 4 by omega), if_neg (show ¬ o.kind = 5 by omega), if_neg (show ¬ o.kind = 6 by omega), if_neg (show ¬ o.kind = 7 by omega), if_neg (show ¬ o.kind = 8 by omega), if_neg (show ¬ o.kind = 9 by omega), if_neg (show ¬ o.kind = 10 by omega), if_neg (show ¬ o.kind = 11 by omega), if_neg (show ¬ o.kind = 12 by omega), if_neg (show ¬ o.kind = 13 by omega), if_neg (show ¬ o.kind = 14 by omega), if_neg (show ¬ o.kind = 15 by omega), if_neg (show ¬ o.kind = 16 by omega), if_neg (show ¬ o.kind = 17 by omega), if_pos h]
theorem playF19 {s : Stt} {o : OpV} (h : o.kind = 19) : playF s o = (⟨(renF s.T (fuel s.T) o.path o.path2).2, 0, [], sta0, []⟩, ⟨s.u, s.hs, (renF s.T (fuel s.T) o.path o.path2).1⟩) := by unfold playF; rw [if_neg (show ¬ o.kind = 1 by omega), if_neg (show ¬ o.kind = 2 by omega), if_neg (show ¬ o.kind = 3 by omega), if_neg (show ¬ o.kind = 4 by omega), if_neg (show ¬ o.kind = 5 by omega), if_neg (show ¬ o.kind = 6 by omega), if_neg (show ¬ o.kind = 7 by omega), if_neg (show ¬ o.kind = 8 by omega), if_neg (show ¬ o.kind = 9 by omega), if_neg (show ¬ o.kind = 10 by omega), if_neg (show ¬ o.kind = 11 by omega), if_neg (show ¬ o.kind = 12 by omega), if_neg (show ¬ o.kind = 13 by omega), if_neg (show ¬ o.kind = 14 by omega), if_neg (show ¬ o.kind = 15 by omega), if_neg (show ¬ o.kind = 16 by omega), if_neg (show ¬ o.kind = 17 by omega), if_neg (show ¬ o.kind = 18 by omega), if_pos h]
theorem playF20 {s : Stt} {o : OpV} (h : o.kind = 20) : playF s o = (⟨(linkT s.T o.path o.path2).2, 0, [], sta0, []⟩, ⟨s.u, s.hs, (linkT s.T o.path o.path2).1⟩) := by unfold playF; rw [if_neg (show ¬ o.kind = 1 by omega), if_neg (show ¬ o.kind = 2 by omega), if_neg (show ¬ o.kind = 3 by omega), if_neg (show ¬ o.kind = 4 by omega), if_neg (show ¬ o.kind = 5 by omega), if_neg (show ¬ o.kind = 6 by omega), if_neg (show ¬ o.kind = 7 by omega), if_neg (show ¬ o.kind = 8 by omega), if_neg (show ¬ o.kind = 9 by omega), if_neg (show ¬ o.kind = 10 by omega), if_neg (show ¬ o.kind = 11 by omega), if_neg (show ¬ o.kind = 12 by omega), if_neg (show ¬ o.kind = 13 by omega), if_neg (show ¬ o.kind = 14 by omega), if_neg (show ¬ o.kind = 15 by omega), if_neg (show ¬ o.kind = 16 by omega), if_neg (show ¬ o.kind = 17 by omega), if_neg (show ¬ o.kind = 18 by omega), if_neg (show ¬ o.kind = 19 by omega), if_pos h]
theorem playF21 {s : Stt} {o : OpV} (h : o.kind = 21) : playF s o = (⟨(symT s.T o.path o.path2).2, 0, [], sta0, []⟩, ⟨s.u, s.hs, (symT s.T o.path o.path2).1⟩) := by unfold playF; rw [if_neg (show ¬ o.kind = 1 by omega), if_neg (show ¬ o.kind = 2 by omega), if_neg (show ¬ o.kind = 3 by omega), if_neg (show ¬ o.kind = 4 by omega), if_neg (show ¬ o.kind = 5 by omega), if_neg (show ¬ o.kind = 6 by omega), if_neg (show ¬ o.kind = 7 by omega), if_neg (show ¬ o.kind = 8 by omega), if_neg (show ¬ o.kind = 9 by omega), if_neg (show ¬ o.kind = 10 by omega), if_neg (show ¬ o.kind = 11 by omega), if_neg (show ¬ o.kind = 12 by omega), if_neg (show ¬ o.kind = 13 by omega), if_neg (show ¬ o.kind = 14 by omega), if_neg (show ¬ o.kind = 15 by omega), if_neg (show ¬ o.kind = 16 by omega), if_neg (show ¬ o.kind = 17 by omega), if_neg (show ¬ o.kind = 18 by omega), if_neg (show ¬ o.kind = 19 by omega), if_neg (show ¬ o.kind = 20 by omega), if_pos h]
theorem playF0 {s : Stt} {o : OpV} (h : o.kind < 1 ∨ 21 < o.kind) : playF s o = (⟨2, 0, [], sta0, []⟩, s) := by unfold playF; rw [if_neg (show ¬ o.kind = 1 by omega), if_neg (show ¬ o.kind = 2 by omega), if_neg (show ¬ o.kind = 3 by omega), if_neg (show ¬ o.kind = 4 by omega), if_neg (show ¬ o.kind = 5 by omega), if_neg (show ¬ o.kind = 6 by omega), if_neg (show ¬ o.kind = 7 by omega), if_neg (show ¬ o.kind = 8 by omega), if_neg (show ¬ o.kind = 9 by omega), if_neg (show ¬ o.kind = 10 by omega), if_neg (show ¬ o.kind = 11 by omega), if_neg (show ¬ o.kind = 12 by omega), if_neg (show ¬ o.kind = 13 by omega), if_neg (show ¬ o.kind = 14 by omega), if_neg (show ¬ o.kind = 15 by omega), if_neg (show ¬ o.kind = 16 by omega), if_neg (show ¬ o.kind = 17 by omega), if_neg (show ¬ o.kind = 18 by omega), if_neg (show ¬ o.kind = 19 by omega), if_neg (show ¬ o.kind = 20 by omega), if_neg (show ¬ o.kind = 21 by omega)]
theorem kinds (x : Int) : (x < 1 ∨ 21 < x) ∨ x = 1 ∨ x = 2 ∨ x = 3 ∨ x = 4 ∨ x = 5 ∨ x = 6 ∨ x = 7 ∨ x = 8 ∨ x = 9 ∨ x = 10 ∨ x = 11 ∨ x = 12 ∨ x = 13 ∨ x = 14 ∨ x = 15 ∨ x = 16 ∨ x = 17 ∨ x = 18 ∨ x = 19 ∨ x = 20 ∨ x = 21 := by omega
theorem play_si {k : Nat} {s : Stt} (si : SI k s.u s.hs s.T) (o : OpV) : SI (k + 1) (playF s o).2.u (playF s o).2.hs (playF s o).2.T := by
  rcases kinds o.kind with h | h | h | h | h | h | h | h | h | h | h | h | h | h | h | h | h | h | h | h | h | h
  · rw [playF0 h]; exact si.more (Nat.le_succ _)
  · rw [playF1 h]; exact op_si si o.path o.flags o.mode
  · rw [playF2 h]; exact (cls_si si o.h).more (Nat.le_succ _)
  · rw [playF3 h]; exact (rd_si si o.h o.n).more (Nat.le_succ _)
  · rw [playF4 h]; exact si.more (Nat.le_succ _)
  · rw [playF5 h]; exact (wrS_si si o.h o.data).more (Nat.le_succ _)
  · rw [playF6 h]; exact (sk_si si o.h o.off o.wh).more (Nat.le_succ _)
  · rw [playF7 h]; exact (ftr_si si o.h o.off).more (Nat.le_succ _)
  · rw [playF8 h]; exact si.more (Nat.le_succ _)
  · rw [playF9 h]; exact (fch_si si o.h o.mode).more (Nat.le_succ _)
  · rw [playF10 h]; exact (rdd_si si o.h o.n).more (Nat.le_succ _)
  · rw [playF11 h]; exact si.more (Nat.le_succ _)
  · rw [playF12 h]; exact si.more (Nat.le_succ _)
  · rw [playF13 h]; exact (chp_si si o.path o.mode).more (Nat.le_succ _)
  · rw [playF14 h]; exact (trp_si si o.path o.off).more (Nat.le_succ _)
  · rw [playF15 h]; exact si.more (Nat.le_succ _)
  · rw [playF16 h]; exact (mkd_si si o.path o.mode).1
  · rw [playF17 h]; exact (unl_si si o.path).1
  · rw [playF18 h]; exact (rmd_si si o.path).1
  · rw [playF19 h]; exact (ren_si si o.path o.path2).1
  · rw [playF20 h]; exact (link_si si o.path o.path2).1
  · rw [playF21 h]; exact (sym_si si o.path o.path2).1
theorem play_c {B gw gf gt k : Nat} {fp : Nat → Prop} {w : World} {s : Stt} (o : OpV) (h : WW B fp w gw gf gt s) (si : SI k s.u s.hs s.T) (hk : k ≤ 70000) (hp : o.path.length ≤ 100000) (hp2 : o.path2.length ≤ 100000) (hdt : o.data.length ≤ 100000) :
    Calls Try.prog 14 #[.pointer (some ⟨gw, 0, none⟩), .agg (opC o).toArray] w fun e w' => PlayP B fp w gw gf gt (playF s o).1 (playF s o).2 e w' := by
  rcases kinds o.kind with hK | hK | hK | hK | hK | hK | hK | hK | hK | hK | hK | hK | hK | hK | hK | hK | hK | hK | hK | hK | hK | hK
  · rw [playF0 hK]; exact play0 o hK h
  · rw [playF1 hK]
    unfold opA
    by_cases he : (opF s.u s.hs s.T o.path o.flags o.mode).2.2.2.2 = 0
    · rw [if_pos he]; exact play1a o hK h si hk hp hp2 hdt he
    · rw [if_neg he]; exact play1b o hK h si hk hp hp2 hdt he
  · rw [playF2 hK]; exact play2 o hK h si hk hp hp2 hdt
  · rw [playF3 hK]; exact play3 o hK h si hk hp hp2 hdt
  · rw [playF4 hK]; exact play4 o hK h si hk hp hp2 hdt
  · rw [playF5 hK]; exact play5 o hK h si hk hp hp2 hdt
  · rw [playF6 hK]; exact play6 o hK h si hk hp hp2 hdt
  · rw [playF7 hK]; exact play7 o hK h si hk hp hp2 hdt
  · rw [playF8 hK]; exact play8 o hK h si hk hp hp2 hdt
  · rw [playF9 hK]; exact play9 o hK h si hk hp hp2 hdt
  · rw [playF10 hK]; exact play10 o hK h si hk hp hp2 hdt
  · rw [playF11 hK]; exact play11 o hK h si hk hp hp2 hdt
  · rw [playF12 hK]; exact play12 o hK h si hk hp hp2 hdt
  · rw [playF13 hK]; exact play13 o hK h si hk hp hp2 hdt
  · rw [playF14 hK]; exact play14 o hK h si hk hp hp2 hdt
  · rw [playF15 hK]; exact play15 o hK h si hk hp hp2 hdt
  · rw [playF16 hK]; exact play16 o hK h si hk hp hp2 hdt
  · rw [playF17 hK]; exact play17 o hK h si hk hp hp2 hdt
  · rw [playF18 hK]; exact play18 o hK h si hk hp hp2 hdt
  · rw [playF19 hK]; exact play19 o hK h si hk hp hp2 hdt
  · rw [playF20 hK]; exact play20 o hK h si hk hp hp2 hdt
  · rw [playF21 hK]; exact play21 o hK h si hk hp hp2 hdt
end Go.Proofs.Qxb6500767a
