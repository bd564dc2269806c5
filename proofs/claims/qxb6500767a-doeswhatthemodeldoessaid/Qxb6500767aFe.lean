/- unionvfs: the world of the layer; Mkdir, Unlink, Rmdir, Rename, Link, Symlink. -/
import Derived.Test.Qxb6500767aFd
import Derived.Test.Qxb6500767aTr
import Derived.Test.Qxb6500767aTs
namespace Go.Proofs.Qxb6500767a
open Go.RowKit Go.Qm
set_option linter.unusedVariables false
set_option linter.unusedSimpArgs false
attribute [local go_sem ↓] Go.wp_at_zero Go.wp_at_succ
/-- The tree and the table of handles. -/
structure VW (B : Nat) (fp : Nat → Prop) (w : World) (gf gt u : Nat) (hs : List Hd) (T : List Nd) : Prop where
  tree : TreeW B fp w gt T
  fs : FSW w gf gt u hs
  nfp : ¬ fp gf
  lo : B ≤ gf
def fpV (fp : Nat → Prop) (gf : Nat) (q : Nat) : Prop := fp q ∨ q = gf
theorem VW.keep {B gf gt u : Nat} {fp : Nat → Prop} {w w' : World} {hs : List Hd} {T : List Nd} (h : VW B fp w gf gt u hs T) (k : Keep w w') : VW B fp w' gf gt u hs T := ⟨h.tree.keep k, h.fs.keep k, h.nfp, h.lo⟩
/-- The tree has made a step. -/
theorem VW.step {B gf gt u : Nat} {fp fp' : Nat → Prop} {w w' : World} {hs : List Hd} {T T' : List Nd} (h : VW B fp w gf gt u hs T) (t : TreeW B fp' w' gt T') (s : Stp fp fp' w w') : VW B fp' w' gf gt u hs T' ∧ Stp (fpV fp gf) (fpV fp' gf) w w' := by
  have hlt := h.fs.arr.lt
  refine ⟨⟨t, ⟨s.1.arr h.nfp h.fs.arr, h.fs.len, h.fs.lt⟩, fun a => ?_, h.lo⟩, s.1.mono (fun q _ a => Or.inl a), fun q a => ?_⟩
  · rcases s.2 gf a with b | b
    · exact h.nfp b
    · omega
  · rcases a with a | a
    · rcases s.2 q a with b | b
      · exact Or.inl (Or.inl b)
      · exact Or.inr b
    · exact Or.inl (Or.inr a)
/-- The table of handles is written. -/
theorem VW.hset {B gf gt u : Nat} {fp : Nat → Prop} {w w' : World} {hs : List Hd} {T : List Nd} (h : VW B fp w gf gt u hs T) {u' : Nat} {hs' : List Hd} (f : FSW w' gf gt u' hs') (k : Fr (fun q => q = gf) w w') : VW B fp w' gf gt u' hs' T ∧ Stp (fpV fp gf) (fpV fp gf) w w' :=
  ⟨⟨h.tree.fr k (fun q hq e => h.nfp (by rw [← e]; exact hq)), f, h.nfp, h.lo⟩, k.mono (fun q _ a => Or.inr a), fun q a => Or.inl a⟩
def RetV (B : Nat) (fp : Nat → Prop) (w : World) (gf gt u' : Nat) (hs' : List Hd) (T' : List Nd) (r e : Ending) (w' : World) : Prop := ∃ fp', e = r ∧ VW B fp' w' gf gt u' hs' T' ∧ Stp (fpV fp gf) (fpV fp' gf) w w'
theorem RetV.of {B gf gt u : Nat} {fp : Nat → Prop} {w w' : World} {hs : List Hd} {T : List Nd} (h : VW B fp w gf gt u hs T) (k : Keep w w') (r : Ending) : RetV B fp w gf gt u hs T r r w' := ⟨fp, rfl, h.keep k, Stp.keep k⟩
set_option maxRecDepth 3000 in
theorem vUnlink_c (B gf gt u : Nat) (path : List UInt8) (fp : Nat → Prop) (hs : List Hd) (T : List Nd) (w : World) (h : VW B fp w gf gt u hs T) (lim : TLim T) (hl : path.length ≤ 100000) :
    Calls Try.prog 45 #[.pointer (some ⟨gf, 0, none⟩), str path] w fun e w' => RetV B fp w gf gt u hs (unlT T path).1 (.returned (.int .i64 (unlT T path).2)) e w' := by
  obtain ⟨c0, -⟩ := h.fs.head
  have HH := Hid.mk h
  have CC := unlink_c B gt path fp T w h.tree lim hl
  generalize unlT T path = R at *
  obtain ⟨T', er⟩ := R
  simp only at CC ⊢
  clear h
  go_enter Try.func45, Try.ntmps45
  go_wp2_with fail
  refine CC.mono ?_
  rintro e w1 ⟨fp1, rfl, t1, s1⟩
  obtain ⟨v1, s2⟩ := HH.out.step t1 s1
  go_wp2_with fail
  go_ret
  exact ⟨fp1, rfl, v1, s2⟩
set_option maxRecDepth 3000 in
theorem vRmdir_c (B gf gt u : Nat) (path : List UInt8) (fp : Nat → Prop) (hs : List Hd) (T : List Nd) (w : World) (h : VW B fp w gf gt u hs T) (lim : TLim T) (hl : path.length ≤ 100000) :
    Calls Try.prog 46 #[.pointer (some ⟨gf, 0, none⟩), str path] w fun e w' => RetV B fp w gf gt u hs (rmdT T path).1 (.returned (.int .i64 (rmdT T path).2)) e w' := by
  obtain ⟨c0, -⟩ := h.fs.head
  have HH := Hid.mk h
  have CC := rmdir_c B gt path fp T w h.tree lim hl
  generalize rmdT T path = R at *
  obtain ⟨T', er⟩ := R
  simp only at CC ⊢
  clear h
  go_enter Try.func46, Try.ntmps46
  go_wp2_with fail
  refine CC.mono ?_
  rintro e w1 ⟨fp1, rfl, t1, s1⟩
  obtain ⟨v1, s2⟩ := HH.out.step t1 s1
  go_wp2_with fail
  go_ret
  exact ⟨fp1, rfl, v1, s2⟩
set_option maxRecDepth 3000 in
theorem vRename_c (B gf gt u : Nat) (f : Nat) (old path : List UInt8) (fp : Nat → Prop) (hs : List Hd) (T : List Nd) (w : World) (h : VW B fp w gf gt u hs T) (lim : TLim T) (hup : ∀ d, d < T.length → upZ T f d) (ho : old.length ≤ 100000) (hl : path.length ≤ 100000) :
    Calls Try.prog 47 #[.pointer (some ⟨gf, 0, none⟩), str old, str path] w fun e w' => RetV B fp w gf gt u hs (renF T f old path).1 (.returned (.int .i64 (renF T f old path).2)) e w' := by
  obtain ⟨c0, -⟩ := h.fs.head
  have HH := Hid.mk h
  have CC := rename_c B gt f old path fp T w h.tree lim hup ho hl
  generalize renF T f old path = R at *
  obtain ⟨T', er⟩ := R
  simp only at CC ⊢
  clear h
  go_enter Try.func47, Try.ntmps47
  go_wp2_with fail
  refine CC.mono ?_
  rintro e w1 ⟨fp1, rfl, t1, s1⟩
  obtain ⟨v1, s2⟩ := HH.out.step t1 s1
  go_wp2_with fail
  go_ret
  exact ⟨fp1, rfl, v1, s2⟩
set_option maxRecDepth 3000 in
theorem vLink_c (B gf gt u : Nat) (old path : List UInt8) (fp : Nat → Prop) (hs : List Hd) (T : List Nd) (w : World) (h : VW B fp w gf gt u hs T) (lim : TLim T) (ho : old.length ≤ 100000) (hl : path.length ≤ 100000) :
    Calls Try.prog 48 #[.pointer (some ⟨gf, 0, none⟩), str old, str path] w fun e w' => RetV B fp w gf gt u hs (linkT T old path).1 (.returned (.int .i64 (linkT T old path).2)) e w' := by
  obtain ⟨c0, -⟩ := h.fs.head
  have HH := Hid.mk h
  have CC := link_c B gt old path fp T w h.tree lim ho hl
  generalize linkT T old path = R at *
  obtain ⟨T', er⟩ := R
  simp only at CC ⊢
  clear h
  go_enter Try.func48, Try.ntmps48
  go_wp2_with fail
  refine CC.mono ?_
  rintro e w1 ⟨fp1, rfl, t1, s1⟩
  obtain ⟨v1, s2⟩ := HH.out.step t1 s1
  go_wp2_with fail
  go_ret
  exact ⟨fp1, rfl, v1, s2⟩
set_option maxRecDepth 3000 in
theorem vSymlink_c (B gf gt u : Nat) (target path : List UInt8) (fp : Nat → Prop) (hs : List Hd) (T : List Nd) (w : World) (h : VW B fp w gf gt u hs T) (lim : TLim T) (hU : usedB T ≤ 1000000) (ht : target.length ≤ 100000) (hl : path.length ≤ 100000) :
    Calls Try.prog 49 #[.pointer (some ⟨gf, 0, none⟩), str target, str path] w fun e w' => RetV B fp w gf gt u hs (symT T target path).1 (.returned (.int .i64 (symT T target path).2)) e w' := by
  obtain ⟨c0, -⟩ := h.fs.head
  have HH := Hid.mk h
  have CC := symlink_c B gt target path fp T w h.tree lim hU hl ht
  generalize symT T target path = R at *
  obtain ⟨T', er⟩ := R
  simp only at CC ⊢
  clear h
  go_enter Try.func49, Try.ntmps49
  go_wp2_with fail
  refine CC.mono ?_
  rintro e w1 ⟨fp1, rfl, t1, s1⟩
  obtain ⟨v1, s2⟩ := HH.out.step t1 s1
  go_wp2_with fail
  go_ret
  exact ⟨fp1, rfl, v1, s2⟩
def mkdT (T : List Nd) (path : List UInt8) (mode : Int) : List Nd × Int := if vmB mode = true then ((makeT T path 2 mode []).1, (makeT T path 2 mode []).2.2) else (T, 2)
set_option maxRecDepth 3000 in
theorem vMkdir_c (B gf gt u : Nat) (path : List UInt8) (mode : Int) (fp : Nat → Prop) (hs : List Hd) (T : List Nd) (w : World) (h : VW B fp w gf gt u hs T) (lim : TLim T) (hU : usedB T ≤ 1000000) (hl : path.length ≤ 100000) :
    Calls Try.prog 44 #[.pointer (some ⟨gf, 0, none⟩), str path, .int .i64 mode] w fun e w' => RetV B fp w gf gt u hs (mkdT T path mode).1 (.returned (.int .i64 (mkdT T path mode).2)) e w' := by
  obtain ⟨c0, -⟩ := h.fs.head
  have HH := Hid.mk h
  have VM := fun W => validMode_c mode W
  have CC := mkdir_c B gt mode path fp T w h.tree lim hU hl
  cases hv : vmB mode with
  | true =>
    have HR : Hid (mkdT T path mode = ((makeT T path 2 mode []).1, (makeT T path 2 mode []).2.2)) := Hid.mk (by unfold mkdT; rw [if_pos hv])
    rw [hv] at VM
    generalize mkdT T path mode = R at *
    generalize makeT T path 2 mode [] = M at *
    obtain ⟨T', n, er⟩ := M
    simp only at CC HR
    clear h hv
    go_enter Try.func44, Try.ntmps44
    go_wp2_with fail
    refine (VM _).mono ?_
    rintro e w0 ⟨rfl, rfl⟩
    go_wp2_with fail
    refine CC.mono ?_
    rintro e w1 ⟨fp1, rfl, t1, s1⟩
    obtain ⟨v1, s2⟩ := HH.out.step t1 s1
    go_wp2_with fail
    go_ret
    rw [HR.out]
    exact ⟨fp1, rfl, v1, s2⟩
  | false =>
    have HR : Hid (mkdT T path mode = (T, 2)) := Hid.mk (by unfold mkdT; rw [if_neg (by rw [hv]; decide)])
    rw [hv] at VM
    generalize mkdT T path mode = R at *
    clear h hv CC
    go_enter Try.func44, Try.ntmps44
    go_wp2_with fail
    refine (VM _).mono ?_
    rintro e w0 ⟨rfl, rfl⟩
    go_wp2_with fail
    go_ret
    rw [HR.out]
    exact RetV.of HH.out (Keep.refl _) _
end Go.Proofs.Qxb6500767a
