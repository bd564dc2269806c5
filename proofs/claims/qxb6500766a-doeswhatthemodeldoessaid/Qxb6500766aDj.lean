/- The cache: NoteAdd, NoteRemove. -/
import Derived.Test.Qxb6500766aDg
import Derived.Deep.RegionWith
namespace Go.Proofs.Qxb6500766a
open Go.RowKit Go.Qm
set_option linter.unusedVariables false
set_option linter.unusedSimpArgs false
attribute [local go_sem ↓] Go.wp_at_zero Go.wp_at_succ
def NoteP (B : Nat) (w : World) (gs gc ck : Nat) (R' : Sys) (G : Nat → Option Tb) (e : Ending) (w' : World) : Prop := e = .returned (.tuple #[]) ∧ ∃ sh' tl' G', CW B w' gs gc ck R' sh' tl' G' ∧ Fr (cf gc G) w w' ∧ ∀ q, cf gc G' q → cf gc G q ∨ w.heap.size ≤ q
section
variable {B : Nat} {w w' : World} {gs gc ck : Nat} {R R' : Sys} {sh : List Shelf} {tl : List Value} {G : Nat → Option Tb}
theorem NoteP.of {sh' : List Shelf} {tl' : List Value} (C : CW B w' gs gc ck R' sh' tl' G) (k : Keep w w') : NoteP B w gs gc ck R' G (.returned (.tuple #[])) w' := ⟨rfl, sh', tl', G, C, Fr.keep k, fun _ a => Or.inl a⟩
theorem NoteP.pre {v : World} {e : Ending} (k : Keep w v) (h : NoteP B v gs gc ck R' G e w') : NoteP B w gs gc ck R' G e w' := by
  obtain ⟨rfl, sh', tl', G', C, fr, hq⟩ := h
  exact ⟨rfl, sh', tl', G', C, (Fr.keep k).trans fr, fun q a => (hq q a).imp id (fun b => Nat.le_trans k.size b)⟩
set_option maxRecDepth 4000 in
set_option maxHeartbeats 2000000 in
theorem noteAdd_c (d l : Nat) (x : RawE) (C : CW B w gs gc ck R sh tl G) (DK : DirOK (R d)) (hl : l < 8) (hh : hasR x.1 (R d l) = false) (hx : x.1.length ≤ 1000000) :
    Calls Try.prog 27 #[.pointer (some ⟨gc, 0, none⟩), .int .i64 d, .int .i64 l, str x.1, .int .i64 x.2] w fun e w' => NoteP B w gs gc ck (addS R d l x) G e w' := by
  obtain ⟨xn, xk⟩ := x
  have ST := seatG_c d w C
  have KC := fun W => key_c xn W hx
  have HKC := Hid.mk KC
  have hh' : hasR xn (R d l) = false := hh
  have HHH := Hid.mk hh'
  clear KC hh hh'
  simp only
  go_enter Try.func27, Try.ntmps27
  go_wp2_with fail
  refine ST.mono ?_
  rintro e w1 ⟨hs, rfl⟩
  rcases hs with ⟨i, t, hi, rfl, hG, hdt⟩ | ⟨rfl, hno⟩
  · have i1 : ¬ (i : Int) < 0 := by omega
    have i2 : (i : Int) < 16 := by omega
    have htd : t.dir = d := by omega
    subst htd
    have HG := Hid.mk hG
    clear hG hdt
    go_wp2_with fail
    refine (HKC.out _).mono ?_
    rintro e w2 ⟨hk, k2⟩
    rcases hk with ⟨hK, rfl⟩ | ⟨k, hK, rfl⟩
    · have HK := Hid.mk hK
      clear hK
      go_wp2_with fail
      refine bodyPost_ret (results_none rfl _ _ _) rfl ?_
      exact NoteP.of ((C.keep k2).re_one HG.out ((C.ok i t HG.out).2.tab.rt.add_none hl (x := (xn, xk)) HK.out)) k2
    · have HK := Hid.mk hK
      clear hK
      have PC := fun W (kk : Keep w2 W) => (CW.put (C.keep (k2.trans kk)) HG.out hl (x := (xn, xk)) DK HK.out HHH.out)
      have HPC := Hid.mk PC
      clear PC
      go_wp2_with fail
      go_region_with (go_at_call 46; refine (HPC.out _ ((Keep.refl _).drew)).mono ?_; rintro e w3 ⟨rfl, sh', tl', G', C', fr, hq⟩)
      go_wp2_with fail
      go_end0
      exact NoteP.pre k2 (NoteP.pre ((Keep.refl _).drew) ⟨rfl, sh', tl', G', C', fr, hq⟩)
  · have HNO := Hid.mk hno
    clear hno
    go_wp2_with fail
    refine bodyPost_ret (results_none rfl _ _ _) rfl ?_
    exact NoteP.of (C.re_no (fun i t e a => HNO.out i t e (by omega)) _) (Keep.refl _)
set_option maxRecDepth 4000 in
set_option maxHeartbeats 2000000 in
theorem noteRemove_c (d l : Nat) (name : List UInt8) (C : CW B w gs gc ck R sh tl G) (DK : DirOK (R d)) (hl : l < 8) (hh : hasR name (R d l) = true) (hx : name.length ≤ 1000000) :
    Calls Try.prog 29 #[.pointer (some ⟨gc, 0, none⟩), .int .i64 d, .int .i64 l, str name] w fun e w' => NoteP B w gs gc ck (outS R d l name) G e w' := by
  have ST := seatG_c d w C
  have KC := fun W => key_c name W hx
  have HKC := Hid.mk KC
  have HHH := Hid.mk hh
  clear KC hh
  go_enter Try.func29, Try.ntmps29
  go_wp2_with fail
  refine ST.mono ?_
  rintro e w1 ⟨hs, rfl⟩
  rcases hs with ⟨i, t, hi, rfl, hG, hdt⟩ | ⟨rfl, hno⟩
  · have i1 : ¬ (i : Int) < 0 := by omega
    have i2 : (i : Int) < 16 := by omega
    have htd : t.dir = d := by omega
    subst htd
    have HG := Hid.mk hG
    clear hG hdt
    go_wp2_with fail
    refine (HKC.out _).mono ?_
    rintro e w2 ⟨hk, k2⟩
    rcases hk with ⟨hK, rfl⟩ | ⟨k, hK, rfl⟩
    · have HK := Hid.mk hK
      clear hK
      go_wp2_with fail
      refine bodyPost_ret (results_none rfl _ _ _) rfl ?_
      exact NoteP.of ((C.keep k2).re_one HG.out ((C.ok i t HG.out).2.tab.rt.out_none hl HK.out)) k2
    · have HK := Hid.mk hK
      clear hK
      have PC := CW.drop (C.keep k2) HG.out hl DK HK.out HHH.out
      have HPC := Hid.mk PC
      clear PC
      go_wp2_with fail
      refine HPC.out.mono ?_
      rintro e w3 ⟨rfl, sh', tl', G', C', fr, hq⟩
      go_wp2_with fail
      go_end0
      exact NoteP.pre k2 ⟨rfl, sh', tl', G', C', fr, hq⟩
  · have HNO := Hid.mk hno
    clear hno
    go_wp2_with fail
    refine bodyPost_ret (results_none rfl _ _ _) rfl ?_
    exact NoteP.of (C.re_no (fun i t e a => HNO.out i t e (by omega)) _) (Keep.refl _)
end
end Go.Proofs.Qxb6500766a
