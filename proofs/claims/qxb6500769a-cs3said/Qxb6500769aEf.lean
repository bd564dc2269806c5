/- (*modes.CMAC).Write. -/
import Derived.Test.Qxb6500769aEe
namespace Go.Qm
open Go Go.RowKit
theorem Win.bsAt {w : World} {g : Nat} {e : TypeId} {pre post : List Value} {m : List UInt8} (h : Win w g e pre m post) {n c o : Nat} (hn : n = m.length) (ho : o = pre.length) (hnc : n ≤ c) (hc : c ≤ maxLen) : Bs w (.slice (some ⟨g, o, none⟩) n c) m := by
  refine ⟨some ⟨g, o, none⟩, c, by rw [List.length_map, hn], by rw [List.length_map]; omega, hc, ?_⟩
  intro k u hu
  refine ⟨g, o, rfl, ?_⟩
  have hk : k < m.length := by
    have := (List.getElem?_eq_some_iff.1 hu).1
    simpa using this
  rw [h.cell (k := k) (o := o + k) hk (by omega)]
  rw [List.getElem?_map, List.getElem?_eq_getElem hk] at hu
  simpa [cb] using hu
end Go.Qm
namespace Go.Proofs.Qxb6500769a
open Go.RowKit Go.Qm
set_option linter.unusedVariables false
set_option linter.unusedSimpArgs false
attribute [local go_sem ↓] Go.wp_at_zero Go.wp_at_succ

def slen : Value → Nat
  | .slice _ n _ => n
  | _ => 0
set_option maxRecDepth 2000 in
set_option maxHeartbeats 4000000 in
theorem cwrite_c (g : Nat) (al : Int) (ka : Option Addr) (kn kc : Nat) (key : List UInt8) (f : List UInt8 → List UInt8) (K1 K2 X0 H0 m p : List UInt8) (n0 : Nat) (pv : Value) (w : World)
    (hE : Enc al (.slice ka kn kc) key f) (h1 : K1.length = 16) (h2 : K2.length = 16) (hst : St f m X0 H0 n0) (hA : Arr w g 64 (CM al (.slice ka kn kc) K1 K2 X0 H0 n0))
    (hk : Bs w (.slice ka kn kc) key) (hkb : (Value.slice ka kn kc).ownBlock ≠ some g) (hp : Bs w pv p) (hpb : p.length ≠ 0 → pv.ownBlock ≠ some g) (hpl : p.length ≤ 1000000) :
    Calls Try.prog 37 #[.pointer (some ⟨g, 0, none⟩), pv] w fun e w' => e = .returned (.tuple #[]) ∧ ∃ X H n, St f (m ++ p) X H n ∧ Arr w' g 64 (CM al (.slice ka kn kc) K1 K2 X H n) ∧ w.grownBy w' (some g) := by
  obtain ⟨hfl, hE⟩ := hE
  have HK1 := Hid.mk h1
  have HK2 := Hid.mk h2
  clear h1 h2
  go_enter Try.func37, Try.ntmps37
  go_wp2_with fail
  go_loopw [1, 4, 5, 14] (fun pv _ _ _ wr => ∃ q r X H n, p = q ++ r ∧ Bs wr pv r ∧ (r.length ≠ 0 → pv.ownBlock ≠ some g) ∧ St f (m ++ q) X H n ∧ Arr wr g 64 (CM al (.slice ka kn kc) K1 K2 X H n) ∧ w.grownBy wr (some g)) (fun p _ _ _ _ => slen p)
  case atStart => exact ⟨[], p, X0, H0, n0, rfl, hp, hpb, by simpa using hst, hA, grown_refl _ _⟩
  case round => as_aux_lemma =>
    clear hst hA hp hpb
    obtain ⟨q, r, X, H, n, hqr, hb, hnb, hst, A, hgr⟩ := hrel
    obtain ⟨j, hsb, hj0⟩ := hst
    have HXl : Hid (X.length = 16) := Hid.mk (by rw [hsb.2.2.1]; exact chn_length hfl _ _)
    have HHl : Hid (H.length = 16) := Hid.mk hsb.2.2.2.2
    have hn16 := hsb.2.1
    have HSB := Hid.mk hsb
    have HJ0 := Hid.mk hj0
    have HQR := Hid.mk hqr
    clear hsb hj0 hqr
    obtain ⟨pa, pc, rfl, hpc, hpm, -⟩ := hb.form
    unfold maxLen at hpm
    have c66 := A.cell 66
    rw [CM_n HK1.out HK2.out HXl.out HHl.out] at c66
    have c0 : wr.cell? ⟨g, 0, none⟩ = some (.int .i64 al) := by rw [A.cell 0]; rfl
    have c1 : wr.cell? ⟨g, 1, none⟩ = some (.slice ka kn kc) := by rw [A.cell 1]; rfl
    obtain ⟨rl, hrl⟩ : ∃ rl, rl = r.length := ⟨_, rfl⟩
    rw [← hrl] at hb hnb hpc ⊢
    have hrl6 : rl ≤ 1000000 := by rw [hrl]; have h := hpl; rw [HQR.out, List.length_append] at h; omega
    have HRL := Hid.mk hrl
    clear hrl
    by_cases hr0 : rl = 0
    · subst hr0
      go_wp2
      go_end0
      refine ⟨rfl, X, H, n, ⟨j, ?_, HJ0.out⟩, A, hgr⟩
      have : r = [] := List.eq_nil_of_length_eq_zero HRL.out.symm
      rw [HQR.out, this, List.append_nil]
      exact HSB.out
    · have hr1 : (rl : Int) > 0 := by omega
      go_upto_if 13 with fail
      go_cut [4] from 6 to 71 (fun _ wx => ∃ X' n' j', n' < 16 ∧ StB f (m ++ q) X' H n' j' ∧ Arr wx g 64 (CM al (.slice ka kn kc) K1 K2 X' H n') ∧ wr.grownBy wx (some g))
      case first => as_aux_lemma =>
        by_cases hf16 : n = 16
        · subst hf16
          go_wp2_with fail
          go_loopw [14, 4] (fun iv _ wx => ∃ i : Nat, i ≤ 16 ∧ iv = .int .i64 i ∧ Arr wx g 64 (CM al (.slice ka kn kc) K1 K2 (xk X H i) H 16) ∧ wr.grownBy wx (some g)) (fun i _ _ => 16 - (intOf i).toNat)
          case atStart => exact ⟨0, by omega, rfl, A, grown_refl _ _⟩
          case round => as_aux_lemma =>
            clear A
            obtain ⟨i, hi, rfl, A, hg2⟩ := hrel
            have HXi : Hid ((xk X H i).length = 16) := Hid.mk (by rw [xk_length]; exact HXl.out)
            by_cases hli : i < 16
            · have hli' : (i : Int) < 16 := by omega
              have cx := A.cell (34 + i)
              rw [CM_xi HK1.out HK2.out HXi.out hli] at cx
              have ch := A.cell (50 + i)
              rw [CM_hi HK1.out HK2.out HXi.out HHl.out hli] at ch
              have fz := A.frozen (34 + i)
              have EX : Hid (xk X H (i + 1) = (xk X H i).set i ((xk X H i).getD i 0 ^^^ H.getD i 0)) := Hid.mk rfl
              have hset := A.set (34 + i) (.int .u8 ((xk X H i).getD i 0 ^^^ H.getD i 0).toNat)
              rw [CM_setx HK1.out HK2.out HXi.out hli, ← EX.out] at hset
              have xx := bits_xor8 ((xk X H i).getD i 0) (H.getD i 0)
              have HS := Hid.mk hset
              clear hset c66 c0 c1
              generalize (xk X H i).getD i 0 ^^^ H.getD i 0 = z at *
              generalize (xk X H i).getD i 0 = x1 at *
              generalize H.getD i 0 = x2 at *
              go_wp2_with fail
              go_region
              go_wp2_with fail
              go_roundw
              case rel => exact ⟨i + 1, by omega, by go_num, HS.out, grown_drew (grown_set hg2 _ _)⟩
              case measure => simp [intOf]; omega
            · have hli' : ¬ (i : Int) < 16 := by omega
              have : i = 16 := by omega
              subst this
              rw [xk_all X H HXl.out HHl.out] at A
              have HXX : Hid ((xorl X H).length = 16) := Hid.mk (by rw [xorl_length]; exact HXl.out)
              have hFl := hfl _ HXX.out
              have wx0 := Win.of_arr A CM_x
              have hpre : ([Value.int .i64 al, Value.slice ka kn kc] ++ K1.map cb ++ K2.map cb).length = 34 := by simp [HK1.out, HK2.out]
              have d0 : wr.cell? ⟨g, 0, none⟩ = some (.int .i64 al) := by rw [A.cell 0]; rfl
              have d1 : wr.cell? ⟨g, 1, none⟩ = some (.slice ka kn kc) := by rw [A.cell 1]; rfl
              have HKx := hk.kept (grown_trans hgr hg2) hkb
              have E1 : ∀ W, Keep wr W → Calls Try.prog 22 #[.agg #[.int .i64 al, .slice ka kn kc], .slice (some ⟨g, 34, none⟩) 16 16] W fun x w' => ∃ va vc, x = .returned (.slice va 16 vc) ∧ Own W.heap.size 5 w' (.slice va 16 vc) ((f (xorl X H)).map cb) ∧ Keep W w' := by
                intro W hkW
                refine (hE W _ (xorl X H) (HKx.keep hkW) ((wx0.keep hkW).bsAt (by rw [HXX.out]) hpre.symm (by omega) (by simp [maxLen])) HXX.out).mono ?_
                rintro x w' ⟨v', rfl, o', q⟩
                obtain ⟨va, vc, hv, -, -, -⟩ := o'.bs.form
                rw [hFl] at hv
                subst hv
                exact ⟨va, vc, rfl, o', q⟩
              have HSF := Hid.mk HSB.out.full
              obtain ⟨F, hF⟩ : ∃ F, F = f (xorl X H) := ⟨_, rfl⟩
              rw [← hF] at E1 hFl
              have HF := Hid.mk hF
              have HFl := Hid.mk hFl
              have HPRE := Hid.mk hpre
              clear hF hFl hpre c66 c0 c1
              go_wp2_with fail
              go_region_held3 (fun W => W.cell? ⟨g, 0, none⟩ = some (.int .i64 al) ∧ W.cell? ⟨g, 1, none⟩ = some (.slice ka kn kc))
                (first | assumption | exact ⟨d0, d1⟩ | exact ⟨Q1.cell d0, Q1.cell d1⟩ | exact ⟨z0, z1⟩)
                ((go_at_call 22; refine (E1 _ (Keep.refl wr).drew).mono ?_; rintro x y ⟨va, vc, rfl, o', q⟩; have Q1 : Keep wr y := (Keep.refl wr).drew.trans q; obtain ⟨W, hcp, win, gr⟩ := copy_in (P := Try.prog) (t := 27) Try.underlying27 siz5 (wx0.keep Q1) o'.bs (o := 34) (k := 0) (n := 16) (dLen := 16) (dCap := 16) (by rw [HPRE.out]) (by rw [HFl.out]; rfl) (by rw [HXX.out]; omega); have AW : Arr W g 64 (CM al (.slice ka kn kc) K1 K2 F H 16) := (by rw [List.take_zero, List.nil_append, Nat.zero_add, List.take_of_length_le (by rw [HFl.out]; omega), List.drop_of_length_le (by rw [HXX.out]; omega), List.append_nil] at win; exact Arr.of_win win CM_x); have z0 : W.cell? ⟨g, 0, none⟩ = some (.int .i64 al) := (by rw [AW.cell 0]; rfl); have z1 : W.cell? ⟨g, 1, none⟩ = some (.slice ka kn kc) := (by rw [AW.cell 1]; rfl)))
              have c66 := AW.cell 66
              rw [CM_n HK1.out HK2.out HFl.out HHl.out] at c66
              have f66 := AW.frozen 66
              have A66 := AW.set 66 (.int .i64 (0 : Nat))
              rw [CM_setn HK1.out HK2.out HFl.out HHl.out] at A66
              have HA66 := Hid.mk A66
              clear A66 hcp win
              go_wp2_with fail
              go_meet
              case rel => exact ⟨F, 0, j + 1, by omega, by rw [HF.out]; exact HSF.out, HA66.out, grown_set (grown_trans (grown_keep hg2 Q1) gr) _ _⟩
        · have hnn : ((n : Int) == 16) = false := by simp; omega
          go_wp2_with fail
          go_meet
          case rel => exact ⟨X, n, j, by omega, HSB.out, A, grown_refl _ _⟩
      case rest => as_aux_lemma =>
        clear c66 c0 c1 A HXl HSB HJ0 hn16
        obtain ⟨X', n', j', hn', hsb', A', hg2⟩ := hcut
        have HX' : Hid (X'.length = 16) := Hid.mk (by rw [hsb'.2.2.1]; exact chn_length hfl _ _)
        have HSB := Hid.mk hsb'
        clear hsb'
        obtain ⟨k, hkd⟩ : ∃ k, k = min rl (16 - n') := ⟨_, rfl⟩
        have hk1 : 1 ≤ k := by omega
        have hkr : k ≤ rl := by omega
        have hk16 : n' + k ≤ 16 := by omega
        have hb' := hb.kept hg2 (hnb hr0)
        have whn := Win.of_arr A' CM_h
        have HPRE : Hid (([Value.int .i64 al, Value.slice ka kn kc] ++ K1.map cb ++ K2.map cb ++ X'.map cb).length = 50) := Hid.mk (by simp [HK1.out, HK2.out, HX'.out])
        obtain ⟨W, hcp, win, gr⟩ := copy_in (P := Try.prog) (t := 27) Try.underlying27 siz5 whn.drew hb'.drew (o := 50 + n') (k := n') (n := k) (dLen := 16 - n') (dCap := 16 - n') (by rw [HPRE.out]) (by rw [← HRL.out]; exact hkd) (by rw [HHl.out]; exact hk16)
        have HH2 : Hid ((H.take n' ++ r.take k ++ H.drop (n' + k)).length = 16) := Hid.mk (by have := HHl.out; have := HRL.out; simp only [List.length_append, List.length_take, List.length_drop]; omega)
        have HST := Hid.mk (HSB.out.take (r := r) (k := k) (by have := HRL.out; omega) hk16 (by omega))
        obtain ⟨H2, hH2⟩ : ∃ H2, H2 = H.take n' ++ r.take k ++ H.drop (n' + k) := ⟨_, rfl⟩
        rw [← hH2] at win HH2 HST
        have AW : Arr W g 64 (CM al (.slice ka kn kc) K1 K2 X' H2 n') := Arr.of_win win CM_h
        have c66 := A'.cell 66
        rw [CM_n HK1.out HK2.out HX'.out HHl.out] at c66
        have e66 := AW.cell 66
        rw [CM_n HK1.out HK2.out HX'.out HH2.out] at e66
        have f66 := AW.frozen 66
        obtain ⟨nk, hnk⟩ : ∃ nk, nk = n' + k := ⟨_, rfl⟩
        have A66 := AW.set 66 (.int .i64 (nk : Nat))
        rw [CM_setn HK1.out HK2.out HX'.out HH2.out] at A66
        rw [← hnk] at HST
        have y1 : IntKind.i64.wrap ((n' : Int) + (k : Int)) = (nk : Int) := by rw [IntKind.wrap_i64] <;> omega
        have y2 : (n' : Int) ≤ 16 := by omega
        have y3 : (0 : Int) ≤ n' := by omega
        have y4 : (k : Int) ≤ rl := by omega
        have y5 : (k : Int) ≤ pc := by omega
        have y6 : (0 : Int) ≤ k := by omega
        have y7 : ¬ 16 = n' := by omega
        have HP := Hid.mk ((hb'.drew.kept gr (hnb hr0)).part (i := k) (j := rl) hkr (Nat.le_refl _) (pa.map (·.add k)) (fun _ => rfl))
        have HA66 := Hid.mk A66
        have GR := grown_trans (grown_drew (grown_trans hgr hg2)) gr
        have HKD := Hid.mk hkd
        clear hH2 hkd hnk A66 win whn hn'
        go_wp2_with fail
        go_region
        by_cases hpk : pc = k
        · have hrk : rl = k := by omega
          have HRK := Hid.mk hrk
          subst hpk
          clear hrk
          go_wp2_with fail
          go_roundw
          case rel =>
            have hdn : r.drop pc = [] := List.drop_of_length_le (by have := HRL.out; have := HRK.out; omega)
            refine ⟨q ++ r.take pc, [], X', H2, nk, ?_, ?_, fun h => absurd rfl h, ?_, HA66.out, grown_set GR _ _⟩
            · rw [HQR.out, List.append_nil, List.take_of_length_le (by have := HRL.out; have := HRK.out; omega)]
            · exact Bs.nil _ _ (by simp [maxLen])
            · rw [← List.append_assoc]; exact HST.out
          case measure => simp [slen]; omega
        · go_wp2_with fail
          go_roundw
          case rel =>
            have hob : ∀ (a b : Nat), (Value.slice (pa.map (fun x => x.add k)) a b).ownBlock = (Value.slice pa rl pc).ownBlock := by
              intro a b
              cases pa <;> simp [Value.ownBlock, Addr.add]
              split <;> rfl
            have hne : (Value.slice (pa.map (fun x => x.add k)) (rl - k) (pc - k)).ownBlock ≠ some g := by rw [hob]; exact hnb hr0
            have htk : (r.drop k).take (rl - k) = r.drop k := List.take_of_length_le (by rw [List.length_drop]; have := HRL.out; omega)
            have HP2 := HP.out
            rw [htk] at HP2
            refine ⟨q ++ r.take k, r.drop k, X', H2, nk, ?_, HP2.kept (grown_set (grown_refl W _) _ _) hne, fun _ => hne, ?_, HA66.out, grown_set GR _ _⟩
            · rw [HQR.out, List.append_assoc, List.take_append_drop]
            · rw [← List.append_assoc]; exact HST.out
          case measure => simp [slen]; omega
end Go.Proofs.Qxb6500769a
