/- mergem: WalkList. -/
import Derived.Test.Qxb6500767aTd
import Derived.Test.Qxb6500767aKe
namespace Go.Proofs.Qxb6500767a
open Go.RowKit Go.Qm
set_option linter.unusedVariables false
set_option linter.unusedSimpArgs false
attribute [local go_sem ↓] Go.wp_at_zero Go.wp_at_succ
/-- What a walk leans on. -/
structure TOK (T : List Nd) : Prop where
  root : 0 < T.length
  len : T.length ≤ 1000000
  par : ∀ i, i < T.length → (at' T i).par < T.length
  few : ∀ i, i < T.length → (at' T i).edges.length ≤ 1000000
  edg : ∀ i, i < T.length → ∀ e ∈ (at' T i).edges, e.node < T.length
  lnk : ∀ i, i < T.length → (at' T i).kind = 3 → (at' T i).data ≠ [] ∧ (at' T i).data.length ≤ 255
def nxt (T : List Nd) (a : Nat) (i : Nat) : Nat := ((at' T a).edges.getD i ⟨[], [], 0⟩).node
def walkF (T : List Nd) (fl : Bool) (h : Nat) (todo : List (List UInt8)) (a : Nat) : Nat × Int :=
  match todo with
  | [] => (a, 0)
  | name :: rest =>
    if (at' T a).kind ≠ 2 then (0, 7)
    else if name = [46] then walkF T fl h rest a
    else if name = [46, 46] then walkF T fl h rest (at' T a).par
    else if (keyR name).1 ≠ 0 then (0, (keyR name).1)
    else match findE (keyR name).2 (at' T a).edges with
      | none => (0, 6)
      | some i =>
        if (at' T (nxt T a i)).kind = 3 ∧ (rest ≠ [] ∨ fl = true) then
          match h with
          | 0 => (0, 9)
          | h + 1 => walkF T fl h (splitF (at' T (nxt T a i)).data ++ rest) (if (at' T (nxt T a i)).data.headD 0 = 47 then 0 else a)
        else walkF T fl h rest (nxt T a i)
termination_by (h, todo.length)
section
variable {T : List Nd} {fl : Bool} {h a : Nat} {name : List UInt8} {rest : List (List UInt8)}
theorem wf_nil : walkF T fl h [] a = (a, 0) := by rw [walkF]
theorem wf_dir (h1 : (at' T a).kind ≠ 2) : walkF T fl h (name :: rest) a = (0, 7) := by rw [walkF, if_pos h1]
theorem wf_dot (h1 : (at' T a).kind = 2) (h2 : name = [46]) : walkF T fl h (name :: rest) a = walkF T fl h rest a := by rw [walkF, if_neg (by simpa using h1), if_pos h2]
theorem wf_dd (h1 : (at' T a).kind = 2) (h2 : name ≠ [46]) (h3 : name = [46, 46]) : walkF T fl h (name :: rest) a = walkF T fl h rest (at' T a).par := by rw [walkF, if_neg (by simpa using h1), if_neg h2, if_pos h3]
theorem wf_bad (h1 : (at' T a).kind = 2) (h2 : name ≠ [46]) (h3 : name ≠ [46, 46]) (h4 : (keyR name).1 ≠ 0) : walkF T fl h (name :: rest) a = (0, (keyR name).1) := by rw [walkF, if_neg (by simpa using h1), if_neg h2, if_neg h3, if_pos h4]
theorem wf_no (h1 : (at' T a).kind = 2) (h2 : name ≠ [46]) (h3 : name ≠ [46, 46]) (h4 : (keyR name).1 = 0) (h5 : findE (keyR name).2 (at' T a).edges = none) : walkF T fl h (name :: rest) a = (0, 6) := by rw [walkF, if_neg (by simpa using h1), if_neg h2, if_neg h3, if_neg (by simpa using h4), h5]
theorem wf_go (h1 : (at' T a).kind = 2) (h2 : name ≠ [46]) (h3 : name ≠ [46, 46]) (h4 : (keyR name).1 = 0) {i : Nat} (h5 : findE (keyR name).2 (at' T a).edges = some i) (h6 : ¬ ((at' T (nxt T a i)).kind = 3 ∧ (rest ≠ [] ∨ fl = true))) : walkF T fl h (name :: rest) a = walkF T fl h rest (nxt T a i) := by
  rw [walkF, if_neg (by simpa using h1), if_neg h2, if_neg h3, if_neg (by simpa using h4), h5]
  simp only
  rw [if_neg h6]
theorem wf_loop (h1 : (at' T a).kind = 2) (h2 : name ≠ [46]) (h3 : name ≠ [46, 46]) (h4 : (keyR name).1 = 0) {i : Nat} (h5 : findE (keyR name).2 (at' T a).edges = some i) (h6 : (at' T (nxt T a i)).kind = 3 ∧ (rest ≠ [] ∨ fl = true)) : walkF T fl 0 (name :: rest) a = (0, 9) := by
  rw [walkF, if_neg (by simpa using h1), if_neg h2, if_neg h3, if_neg (by simpa using h4), h5]
  simp only
  rw [if_pos h6]
theorem wf_hop (h1 : (at' T a).kind = 2) (h2 : name ≠ [46]) (h3 : name ≠ [46, 46]) (h4 : (keyR name).1 = 0) {i : Nat} (h5 : findE (keyR name).2 (at' T a).edges = some i) (h6 : (at' T (nxt T a i)).kind = 3 ∧ (rest ≠ [] ∨ fl = true)) : walkF T fl (h + 1) (name :: rest) a = walkF T fl h (splitF (at' T (nxt T a i)).data ++ rest) (if (at' T (nxt T a i)).data.headD 0 = 47 then 0 else a) := by
  rw [walkF, if_neg (by simpa using h1), if_neg h2, if_neg h3, if_neg (by simpa using h4), h5]
  simp only
  rw [if_pos h6]
end
theorem findE_lt {key : List UInt8} : ∀ {l : List Edg} {i : Nat}, findE key l = some i → i < l.length
  | [], i, h => by cases h
  | e :: l, i, h => by
    rw [findE] at h
    split at h
    · cases h; simp
    · cases hf : findE key l with
      | none => rw [hf] at h; cases h
      | some j => rw [hf] at h; cases h; have := findE_lt hf; simp; omega
theorem sl_cons {w : World} {v : Value} {x : List UInt8} {l : List (List UInt8)} (h : Sl w v ((x :: l).map str)) : ∃ b o c, v = .slice (some ⟨b, o, none⟩) (l.length + 1) c ∧ l.length + 1 ≤ c ∧ c ≤ maxLen ∧ w.cell? ⟨b, o, none⟩ = some (str x) := by
  obtain ⟨a, c, e, h1, h2, h3⟩ := h
  obtain ⟨b, o, rfl, hc⟩ := h3 0 (str x) (by simp)
  exact ⟨b, o, c, by simpa using e, by simpa using h1, h2, hc⟩
set_option maxRecDepth 4000 in
set_option maxHeartbeats 4000000 in
theorem walkList_c (gt : Nat) (T : List Nd) (fl : Bool) (names : List (List UInt8)) (nv : Value) (w : World) (h : TR w gt T) (ok : TOK T) (hs : Sl w nv (names.map str)) (hl : names.length ≤ 1000000) (hnl : ∀ x ∈ names, x.length ≤ 1000000) :
    Calls Try.prog 89 #[.pointer (some ⟨gt, 0, none⟩), nv, .bool fl] w fun e w' => e = .returned (.tuple #[.int .i64 ((walkF T fl 8 names 0).1 : Nat), .int .i64 (walkF T fl 8 names 0).2]) ∧ Keep w w' := by
  obtain ⟨R, hR⟩ : ∃ R, R = walkF T fl 8 names 0 := ⟨_, rfl⟩
  rw [← hR]
  have hroot := ok.root
  have HOK := Hid.mk ok
  have HTR := Hid.mk h
  go_enter Try.func89, Try.ntmps89
  go_wp2_with fail
  go_loopg [8, 9, 10] (8 * 100000000 + names.length) (fun gk tv av hv wr => ∃ (hh : Nat) (todo : List (List UInt8)) (a hp : Nat), gk = hh * 100000000 + todo.length ∧ R = walkF T fl hh todo a ∧ hp + hh = 8 ∧ Sl wr tv (todo.map str) ∧ av = .int .i64 (a : Nat) ∧ hv = .int .i64 (hp : Nat) ∧ a < T.length ∧ todo.length ≤ 1000000 + 300 * hp ∧ (∀ x ∈ todo, x.length ≤ 1000000) ∧ Keep w wr)
  case atStart => exact ⟨8, names, 0, 0, rfl, hR, rfl, hs, rfl, rfl, hroot, by omega, hnl, Keep.refl _⟩
  case round =>
    clear hR hs hl hnl h ok
    obtain ⟨hh, todo, a, hp, hgk, hR, hhp, hsl, rfl, rfl, ha, htl, hnm, kw⟩ := hrel
    have HGK := Hid.mk hgk
    have HHP := Hid.mk hhp
    have HNM := Hid.mk hnm
    have HKW := Hid.mk kw
    clear hgk hhp hnm
    obtain ⟨W0, hW0⟩ : ∃ W0, W0 = wr := ⟨_, rfl⟩
    subst hW0
    cases todo with
    | nil =>
      obtain ⟨ta, tc, htv, -, htm, -⟩ := hsl
      subst htv
      have HRN : Hid (R = (a, 0)) := Hid.mk (by rw [hR, wf_nil])
      clear hR
      go_wp2_with fail
      go_ret2
      rw [HRN.out]
      exact ⟨rfl, HKW.out⟩
    | cons name rest =>
      have HR := Hid.mk hR
      have HSL := Hid.mk hsl
      obtain ⟨tb, ot, tc, rfl, htc, htm, hc0⟩ := sl_cons hsl
      clear hR hsl
      unfold maxLen at htm
      rw [List.length_cons] at htl
      obtain ⟨rl, hrl⟩ : ∃ rl, rl = rest.length := ⟨_, rfl⟩
      rw [← hrl] at htl htc ⊢
      have HRL := Hid.mk hrl
      clear hrl
      have j1 : ((rl + 1 : Nat) : Int) > 0 := by omega
      go_upto_region 6 with fail
      go_cut [8] from 19 to 115 (fun tv wx => ∃ ta tc', tv = .slice ta rl tc' ∧ rl ≤ tc' ∧ tc' ≤ 2 ^ 63 - 1 ∧ Sl wx tv (rest.map str) ∧ wx = W0)
      case first => as_aux_lemma =>
        by_cases h1 : tc = 1
        · have hr0 : rl = 0 := by omega
          have hrn : rest = [] := List.eq_nil_of_length_eq_zero (by rw [← HRL.out]; exact hr0)
          subst h1
          have HR0 := Hid.mk hr0
          clear hr0
          go_wp2_with fail
          go_meet
          case rel =>
            rw [HR0.out, hrn]
            exact ⟨_, 0, rfl, Nat.le_refl _, by omega, ⟨_, 0, rfl, Nat.le_refl _, by simp [maxLen], fun k u hu => by simp at hu⟩, rfl⟩
        · have h2 : (1 : Int) ≤ tc := by omega
          have SP := HSL.out.part (i := 1) (j := rl + 1) (by omega) (by rw [HRL.out]; exact Nat.le_refl _) (some ⟨tb, ot + 1, none⟩) (fun _ => by simp [Addr.add])
          rw [Nat.add_sub_cancel, List.map_cons, List.drop_succ_cons, List.drop_zero, List.take_of_length_le (by rw [List.length_map, HRL.out]; exact Nat.le_refl _)] at SP
          have HSP := Hid.mk SP
          clear SP
          go_wp2_with fail
          go_meet
          case rel => exact ⟨_, _, rfl, by omega, by omega, HSP.out, rfl⟩
      case rest =>
        obtain ⟨ta, tc', rfl, htc', htm', hrs, rfl⟩ := hcut
        obtain ⟨W1, hW1⟩ : ∃ W1, W1 = wc := ⟨_, rfl⟩
        subst hW1
        obtain ⟨bn, cap, t0, t1, t2, t3⟩ := HTR.out.keep HKW.out
        obtain ⟨dv, ev, n0, n1, n2, n3, n4, n5, n6, -, hes⟩ := t3 a ha
        have hnm : name.length ≤ 1000000 := HNM.out name (by simp)
        have hnr : Hid (∀ x ∈ rest, x.length ≤ 1000000) := Hid.mk (fun x hx => HNM.out x (by simp [hx]))
        have i1 : (a : Int) < T.length := by omega
        have i2 : (0 : Int) ≤ a := by omega
        have hpar := HOK.out.par a ha
        unfold maxLen at t2
        have HRS := Hid.mk hrs
        have HT3 := Hid.mk t3
        clear hrs t3 hc0 HSL
        by_cases hkd : (at' T a).kind = 2
        · have q1 : (((at' T a).kind : Int) != 2) = false := by simp [hkd]
          by_cases hd1 : name = [46]
          · have HRN : Hid (R = walkF T fl hh rest a) := Hid.mk (by rw [HR.out, wf_dot hkd hd1])
            have q2 : (name == [46]) = true := by simp [hd1]
            clear hkd HR hd1
            go_wp2_with fail
            go_roundg (hh * 100000000 + rest.length)
            case measure => rw [HGK.out, List.length_cons]; omega
            case rel => exact ⟨hh, rest, a, hp, rfl, HRN.out, HHP.out, HRS.out, rfl, rfl, ha, by rw [← HRL.out]; omega, hnr.out, HKW.out⟩
          · have q2 : (name == [46]) = false := by simp [hd1]
            by_cases hd2 : name = [46, 46]
            · have HRN : Hid (R = walkF T fl hh rest (at' T a).par) := Hid.mk (by rw [HR.out, wf_dd hkd hd1 hd2])
              have q3 : (name == [46, 46]) = true := by simp [hd2]
              generalize (at' T a).par = pr at *
              clear hkd HR hd1 hd2
              go_wp2_with fail
              go_roundg (hh * 100000000 + rest.length)
              case measure => rw [HGK.out, List.length_cons]; omega
              case rel => exact ⟨hh, rest, pr, hp, rfl, HRN.out, HHP.out, HRS.out, rfl, rfl, hpar, by rw [← HRL.out]; omega, hnr.out, HKW.out⟩
            · have q3 : (name == [46, 46]) = false := by simp [hd2]
              have KC := fun W => key_c name W hnm
              obtain ⟨er, hke⟩ : ∃ er, er = (keyR name).1 := ⟨_, rfl⟩
              obtain ⟨kk, hkk⟩ : ∃ kk, kk = (keyR name).2 := ⟨_, rfl⟩
              rw [← hke, ← hkk] at KC
              have HKE := Hid.mk hke
              have HKK := Hid.mk hkk
              clear hke hkk
              by_cases he : er = 0
              · have HKE0 : Hid ((keyR name).1 = 0) := Hid.mk (by rw [← HKE.out]; exact he)
                subst he
                have FC := fun W (hk : Keep W1 W) => find_c gt a T kk W (HTR.out.keep (HKW.out.trans hk)) ha (HOK.out.few a ha)
                cases hfe : findE kk (at' T a).edges with
                | none =>
                  rw [hfe] at FC
                  have HRN : Hid (R = (0, 6)) := Hid.mk (by rw [HR.out, wf_no hkd hd1 hd2 HKE0.out (by rw [← HKK.out]; exact hfe)])
                  clear hkd HR hd1 hd2 hfe
                  unfold optI at FC
                  go_wp2_with fail
                  refine (KC _).mono ?_
                  rintro e w3 ⟨rfl, k3⟩
                  go_wp2_with fail
                  refine (FC _ k3).mono ?_
                  rintro e w4 ⟨rfl, rfl⟩
                  go_wp2_with fail
                  go_ret2
                  rw [HRN.out]
                  exact ⟨rfl, HKW.out.trans k3⟩
                | some i =>
                  rw [hfe] at FC
                  unfold optI at FC
                  have hil := findE_lt hfe
                  have hnode : (at' T a).edges[i].node = nxt T a i := by unfold nxt; rw [List.getD_eq_getElem?_getD, List.getElem?_eq_getElem hil]; rfl
                  have hnl : nxt T a i < T.length := by rw [← hnode]; exact HOK.out.edg a ha _ (List.getElem_mem hil)
                  obtain ⟨ea, ec, rfl, x1, x2, x3⟩ := hes
                  obtain ⟨ge, rfl, -, -, x4⟩ := x3 i hil
                  rw [hnode] at x4
                  have HWF : Hid (¬ ((at' T (nxt T a i)).kind = 3 ∧ (rest ≠ [] ∨ fl = true)) → R = walkF T fl hh rest (nxt T a i)) := Hid.mk (fun hc => by rw [HR.out, wf_go hkd hd1 hd2 HKE0.out (by rw [← HKK.out]; exact hfe) hc])
                  have HWL : Hid ((at' T (nxt T a i)).kind = 3 ∧ (rest ≠ [] ∨ fl = true) → hh = 0 → R = (0, 9)) := Hid.mk (fun hc h0 => by rw [HR.out, h0, wf_loop hkd hd1 hd2 HKE0.out (by rw [← HKK.out]; exact hfe) hc])
                  have HWH : Hid ((at' T (nxt T a i)).kind = 3 ∧ (rest ≠ [] ∨ fl = true) → ∀ h', hh = h' + 1 → R = walkF T fl h' (splitF (at' T (nxt T a i)).data ++ rest) (if (at' T (nxt T a i)).data.headD 0 = 47 then 0 else a)) := Hid.mk (fun hc h' h0 => by rw [HR.out, h0, wf_hop hkd hd1 hd2 HKE0.out (by rw [← HKK.out]; exact hfe) hc])
                  have NX := fun W (hk : Keep W1 W) => (HT3.out (nxt T a i) hnl).keep hk
                  have lk3 := HOK.out.lnk (nxt T a i) hnl
                  clear hkd HR hd1 hd2 hfe hnode x3 HT3
                  generalize nxt T a i = nx at *
                  generalize at' T nx = N at *
                  have il : (i : Int) < (at' T a).edges.length := by omega
                  have il0 : (0 : Int) ≤ i := by omega
                  have nl : (nx : Int) < T.length := by omega
                  have nl0 : (0 : Int) ≤ nx := by omega
                  unfold maxLen at x2
                  go_wp2_with fail
                  refine (KC _).mono ?_
                  rintro e w3 ⟨rfl, k3⟩
                  have u0 := k3.cell t0
                  have u6 := k3.cell n6
                  have u4 := k3.cell x4
                  clear t0 n0 n1 n2 n3 n4 n5 n6 x4
                  go_wp2_with fail
                  refine (FC _ k3).mono ?_
                  rintro e w4 ⟨rfl, rfl⟩
                  obtain ⟨dv2, ev2, m0, -, -, -, -, m5, -, mb, -⟩ := NX w4 k3
                  have HRS4 := Hid.mk (HRS.out.keep k3)
                  have K4 := HKW.out.trans k3
                  have HK4 := Hid.mk K4
                  clear NX HRS FC KC k3 K4
                  go_upto_region 19 with fail
                  obtain ⟨cd, hcd⟩ : ∃ cd, cd = decide (N.kind = 3 ∧ (rest ≠ [] ∨ fl = true)) := ⟨_, rfl⟩
                  have HCD := Hid.mk hcd
                  clear hcd
                  go_cut [90] from 19 to 115 (fun cv wx => cv = .bool cd ∧ wx = w4)
                  case first => as_aux_lemma =>
                    by_cases hk3 : N.kind = 3
                    · have z1 : ((N.kind : Int) == 3) = true := by simp; omega
                      by_cases hr0 : rl = 0
                      · have z2 : decide ((rl : Int) > 0) = false := decide_eq_false (by omega)
                        have e : cd = fl := by
                          rw [HCD.out]
                          have hrn : rest = [] := List.eq_nil_of_length_eq_zero (by rw [← HRL.out]; exact hr0)
                          cases fl <;> simp [hk3, hrn]
                        have HE := Hid.mk e
                        clear e hk3
                        subst hr0
                        go_wp2_with fail
                        go_meet
                        case rel => rw [HE.out]; exact ⟨rfl, rfl⟩
                      · have z2 : (rl : Int) > 0 := by omega
                        have e : cd = true := by
                          rw [HCD.out]
                          have hrn : rest ≠ [] := fun e => hr0 (by rw [HRL.out, e]; rfl)
                          simp [hk3, hrn]
                        subst e
                        clear hk3 hr0
                        go_wp2_with fail
                        go_meet
                        case rel => exact ⟨rfl, rfl⟩
                    · have z1 : ((N.kind : Int) == 3) = false := by simp; omega
                      have e : cd = false := by rw [HCD.out]; simp [hk3]
                      subst e
                      clear hk3
                      go_wp2_with fail
                      go_meet
                      case rel => exact ⟨rfl, rfl⟩
                  case rest => as_aux_lemma =>
                    obtain ⟨rfl, rfl⟩ := hcut
                    cases cd with
                    | false =>
                      have HRN := Hid.mk (HWF.out (of_decide_eq_false HCD.out.symm))
                      go_wp2_with fail
                      go_roundg (hh * 100000000 + rest.length)
                      case measure => rw [HGK.out, List.length_cons]; omega
                      case rel => exact ⟨hh, rest, nx, hp, rfl, HRN.out, HHP.out, HRS4.out, rfl, rfl, hnl, by rw [← HRL.out]; omega, hnr.out, HK4.out⟩
                    | true =>
                      have hcc := of_decide_eq_true HCD.out.symm
                      by_cases h0 : hh = 0
                      · have HRN := Hid.mk (HWL.out hcc h0)
                        have z1 : ((hp + 1 : Nat) : Int) > 8 := by have := HHP.out; omega
                        have z2 : IntKind.i64.wrap ((hp : Int) + 1) = ((hp + 1 : Nat) : Int) := by have := HHP.out; rw [IntKind.wrap_i64] <;> omega
                        clear h0 hcc
                        generalize hp + 1 = hp1 at *
                        go_wp2_with fail
                        go_ret2
                        rw [HRN.out]
                        exact ⟨rfl, HK4.out⟩
                      · obtain ⟨h', hh'⟩ : ∃ h', hh = h' + 1 := ⟨hh - 1, by omega⟩
                        have HRN := Hid.mk (HWH.out hcc h' hh')
                        obtain ⟨lne, ll⟩ := lk3 hcc.1
                        have hp8 : hp + 1 ≤ 8 := by have := HHP.out; omega
                        have HHP2 : Hid (hp + 1 + h' = 8) := Hid.mk (by have := HHP.out; omega)
                        have HGK2 : Hid (hh * 100000000 = h' * 100000000 + 100000000) := Hid.mk (by rw [hh']; omega)
                        have z1 : ¬ ((hp + 1 : Nat) : Int) > 8 := by omega
                        have z2 : IntKind.i64.wrap ((hp : Int) + 1) = ((hp + 1 : Nat) : Int) := by rw [IntKind.wrap_i64] <;> omega
                        have cv := run_conv mb
                        have SC := split_c N.data wc (by omega)
                        obtain ⟨x0, dt, hdt⟩ : ∃ x0 dt, N.data = x0 :: dt := by
                          cases hN : N.data with
                          | nil => exact absurd hN lne
                          | cons x0 dt => exact ⟨x0, dt, rfl⟩
                        have sl1 := splitF_le N.data
                        have hrl2 : rl ≤ 1002400 := by omega
                        have HTL : Hid (rl + 1 + 300 ≤ 1000000 + 300 * (hp + 1)) := Hid.mk (by omega)
                        clear hcc h0 hh' lne lk3
                        generalize hnd : N.data = ND at *
                        generalize hp + 1 = hp1 at *
                        obtain ⟨a', ha'⟩ : ∃ a', a' = if ND.headD 0 = 47 then 0 else a := ⟨_, rfl⟩
                        rw [← ha'] at HRN
                        have hal : a' < T.length := by rw [ha']; split; exact hroot; exact ha
                        have HA := Hid.mk ha'
                        clear ha' hnd
                        subst hdt
                        have b8 := UInt8.toNat_lt x0
                        go_upto_if 106 with fail
                        go_cut [9] from 19 to 115 (fun av wx => av = .int .i64 (a' : Nat) ∧ wx = wc)
                        case first => as_aux_lemma =>
                          by_cases hx : x0 = 47
                          · have e : a' = 0 := by rw [HA.out]; simp [hx]
                            subst e
                            have z3 : ((x0.toNat : Int) == 47) = true := by rw [hx]; rfl
                            clear hx
                            go_wp2_with fail
                            go_meet
                            case rel => exact ⟨rfl, rfl⟩
                          · have e : a' = a := by rw [HA.out]; simp [hx]
                            have HE := Hid.mk e
                            clear e
                            have z3 : ((x0.toNat : Int) == 47) = false := by
                              simp only [beq_eq_false_iff_ne, ne_eq]
                              intro e
                              exact hx (UInt8.toNat_inj.1 (by have : x0.toNat = 47 := (by omega); simpa using this))
                            clear hx
                            go_wp2_with fail
                            go_meet
                            case rel => rw [HE.out]; exact ⟨rfl, rfl⟩
                        case rest => as_aux_lemma =>
                          obtain ⟨rfl, rfl⟩ := hcut
                          obtain ⟨W9, hW9⟩ : ∃ W9, W9 = wc := ⟨_, rfl⟩
                          subst hW9
                          generalize x0 :: dt = ND at *
                          have hrn : Sl W9 (.slice ta rl tc') (rest.map str) := HRS4.out
                          go_wp2_with fail
                          refine SC.mono ?_
                          rintro e w5 ⟨sv, rfl, os, k5⟩
                          obtain ⟨sl2, sl3⟩ := sl1
                          generalize splitF ND = sp at *
                          have hrn5 := hrn.keep k5
                          have hz5 := k5.size
                          have lr : (rest.map str).length = rl := by rw [List.length_map, HRL.out]
                          have ls : (sp.map str).length = sp.length := List.length_map _
                          have nil5 : Own W9.heap.size 9 w5 (.slice none 0 0) [] := World.ownsRow_nil _ _ _ _
                          have HLR := Hid.mk lr
                          have HLS := Hid.mk ls
                          clear lr ls
                          go_wp2_with (first
                            | ((fail_if_success have := hown1); at_builtin; refine wpList_app (by rfl) _ _ _ (by rfl) Try.underlying121 inf9 rfl W9.heap.size nil5 os.sl (str_one _) (by rfl) (by rfl) (by have := HLS.out; simp only [List.length_nil, maxLen]; omega) (by have := HLS.out; simp only [List.length_nil]; omega) hz5 ?_; intro v1 w6 hown1 hgr1 hob1; have k6 : Keep W9 w6 := k5.grown hgr1 (fun q hq => by simp [Value.ownBlock] at hq); have hz6 := k6.size; rw [List.nil_append] at hown1)
                            | (at_builtin; refine wpList_app (by rfl) _ _ _ (by rfl) Try.underlying121 inf9 rfl W9.heap.size hown1 (hrn.keep k6) (str_one _) (by rfl) (by rfl) (by have := HLS.out; have := HLR.out; simp only [maxLen]; omega) (by have := HLS.out; have := HLR.out; omega) hz6 ?_; intro v2 w7 hown2 hgr2 hob2; have k7 : Keep W9 w7 := k6.grown hgr2 (fun q hq => (hown1.lt q hq).1)))
                          go_roundg (h' * 100000000 + (sp ++ rest).length)
                          case measure => rw [HGK.out, List.length_cons, List.length_append, ← HRL.out]; have := HGK2.out; omega
                          case rel => exact ⟨h', sp ++ rest, a', hp1, rfl, HRN.out, HHP2.out, by rw [List.map_append]; exact hown2.sl, rfl, rfl, hal, by have := HTL.out; rw [List.length_append, ← HRL.out]; omega, fun x hx => by
                            rcases List.mem_append.1 hx with h | h
                            · have := sl3 x h; omega
                            · exact hnr.out x h, HK4.out.trans k7⟩
              · have q4 : (er != 0) = true := by simp [he]
                have HRN : Hid (R = (0, er)) := Hid.mk (by rw [HR.out, wf_bad hkd hd1 hd2 (by rw [← HKE.out]; exact he), HKE.out])
                clear hkd HR hd1 hd2 he
                go_wp2_with fail
                refine (KC _).mono ?_
                rintro e w3 ⟨rfl, k3⟩
                go_wp2_with fail
                go_ret2
                rw [HRN.out]
                exact ⟨rfl, HKW.out.trans k3⟩
        · have q1 : (((at' T a).kind : Int) != 2) = true := by simp; omega
          have HRN : Hid (R = (0, 7)) := Hid.mk (by rw [HR.out, wf_dir hkd])
          clear hkd HR
          go_wp2_with fail
          go_ret2
          rw [HRN.out]
          exact ⟨rfl, HKW.out⟩
end Go.Proofs.Qxb6500767a
