/- foldindex: Cached, Sound. -/
import Derived.Test.Qxb6500766aSo
import Derived.Deep.RegionHeld3
namespace Go.Proofs.Qxb6500766a
open Go.RowKit Go.Qm
set_option linter.unusedVariables false
set_option linter.unusedSimpArgs false
attribute [local go_sem ↓] Go.wp_at_zero Go.wp_at_succ
section
variable {B : Nat} {w : World} {gs gc ck : Nat} {R : Sys} {sh : List Shelf} {tl : List Value} {G : Nat → Option Tb}
def CachP (w : World) (e : Ending) (w' : World) : Prop := ∃ c : Nat, e = .returned (.int .i64 (c : Int)) ∧ c ≤ 16 ∧ w' = w
set_option maxRecDepth 4000 in
set_option maxHeartbeats 2000000 in
theorem cached_c (C : CW B w gs gc ck R sh tl G) : Calls Try.prog 18 #[.pointer (some ⟨gc, 0, none⟩)] w fun e w' => CachP w e w' := by
  have HL := Hid.mk C.len
  have hA := C.A
  go_enter Try.func18, Try.ntmps18
  go_wp2_with fail
  go_loopg [3, 4] 16 (fun gk nv iv wr => ∃ k c : Nat, k + gk = 16 ∧ iv = .int .i64 k ∧ nv = .int .i64 c ∧ c ≤ k ∧ wr = w)
  case atStart => exact ⟨0, 0, by omega, rfl, rfl, by omega, rfl⟩
  case round =>
    obtain ⟨k, c, hk, rfl, rfl, hc, rfl⟩ := hrel
    have HK := Hid.mk hk
    clear hk
    by_cases hlt : k < 16
    · have i1 : (k : Int) < 16 := by omega
      have hks : k < sh.length := by have := HL.out; omega
      obtain ⟨c0, -, -, -, -, -⟩ := Arr.shelf hA hks
      generalize sh[k].used = u at *
      cases u with
      | false =>
        go_wp2_with fail
        go_roundg (gk - 1)
        case measure => have := HK.out; omega
        case rel => exact ⟨k + 1, c, by have := HK.out; omega, by go_num, rfl, by omega, rfl⟩
      | true =>
        go_wp2_with fail
        go_roundg (gk - 1)
        case measure => have := HK.out; omega
        case rel => exact ⟨k + 1, c + 1, by have := HK.out; omega, by go_num, by go_num, by omega, rfl⟩
    · have i1 : ¬ (k : Int) < 16 := by omega
      go_wp2_with fail
      go_ret
      exact ⟨c, rfl, by have := HK.out; omega, rfl⟩
theorem live_key {ss : List Slot} {D : Dir} (h : Right (LiveL ss) D) {s : Slot} (hs : s ∈ LiveL ss) {e : Ent} (he : e ∈ s.es) : keyF e.raw = some s.key := by
  rw [h.es s hs] at he
  obtain ⟨l, hl, r, hr, hk, rfl⟩ := mem_bear.1 he
  exact hk
theorem slot_read {b : Nat} {ss : List Slot} {D : Dir} (h : TabW B w b ss D) (DK : DirOK D) {i : Nat} (hi : i < ss.length) : ∃ a c, ss[i].lv = .slice a ss[i].es.length c ∧ ss[i].es.length ≤ c ∧ c ≤ 2 ^ 63 - 1 ∧ (∀ k (hk : k < ss[i].es.length), ∃ g, a = some ⟨g, 0, none⟩ ∧ g < w.heap.size ∧ ∀ W : World, W.heap[g]? = w.heap[g]? → W.cell? ⟨g, k * 3, none⟩ = some (.int .i64 ss[i].es[k].layer) ∧ W.cell? ⟨g, k * 3 + 1, none⟩ = some (str ss[i].es[k].raw) ∧ W.cell? ⟨g, k * 3 + 2, none⟩ = some (.int .i64 ss[i].es[k].kind)) ∧ ss[i].es.length ≤ 96 ∧ ∀ e ∈ ss[i].es, keyF e.raw = some ss[i].key ∧ e.raw.length ≤ 1000000 := by
  by_cases h1 : ss[i].st = 1
  · have hm := mem_LiveL.2 ⟨List.getElem_mem hi, h1⟩
    obtain ⟨a, c, e1, e2, e3, e4⟩ := ent_read (h.own _ hm)
    refine ⟨a, c, e1, e2, e3, e4, by rw [h.rt.es _ hm]; exact bear_le DK.len _, fun e he => ⟨live_key h.rt hm he, ?_⟩⟩
    rw [h.rt.es _ hm] at he
    obtain ⟨l, hl, r, hr, _, rfl⟩ := mem_bear.1 he
    exact DK.nm l hl r hr
  · obtain ⟨e1, e2, e3⟩ := h.tv.nl _ (List.getElem_mem hi) h1
    rw [e2, e3]
    exact ⟨none, 0, rfl, by simp, by omega, fun k hk => by simp at hk, by simp, fun e he => by simp at he⟩
set_option maxRecDepth 4000 in
set_option maxHeartbeats 4000000 in
theorem soundC_c (C : CW B w gs gc ck R sh tl G) (DK : ∀ d, d < 24 → DirOK (R d)) : Calls Try.prog 19 #[.pointer (some ⟨gc, 0, none⟩)] w fun e w' => e = .returned (.bool true) ∧ Keep w w' := by
  have HL := Hid.mk C.len
  have HC := Hid.mk C
  have HDK := Hid.mk DK
  clear DK
  go_enter Try.func19, Try.ntmps19
  go_wp2_with fail
  go_loopg [3] 16 (fun gk iv wr => ∃ i : Nat, i + gk = 16 ∧ iv = .int .i64 i ∧ Keep w wr)
  case atStart => exact ⟨0, by omega, rfl, Keep.refl _⟩
  case round =>
    obtain ⟨i, hk, rfl, kw⟩ := hrel
    have HK := Hid.mk hk
    clear hk C
    by_cases hlt : i < 16
    · have i1 : (i : Int) < 16 := by omega
      have his : i < sh.length := by have := HL.out; omega
      have C1 := HC.out.keep kw
      obtain ⟨c0, c1, c2, c3, c4, c5⟩ := Arr.shelf C1.A his
      have hgd : sh.getD i sh0 = sh[i] := by rw [List.getD_eq_getElem?_getD, List.getElem?_eq_getElem his]; rfl
      cases hG : G i with
      | none =>
        have hu := HC.out.no i hlt hG
        unfold shU at hu
        rw [hgd] at hu
        rw [hu] at c0
        clear hu hG hgd C1 c1 c2 c3 c4 c5
        go_wp2_with fail
        go_roundg (gk - 1)
        case measure => have := HK.out; omega
        case rel => exact ⟨i + 1, by have := HK.out; omega, by go_num, kw⟩
      | some t =>
        have ok := (HC.out.ok i t hG).2
        have hTW := Hid.mk ok.tab
        rw [hgd] at ok
        rw [ok.used] at c0
        rw [ok.dir] at c1
        rw [ok.sv] at c3
        have hst1 := ok.st1
        have hst0 := ok.st0
        have hd24 := ok.d24
        have HD := Hid.mk (HDK.out t.dir ok.d24)
        have tcell := C1.cells hG
        have d1 := Hid.mk ((Go.Qm.Arr.cell C1.A _).trans tcell.c1)
        have d2 := Hid.mk ((Go.Qm.Arr.cell C1.A _).trans tcell.c2)
        have VD := Hid.mk (fun W => validDir_c t.dir W)
        have SE : Hid (∀ W, Keep w W → Calls Try.prog 40 #[.pointer (some ⟨gc, 0, none⟩), .int .i64 (t.dir : Int)] W fun e w' => e = .returned (.int .i64 (i : Int)) ∧ w' = W) := Hid.mk (fun W k => (seatG_c t.dir W (HC.out.keep k)).mono (fun e w' q => ⟨by
          rcases q.1 with ⟨j, u, hj, he, hu, hud⟩ | ⟨he, hno⟩
          · have e1 : u.dir = t.dir := by omega
            have := HC.out.ds j i u t hu hG e1
            rw [he, this]
          · exact absurd rfl (hno i t hG), q.2⟩))
        have SO : Hid (∀ W, Keep w W → Calls Try.prog 41 #[.pointer (some ⟨gc, 1 + i * 6 + 3, none⟩)] W fun e w' => e = .returned (.bool true) ∧ Keep W w') := Hid.mk (fun W k => by
          have CW := HC.out.keep k
          have tc := CW.cells hG
          exact sound_c B gc (1 + i * 6 + 3) t.b t.ss (R t.dir) W (CW.tcell hG) ((Go.Qm.Arr.cell CW.A _).trans tc.c1) ((Go.Qm.Arr.cell CW.A _).trans tc.c2) (hTW.out.keep k) (HDK.out t.dir ok.d24))
        obtain ⟨ck0, hck0⟩ : ∃ x, x = (ck : Int) := ⟨_, rfl⟩
        obtain ⟨x0, x1, x2, x3, x4, x5, htl⟩ := HC.out.tl
        have clk := Arr.tl C1.A C1.len 0
        rw [htl] at clk
        simp only [tlL, List.getElem?_cons_zero, Nat.add_zero] at clk
        rw [← hck0] at clk hst1
        have t1 : decide (ck0 < sh[i].stamp) = false := decide_eq_false (by omega)
        have t1' : decide (sh[i].stamp > ck0) = false := decide_eq_false (by omega)
        have t2 : ((i : Int) != (i : Int)) = false := by simp
        have vd : dirB (t.dir : Int) = true := by simp [dirB]; omega
        rw [vd] at VD
        have HG := Hid.mk hG
        clear hG hgd ok C1 c4 c5 tcell hck0 htl vd hst1
        generalize sh[i].stamp = st at *
        obtain ⟨td, tb, ts⟩ := t
        simp only at hTW HD d1 d2 VD SE SO c1 c3 hd24
        go_upto_region 6 with fail
        go_region_held3 (fun w' => w'.cell? ⟨gc, 1 + i * 6 + 1, none⟩ = some (.int .i64 (td : Int)) ∧ w'.cell? ⟨gc, 1 + i * 6 + 2, none⟩ = some (.int .u64 st) ∧ w'.cell? ⟨gc, 97, none⟩ = some (.int .u64 ck0))
          (first | exact ⟨q4.cell c1, q4.cell c2, q4.cell clk⟩ | exact ⟨q3.cell c1, q3.cell c2, q3.cell clk⟩ | exact ⟨q2.cell c1, q2.cell c2, q2.cell clk⟩ | exact ⟨c1, c2, clk⟩)
          (first
          | (go_at_call 39; refine (VD.out _).mono ?_; rintro e w2 ⟨rfl, h2⟩; have q2 : Keep wr w2 := (by rw [h2]; exact (Keep.refl wr).drew); clear h2)
          | (go_at_call 40; refine (SE.out _ (kw.trans q2)).mono ?_; rintro e w3 ⟨rfl, h3⟩; have q3 : Keep wr w3 := (by rw [h3]; exact q2); clear h3)
          | (go_at_call 41; refine (SO.out _ (kw.trans q3)).mono ?_; rintro e w4 ⟨rfl, h4⟩; have q4 := q3.trans h4))
        have kw4 := kw.trans q4
        have b3 := q4.cell c3
        have HB3 : Hid (∀ W, Keep w4 W → W.cell? ⟨gc, 1 + i * 6 + 3, none⟩ = some (.slice (some ⟨tb, 0, none⟩) ts.length ts.length)) := Hid.mk (fun W k => k.cell b3)
        have hts : ts.length ≤ 2 ^ 20 := by
          obtain ⟨m, _, h20, e⟩ := hTW.out.tv.pow
          rw [e]; exact Nat.pow_le_pow_right (by omega) h20
        have HSR := Hid.mk (fun k (hk : k < ts.length) => slot_read hTW.out HD.out hk)
        have HSL : Hid (∀ W, Keep w W → Slots W tb ts) := Hid.mk (fun W k => hTW.out.S.keep k)
        clear c0 c1 c2 c3 clk t1 t1' t2 b3
        obtain ⟨n, hn⟩ : ∃ n, n = ts.length := ⟨_, rfl⟩
        rw [← hn] at hts HB3
        have HN := Hid.mk hn
        clear hn
        have b3 := HB3.out w4 (Keep.refl _)
        go_wp2_with fail
        obtain ⟨gO, hgO⟩ : ∃ g, g = gk := ⟨_, rfl⟩
        subst hgO
        clear b3
        go_loopg [5] n (fun gk kv wx => ∃ k : Nat, k + gk = n ∧ kv = .int .i64 k ∧ Keep w4 wx)
        case atStart => exact ⟨0, by omega, rfl, Keep.refl _⟩
        case round =>
          obtain ⟨k, hk8, rfl, kx⟩ := hrel
          have HK8 := Hid.mk hk8
          clear hk8
          have b3 := HB3.out _ kx
          by_cases hkn : k < n
          · have j1 : (k : Int) < n := by omega
            have hkt : k < ts.length := by have := HN.out; omega
            obtain ⟨s0, s1, s2, s3⟩ := (HSL.out _ (kw4.trans kx)).at k hkt
            obtain ⟨aE, cE, e1, hcE, hmE, hrE, hbl, hke⟩ := HSR.out k hkt
            rw [e1] at s3
            have HRE := Hid.mk hrE
            have HKE := Hid.mk hke
            clear e1 hrE hke s0 s1
            generalize ts[k] = X at *
            obtain ⟨xst, xh, xk, xlv, xes⟩ := X
            simp only at s2 s3 hcE hbl HRE HKE
            obtain ⟨nE, hnE⟩ : ∃ n, n = xes.length := ⟨_, rfl⟩
            rw [← hnE] at s3 hcE hbl
            have HNE := Hid.mk hnE
            clear hnE
            have HS2 : Hid (∀ W, Keep wr W → W.cell? ⟨tb, k * 4 + 2, none⟩ = some (str xk)) := Hid.mk (fun W q => q.cell s2)
            go_wp2_with fail
            obtain ⟨gP, hgP⟩ : ∃ g, g = gk := ⟨_, rfl⟩
            subst hgP
            obtain ⟨W0, hW0⟩ : ∃ W, W = wr := ⟨_, rfl⟩
            subst hW0
            clear b3 s2 s3
            go_loopg [78] nE (fun gk jv wy => ∃ j : Nat, j + gk = nE ∧ jv = .int .i64 j ∧ Keep W0 wy)
            case atStart => exact ⟨0, by omega, rfl, Keep.refl _⟩
            case round =>
              obtain ⟨j, hj8, rfl, ky⟩ := hrel
              have HJ8 := Hid.mk hj8
              clear hj8
              by_cases hjn : j < nE
              · have j2 : (j : Int) < nE := by omega
                have hjx : j < xes.length := by have := HNE.out; omega
                obtain ⟨gE, rfl, hgE, hr1⟩ := HRE.out j hjx
                have hb := ((kw4.trans kx).trans ky).block gE hgE
                obtain ⟨p0, p1, p2⟩ := hr1 wr hb
                obtain ⟨hkk, hrl⟩ := HKE.out _ (List.getElem_mem hjx)
                have KC := fun W => key_c xes[j].raw W hrl
                rw [hkk] at KC
                clear hr1 hkk hrl
                generalize xes[j] = P at *
                obtain ⟨pl, pr, pk⟩ := P
                simp only at p0 p1 p2 KC
                have k5 := (Keep.refl wr).alloc (.cells #[.int .i64 pl, str pr, .int .i64 pk] 64)
                go_wp2_with fail
                generalize wr.alloc (.cells #[.int .i64 pl, str pr, .int .i64 pk] 64) = w5 at *
                refine (KC _).mono ?_
                rintro e w6 ⟨hK, k6⟩
                have ky6 := (ky.trans k5).trans k6
                have b3 := HB3.out _ (kx.trans ky6)
                have s2 := HS2.out _ ky6
                have t1 : (xk != xk) = false := by simp
                have t2 : (xk == xk) = true := by simp
                clear p0 p1 p2
                rcases hK with ⟨hK, rfl⟩ | ⟨k', hK, rfl⟩
                · cases hK
                · have e' : xk = k' := Option.some.inj hK
                  subst e'
                  clear hK
                  go_wp2_with fail
                  go_roundg (gk - 1)
                  case measure => have := HJ8.out; omega
                  case rel => exact ⟨j + 1, by have := HJ8.out; omega, by go_num, ky6⟩
              · have j2 : ¬ (j : Int) < nE := by omega
                go_wp2_with fail
                go_roundg (gP - 1)
                case measure => have := HK8.out; omega
                case rel => exact ⟨k + 1, by have := HK8.out; omega, by go_num, kx.trans ky⟩
          · have j1 : ¬ (k : Int) < n := by omega
            go_wp2_with fail
            go_roundg (gO - 1)
            case measure => have := HK.out; omega
            case rel => exact ⟨i + 1, by have := HK.out; omega, by go_num, kw4.trans kx⟩
    · have i1 : ¬ (i : Int) < 16 := by omega
      go_wp2_with fail
      go_ret
      exact ⟨rfl, kw⟩
end
end Go.Proofs.Qxb6500766a
