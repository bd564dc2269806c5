/- blast: States. -/
import Derived.Test.Qxb6500772aSc
import Derived.Test.Qxb6500772aIc
import Derived.BigRegion
namespace Go.Proofs.Qxb6500772a
open Go.RowKit Go.Qm
set_option linter.unusedVariables false
set_option linter.unusedSimpArgs false
attribute [local go_sem ↓] Go.wp_at_zero Go.wp_at_succ
/-- Two states that are read back, in memory. -/
structure RDI (w : World) (N g4 g5 gC g6 gN g7 z : Nat) (wr : World) (S T : PS) : Prop where
  kp : Keep w wr
  zv : z ≤ wr.heap.size
  aC : Arr wr gC 28 (S.cells.map uv)
  aN : Arr wr gN 28 (T.cells.map uv)
  a6 : Arr wr g6 37 [.slice (some ⟨gC, 0, none⟩) N N, .bool S.fault]
  a7 : Arr wr g7 37 [.slice (some ⟨gN, 0, none⟩) N N, .bool T.fault]
  a4 : Arr wr g4 37 [.slice none 0 0, .bool false]
  a5 : Arr wr g5 37 [.slice none 0 0, .bool false]
structure RDG (w : World) (g4 g5 gC g6 gN g7 z : Nat) : Prop where
  e4 : g4 = w.heap.size
  e5 : g5 = g4 + 1
  eC : gC = g4 + 2
  e6 : g6 = g4 + 3
  eN : gN = g4 + 4
  e7 : g7 = g4 + 5
  ez : z = g4 + 6
section
variable {w wr w' : World} {N g4 g5 gC g6 gN g7 z : Nat} {S T : PS}
theorem RDI.keep (h : RDI w N g4 g5 gC g6 gN g7 z wr S T) (k : Keep wr w') : RDI w N g4 g5 gC g6 gN g7 z w' S T := ⟨h.kp.trans k, Nat.le_trans h.zv k.size, h.aC.keep k, h.aN.keep k, h.a6.keep k, h.a7.keep k, h.a4.keep k, h.a5.keep k⟩
theorem fr1 (wr : World) (g i : Nat) (u : Value) : Fr (fun q => q = g) wr (wr.setCell ⟨g, i, none⟩ u) := Fr.setCell (P := fun q => q = g) (p := ⟨g, i, none⟩) (Fr.refl _ wr) (Or.inl rfl) _
theorem RDI.setC (h : RDI w N g4 g5 gC g6 gN g7 z wr S T) (g : RDG w g4 g5 gC g6 gN g7 z) (c x : Nat) : RDI w N g4 g5 gC g6 gN g7 z (wr.setCell ⟨gC, c, none⟩ (.int .u64 ((x : Nat) : Int))) ⟨S.cells.set c x, S.fault⟩ T := by
  obtain ⟨e4, e5, eC, e6, eN, e7, ez⟩ := g
  have f := fr1 wr gC c (.int .u64 ((x : Nat) : Int))
  refine ⟨h.kp.setCell (p := ⟨gC, c, none⟩) (by show _ ≤ gC; omega) _, Nat.le_trans h.zv f.size, ?_, f.arr (by omega) h.aN, f.arr (by omega) h.a6, f.arr (by omega) h.a7, f.arr (by omega) h.a4, f.arr (by omega) h.a5⟩
  have h9 := h.aC.set c (.int .u64 ((x : Nat) : Int))
  rw [List.map_set]
  exact h9
theorem RDI.setN (h : RDI w N g4 g5 gC g6 gN g7 z wr S T) (g : RDG w g4 g5 gC g6 gN g7 z) (c x : Nat) : RDI w N g4 g5 gC g6 gN g7 z (wr.setCell ⟨gN, c, none⟩ (.int .u64 ((x : Nat) : Int))) S ⟨T.cells.set c x, T.fault⟩ := by
  obtain ⟨e4, e5, eC, e6, eN, e7, ez⟩ := g
  have f := fr1 wr gN c (.int .u64 ((x : Nat) : Int))
  refine ⟨h.kp.setCell (p := ⟨gN, c, none⟩) (by show _ ≤ gN; omega) _, Nat.le_trans h.zv f.size, f.arr (by omega) h.aC, ?_, f.arr (by omega) h.a6, f.arr (by omega) h.a7, f.arr (by omega) h.a4, f.arr (by omega) h.a5⟩
  have h9 := h.aN.set c (.int .u64 ((x : Nat) : Int))
  rw [List.map_set]
  exact h9
theorem RDI.flt6 (h : RDI w N g4 g5 gC g6 gN g7 z wr S T) (g : RDG w g4 g5 gC g6 gN g7 z) : RDI w N g4 g5 gC g6 gN g7 z (wr.setCell ⟨g6, 1, none⟩ (.bool true)) ⟨S.cells, true⟩ T := by
  obtain ⟨e4, e5, eC, e6, eN, e7, ez⟩ := g
  have f := fr1 wr g6 1 (.bool true)
  exact ⟨h.kp.setCell (p := ⟨g6, 1, none⟩) (by show _ ≤ g6; omega) _, Nat.le_trans h.zv f.size, f.arr (by omega) h.aC, f.arr (by omega) h.aN, h.a6.set 1 (.bool true), f.arr (by omega) h.a7, f.arr (by omega) h.a4, f.arr (by omega) h.a5⟩
theorem RDI.flt7 (h : RDI w N g4 g5 gC g6 gN g7 z wr S T) (g : RDG w g4 g5 gC g6 gN g7 z) : RDI w N g4 g5 gC g6 gN g7 z (wr.setCell ⟨g7, 1, none⟩ (.bool true)) S ⟨T.cells, true⟩ := by
  obtain ⟨e4, e5, eC, e6, eN, e7, ez⟩ := g
  have f := fr1 wr g7 1 (.bool true)
  exact ⟨h.kp.setCell (p := ⟨g7, 1, none⟩) (by show _ ≤ g7; omega) _, Nat.le_trans h.zv f.size, f.arr (by omega) h.aC, f.arr (by omega) h.aN, f.arr (by omega) h.a6, h.a7.set 1 (.bool true), f.arr (by omega) h.a4, f.arr (by omega) h.a5⟩
end
theorem vs_arr {w : World} {g N : Nat} {l : List Nat} (h : Arr w g 28 (l.map uv)) (hl : l.length = N) (hN : N ≤ 1000000) : Vs w (.slice (some ⟨g, 0, none⟩) N N) l := by
  refine ⟨some ⟨g, 0, none⟩, N, by simp [hl], by simp [hl], by simp [maxLen]; omega, fun k u hu => ⟨g, 0, rfl, ?_⟩⟩
  rw [Nat.zero_add, h.cell, hu]
theorem orbit {x b : Nat} (hx : x < 2 ^ 64) (hb : b < 64) : bits .or .u64 (x : Int) (IntKind.u64.wrap (2 ^ b)) = ((x ||| 2 ^ b : Nat) : Int) := by
  have h1 : 2 ^ b ≤ 2 ^ 63 := Nat.pow_le_pow_right (by decide) (by omega)
  have e : (2 : Int) ^ b = ((2 ^ b : Nat) : Int) := by push_cast; rfl
  rw [e, wrap_u64' _ (by omega), bits_or_u64 _ _ hx (by omega)]
set_option maxRecDepth 4000 in
set_option maxHeartbeats 8000000 in
theorem states_c {w : World} {gS B N gW : Nat} {pv : Value} {pl : List PinV} (c1 : w.cell? ⟨gS, 1, none⟩ = some (.slice (some ⟨gW, 0, none⟩) N N)) (c12 : w.cell? ⟨gS, 12, none⟩ = some pv) (hp : OwnS pinVC 3 67 B w pv pl) {ia : Nat} {f : PinV → Bool} (hi : Sl w (.slice (some ⟨ia, 0, none⟩) pl.length pl.length) ((pl.map f).map bval)) (hN : N ≤ 1000000) (hpl : ∀ p ∈ pl, PinOK N p) (hll : pl.length ≤ 100000) :
    Calls Try.prog 21 #[.pointer (some ⟨gS, 0, none⟩), .slice (some ⟨ia, 0, none⟩) pl.length pl.length] w fun e w' => ∃ g1 g2 : Nat, e = .returned (.tuple #[.agg #[.slice (some ⟨g1, 0, none⟩) N N, .bool (rd1 N 0 f pl).fault], .agg #[.slice (some ⟨g2, 0, none⟩) N N, .bool (rd1 N 1 f pl).fault]]) ∧ Vs w' (.slice (some ⟨g1, 0, none⟩) N N) (rd1 N 0 f pl).cells ∧ Vs w' (.slice (some ⟨g2, 0, none⟩) N N) (rd1 N 1 f pl).cells ∧ Keep w w' := by
  have hpd : ∃ pa pc, pv = .slice pa pl.length pc ∧ ∀ k (hk : k < pl.length), ∃ g, pa = some ⟨g, 0, none⟩ ∧ ∀ Z, Keep w Z → Z.cell? ⟨g, k * 3, none⟩ = some (.int .i64 ((pl[k].1 : Nat) : Int)) ∧ Z.cell? ⟨g, k * 3 + 1, none⟩ = some (.int .i64 pl[k].2.1) ∧ Z.cell? ⟨g, k * 3 + 2, none⟩ = some (.int .i64 ((pl[k].2.2 : Nat) : Int)) := by
    rcases hp.form with ⟨rfl, rfl⟩ | ⟨g, cap, cu, rfl, hB, hA, h5, h6, h7, h8⟩
    · exact ⟨none, 0, rfl, fun k hk => by simp at hk⟩
    · refine ⟨_, cap, rfl, fun k hk => ⟨g, rfl, fun Z kz => ?_⟩⟩
      have x0 := flat_take_get pinVC_len h8 k 0 hk (by omega)
      rw [Nat.add_zero] at x0
      exact ⟨((hA.keep kz).cell _).trans x0, ((hA.keep kz).cell _).trans (flat_take_get pinVC_len h8 k 1 hk (by omega)), ((hA.keep kz).cell _).trans (flat_take_get pinVC_len h8 k 2 hk (by omega))⟩
  obtain ⟨pa, pc, rfl, hpc⟩ := hpd
  have HPC := Hid.mk hpc
  have HPL := Hid.mk hpl
  have HI : Hid (∀ k (hk : k < pl.length) Z, Keep w Z → Z.cell? ⟨ia, k, none⟩ = some (.bool (f pl[k]))) := Hid.mk (fun k hk Z kz => by
    obtain ⟨b, o, e, h⟩ := Sl.cellx (Sl.keep hi kz) (i := k) (by simp [hk])
    injection e with e
    injection e with e1 e2
    subst e1 e2
    simpa [bval] using h)
  have hmk := run_make1 (P := Try.prog) Try.underlying35 inf28 rfl (N : Int) (N : Int) (by omega) (by omega) (by omega) (by omega)
  simp only [Int.toNat_natCast] at hmk
  obtain ⟨W, hW⟩ : ∃ W, W = (w.alloc (.cells #[.slice none 0 0, .bool false] 37)).alloc (.cells #[.slice none 0 0, .bool false] 37) := ⟨_, rfl⟩
  obtain ⟨U, hU⟩ : ∃ U, U = (W.alloc (.cells (rep N (.int .u64 0)) 28)).alloc (.cells #[.slice (some ⟨W.heap.size, 0, none⟩) N N, .bool false] 37) := ⟨_, rfl⟩
  obtain ⟨V, hV⟩ : ∃ V, V = (U.alloc (.cells (rep N (.int .u64 0)) 28)).alloc (.cells #[.slice (some ⟨U.heap.size, 0, none⟩) N N, .bool false] 37) := ⟨_, rfl⟩
  have kW : Keep w W := by rw [hW]; exact ((Keep.refl w).alloc _).alloc _
  have kU : Keep W U := by rw [hU]; exact ((Keep.refl W).alloc _).alloc _
  have kV : Keep U V := by rw [hV]; exact ((Keep.refl U).alloc _).alloc _
  have sW : W.heap.size = w.heap.size + 2 := by rw [hW]; simp
  have sU : U.heap.size = W.heap.size + 2 := by rw [hU]; simp
  have sV : V.heap.size = U.heap.size + 2 := by rw [hV]; simp
  have a4 : Arr W w.heap.size 37 [.slice none 0 0, .bool false] := by rw [hW]; exact (Arr.new w 37 _).keep ((Keep.refl _).alloc _)
  have a5 : Arr W (w.heap.size + 1) 37 [.slice none 0 0, .bool false] := by
    have h9 := Arr.new (w.alloc (.cells #[.slice none 0 0, .bool false] 37)) 37 [.slice none 0 0, .bool false]
    rw [size_alloc1] at h9
    rw [hW]; exact h9
  have aC : Arr U W.heap.size 28 ((zPS N).cells.map uv) := by rw [hU]; simp only [zPS, List.map_replicate, uv]; rw [rep_eq]; exact (Arr.new W 28 _).keep ((Keep.refl _).alloc _)
  have a6 : Arr U (W.heap.size + 1) 37 [.slice (some ⟨W.heap.size, 0, none⟩) N N, .bool false] := by
    have h9 := Arr.new (W.alloc (.cells (rep N (.int .u64 0)) 28)) 37 [.slice (some ⟨W.heap.size, 0, none⟩) N N, .bool false]
    rw [size_alloc1] at h9
    rw [hU]; exact h9
  have aN : Arr V U.heap.size 28 ((zPS N).cells.map uv) := by rw [hV]; simp only [zPS, List.map_replicate, uv]; rw [rep_eq]; exact (Arr.new U 28 _).keep ((Keep.refl _).alloc _)
  have a7 : Arr V (U.heap.size + 1) 37 [.slice (some ⟨U.heap.size, 0, none⟩) N N, .bool false] := by
    have h9 := Arr.new (U.alloc (.cells (rep N (.int .u64 0)) 28)) 37 [.slice (some ⟨U.heap.size, 0, none⟩) N N, .bool false]
    rw [size_alloc1] at h9
    rw [hV]; exact h9
  have rd0 : RDI w N w.heap.size (w.heap.size + 1) W.heap.size (W.heap.size + 1) U.heap.size (U.heap.size + 1) V.heap.size V (zPS N) (zPS N) := ⟨(kW.trans kU).trans kV, Nat.le_refl _, aC.keep kV, aN, a6.keep kV, a7, (a4.keep kU).keep kV, (a5.keep kU).keep kV⟩
  have rg : RDG w w.heap.size (w.heap.size + 1) W.heap.size (W.heap.size + 1) U.heap.size (U.heap.size + 1) V.heap.size := ⟨rfl, rfl, by omega, by omega, by omega, by omega, by omega⟩
  have HRD := Hid.mk rd0
  have HRG := Hid.mk rg
  have p0 := kW.cell c1
  have p1 := (kW.trans kU).cell c1
  have p2 := ((kW.trans kU).trans kV).cell c12
  have li : (pl.length : Int) ≤ 100000 := by omega
  have hmW := hmk W
  have hmU := hmk U
  have HNN := Hid.mk hN
  clear hmk kW kU kV sW sU sV a4 a5 aC a6 aN a7 rd0 rg hp hi hpc hpl c1 c12
  go_enter Try.func21, Try.ntmps21
  go_upto_region 1 with fail
  rw [← hW]
  clear hW
  go_upto_region 2 with fail
  rw [← hU]
  clear hU p0 hmW
  go_upto_region 3 with fail
  rw [← hV]
  clear hV p1 hmU
  generalize V.heap.size = z at HRD HRG
  generalize U.heap.size + 1 = g7 at *
  generalize U.heap.size = gN at *
  generalize W.heap.size + 1 = g6 at *
  generalize W.heap.size = gC at *
  obtain ⟨g5, hg5⟩ : ∃ g5, g5 = w.heap.size + 1 := ⟨_, rfl⟩
  rw [← hg5] at HRD HRG ⊢
  obtain ⟨g4, hg4⟩ : ∃ g4, g4 = w.heap.size := ⟨_, rfl⟩
  rw [← hg4] at HRD HRG ⊢
  clear hg4 hg5
  go_wp2_with fail
  clear p2
  go_loopg [32] pl.length (fun gk v32 wr => ∃ (k : Nat), k + gk = pl.length ∧ v32 = .int .i64 k ∧ RDI w N g4 g5 gC g6 gN g7 z wr (rd1 N 0 f (pl.take k)) (rd1 N 1 f (pl.take k)))
  case atStart => exact ⟨0, by omega, rfl, HRD.out⟩
  case round =>
    obtain ⟨k, hk, rfl, rd⟩ := hrel
    have HKK := Hid.mk hk
    have HRD := Hid.mk rd
    clear hk
    by_cases hlt : k < pl.length
    · have j1 : (k : Int) < pl.length := by omega
      have j2 : (0 : Int) ≤ k := by omega
      have j3 : ¬ ((pl.length : Int) ≤ k) := by omega
      obtain ⟨pg, hpg, hcell⟩ := HPC.out k hlt
      subst hpg
      obtain ⟨c0, c1, c2⟩ := hcell wr rd.kp
      have hok := HPL.out _ (List.getElem_mem hlt)
      have hib := HI.out k hlt _ (rd.kp.alloc (.cells #[.int .i64 ((pl[k].1 : Nat) : Int), .int .i64 pl[k].2.1, .int .i64 ((pl[k].2.2 : Nat) : Int)] 67))
      have HT0 : Hid (rd1 N 0 f (pl.take (k + 1)) = rdQ 0 f (rd1 N 0 f (pl.take k)) pl[k]) := Hid.mk (by rw [List.take_succ_eq_append_getElem hlt, rd1_snoc])
      have HT1 : Hid (rd1 N 1 f (pl.take (k + 1)) = rdQ 1 f (rd1 N 1 f (pl.take k)) pl[k]) := Hid.mk (by rw [List.take_succ_eq_append_getElem hlt, rd1_snoc])
      have HL0 : Hid ((rd1 N 0 f (pl.take k)).cells.length = N ∧ ∀ c < N, (rd1 N 0 f (pl.take k)).at c < 2 ^ 64) := Hid.mk ⟨rd1_len _ _ _ _, fun c hc => rd1_lt f _ (fun p hp => HPL.out p (List.mem_of_mem_take hp)) hc⟩
      have HL1 : Hid ((rd1 N 1 f (pl.take k)).cells.length = N ∧ ∀ c < N, (rd1 N 1 f (pl.take k)).at c < 2 ^ 64) := Hid.mk ⟨rd1_len _ _ _ _, fun c hc => rd1_lt f _ (fun p hp => HPL.out p (List.mem_of_mem_take hp)) hc⟩
      generalize pl[k] = p at *
      generalize rd1 N 0 f (pl.take k) = S at *
      generalize rd1 N 1 f (pl.take k) = T at *
      obtain ⟨pr, pcell, pbit⟩ := p
      obtain ⟨hr, hcb⟩ := hok
      simp only at c0 c1 c2 hr hcb hib
      have HCB := Hid.mk hcb
      obtain ⟨Y, hY⟩ : ∃ Y, Y = wr.alloc (.cells #[.int .i64 ((pr : Nat) : Int), .int .i64 pcell, .int .i64 ((pbit : Nat) : Int)] 67) := ⟨_, rfl⟩
      rw [← hY] at hib
      have kY : Keep wr Y := by rw [hY]; exact (Keep.refl wr).alloc _
      have aP : Arr Y wr.heap.size 67 [.int .i64 ((pr : Nat) : Int), .int .i64 pcell, .int .i64 ((pbit : Nat) : Int)] := by rw [hY]; exact Arr.new wr 67 _
      obtain ⟨g9, hg9⟩ : ∃ g9, g9 = wr.heap.size := ⟨_, rfl⟩
      rw [← hg9] at aP
      have rdY := rd.keep kY
      have HRDY := Hid.mk rdY
      have n9 : z ≤ g9 := by rw [hg9]; exact rd.zv
      have y0 : Y.cell? ⟨g9, 0, none⟩ = some (.int .i64 ((pr : Nat) : Int)) := aP.cell 0
      have y1 : Y.cell? ⟨g9, 1, none⟩ = some (.int .i64 pcell) := aP.cell 1
      have y2 : Y.cell? ⟨g9, 2, none⟩ = some (.int .i64 ((pbit : Nat) : Int)) := aP.cell 2
      have HN9 := Hid.mk n9
      clear rd hcell hcb n9 kY aP
      go_upto_region 6 with fail
      rw [← hg9, ← hY]
      clear hg9 hY c0 c1 c2
      cases hf : f (pr, pcell, pbit) with
      | false =>
        rw [hf] at hib
        have HQ0 : Hid (rdQ 0 f S (pr, pcell, pbit) = S) := Hid.mk (by simp [rdQ, hf])
        have HQ1 : Hid (rdQ 1 f T (pr, pcell, pbit) = T) := Hid.mk (by simp [rdQ, hf])
        clear rdY hr y0 y1 y2 hf
        go_wp2_with fail
        go_roundg (gk - 1)
        case measure => have := HKK.out; omega
        case rel => exact ⟨k + 1, by have := HKK.out; omega, by go_num, by rw [HT0.out, HT1.out, HQ0.out, HQ1.out]; exact HRDY.out⟩
      | true =>
        rw [hf] at hib
        rcases hr with rfl | rfl
        · have HQ0 : Hid (rdQ 0 f S (0, pcell, pbit) = rdS S (0, pcell, pbit)) := Hid.mk (by simp [rdQ, hf])
          have HQ1 : Hid (rdQ 1 f T (0, pcell, pbit) = T) := Hid.mk (by simp [rdQ])
          have z0 : Y.cell? ⟨g6, 0, none⟩ = some (.slice (some ⟨gC, 0, none⟩) N N) := rdY.a6.cell 0
          have z1 : Y.cell? ⟨g6, 1, none⟩ = some (.bool S.fault) := rdY.a6.cell 1
          have z2 := rdY.a6.frozen 1
          clear hf
          rcases HCB.out with hcb | ⟨c, hcb, hcN, hb64⟩
          · subst hcb
            have HS : Hid (rdS S (0, -1, pbit) = ⟨S.cells, true⟩) := Hid.mk (by simp [rdS])
            clear rdY
            go_wp2_with fail
            go_roundg (gk - 1)
            case measure => have := HKK.out; omega
            case rel => exact ⟨k + 1, by have := HKK.out; omega, by go_num, by rw [HT0.out, HT1.out, HQ0.out, HQ1.out, HS.out]; exact HRDY.out.flt6 HRG.out⟩
          · subst hcb
            have m1 : (c : Int) < N := by omega
            have m2 : (0 : Int) ≤ c := by omega
            have m3 : ¬ ((c : Int) = -1) := by omega
            have m3' : ((c : Int) == -1) = false := by simp
            have HS : Hid (rdS S (0, (c : Int), pbit) = ⟨S.cells.set c (S.at c ||| 2 ^ pbit), S.fault⟩) := Hid.mk (by simp [rdS, m3])
            have xc : Y.cell? ⟨gC, c, none⟩ = some (.int .u64 ((S.at c : Nat) : Int)) := by
              rw [rdY.aC.cell, List.getElem?_map, List.getElem?_eq_getElem (by rw [HL0.out.1]; exact hcN)]
              simp [uv, PS.at, List.getD_eq_getElem?_getD, List.getElem?_eq_getElem (show c < S.cells.length by rw [HL0.out.1]; exact hcN)]
            have xz := rdY.aC.frozen c
            have bb := orbit (HL0.out.2 c hcN) hb64
            have n1 : gC ≠ g9 := by have h1 := HRG.out; have h2 := HN9.out; have := h1.eC; have := h1.ez; omega
            have n2 : gC ≠ g6 := by have h1 := HRG.out; have := h1.eC; have := h1.e6; omega
            have hgl : gC < Y.heap.size := rdY.aC.lt
            generalize S.at c = x at *
            generalize x ||| 2 ^ pbit = x' at *
            have b1 : (pbit : Int) < 64 := by omega
            have b2 : (0 : Int) ≤ pbit := by omega
            have wu : IntKind.u64.wrap (pbit : Int) = (pbit : Int) := by simp [IntKind.wrap, IntKind.signed, IntKind.bits]; omega
            clear rdY m3
            go_wp2_with fail
            go_region
            go_wp2_with fail
            go_roundg (gk - 1)
            case measure => have := HKK.out; omega
            case rel => exact ⟨k + 1, by have := HKK.out; omega, by go_num, by rw [HT0.out, HT1.out, HQ0.out, HQ1.out, HS.out]; exact (HRDY.out.setC HRG.out c x').keep ((Keep.refl _).drew)⟩
        · have HQ0 : Hid (rdQ 0 f S (1, pcell, pbit) = S) := Hid.mk (by simp [rdQ])
          have HQ1 : Hid (rdQ 1 f T (1, pcell, pbit) = rdS T (1, pcell, pbit)) := Hid.mk (by simp [rdQ, hf])
          have z0 : Y.cell? ⟨g7, 0, none⟩ = some (.slice (some ⟨gN, 0, none⟩) N N) := rdY.a7.cell 0
          have z1 : Y.cell? ⟨g7, 1, none⟩ = some (.bool T.fault) := rdY.a7.cell 1
          have z2 := rdY.a7.frozen 1
          clear hf
          rcases HCB.out with hcb | ⟨c, hcb, hcN, hb64⟩
          · subst hcb
            have HS : Hid (rdS T (1, -1, pbit) = ⟨T.cells, true⟩) := Hid.mk (by simp [rdS])
            clear rdY
            go_wp2_with fail
            go_roundg (gk - 1)
            case measure => have := HKK.out; omega
            case rel => exact ⟨k + 1, by have := HKK.out; omega, by go_num, by rw [HT0.out, HT1.out, HQ0.out, HQ1.out, HS.out]; exact HRDY.out.flt7 HRG.out⟩
          · subst hcb
            have m1 : (c : Int) < N := by omega
            have m2 : (0 : Int) ≤ c := by omega
            have m3 : ¬ ((c : Int) = -1) := by omega
            have m3' : ((c : Int) == -1) = false := by simp
            have HS : Hid (rdS T (1, (c : Int), pbit) = ⟨T.cells.set c (T.at c ||| 2 ^ pbit), T.fault⟩) := Hid.mk (by simp [rdS, m3])
            have xc : Y.cell? ⟨gN, c, none⟩ = some (.int .u64 ((T.at c : Nat) : Int)) := by
              rw [rdY.aN.cell, List.getElem?_map, List.getElem?_eq_getElem (by rw [HL1.out.1]; exact hcN)]
              simp [uv, PS.at, List.getD_eq_getElem?_getD, List.getElem?_eq_getElem (show c < T.cells.length by rw [HL1.out.1]; exact hcN)]
            have xz := rdY.aN.frozen c
            have bb := orbit (HL1.out.2 c hcN) hb64
            have n1 : gN ≠ g9 := by have h1 := HRG.out; have h2 := HN9.out; have := h1.eN; have := h1.ez; omega
            have n2 : gN ≠ g7 := by have h1 := HRG.out; have := h1.eN; have := h1.e7; omega
            have hgl : gN < Y.heap.size := rdY.aN.lt
            generalize T.at c = x at *
            generalize x ||| 2 ^ pbit = x' at *
            have b1 : (pbit : Int) < 64 := by omega
            have b2 : (0 : Int) ≤ pbit := by omega
            have wu : IntKind.u64.wrap (pbit : Int) = (pbit : Int) := by simp [IntKind.wrap, IntKind.signed, IntKind.bits]; omega
            clear rdY m3
            go_wp2_with fail
            go_region
            go_wp2_with fail
            go_roundg (gk - 1)
            case measure => have := HKK.out; omega
            case rel => exact ⟨k + 1, by have := HKK.out; omega, by go_num, by rw [HT0.out, HT1.out, HQ0.out, HQ1.out, HS.out]; exact (HRDY.out.setN HRG.out c x').keep ((Keep.refl _).drew)⟩
    · have j1 : ¬ (k : Int) < pl.length := by omega
      obtain rfl : k = pl.length := by have := HKK.out; omega
      rw [List.take_length] at HRD rd
      have HL0 : Hid ((rd1 N 0 f pl).cells.length = N) := Hid.mk (rd1_len _ _ _ _)
      have HL1 : Hid ((rd1 N 1 f pl).cells.length = N) := Hid.mk (rd1_len _ _ _ _)
      generalize hS0 : rd1 N 0 f pl = S at *
      generalize hT0 : rd1 N 1 f pl = T at *
      have HS0 := Hid.mk hS0
      have HT0 := Hid.mk hT0
      clear hS0 hT0
      have z0 : wr.cell? ⟨g6, 0, none⟩ = some (.slice (some ⟨gC, 0, none⟩) N N) := rd.a6.cell 0
      have z1 : wr.cell? ⟨g6, 1, none⟩ = some (.bool S.fault) := rd.a6.cell 1
      have z2 : wr.cell? ⟨g7, 0, none⟩ = some (.slice (some ⟨gN, 0, none⟩) N N) := rd.a7.cell 0
      have z3 : wr.cell? ⟨g7, 1, none⟩ = some (.bool T.fault) := rd.a7.cell 1
      have u0 : wr.cell? ⟨g4, 0, none⟩ = some (.slice none 0 0) := rd.a4.cell 0
      have u1 : wr.cell? ⟨g4, 1, none⟩ = some (.bool false) := rd.a4.cell 1
      have u2 : wr.cell? ⟨g5, 0, none⟩ = some (.slice none 0 0) := rd.a5.cell 0
      have u3 : wr.cell? ⟨g5, 1, none⟩ = some (.bool false) := rd.a5.cell 1
      have v0 := rd.a4.frozen 0
      have v1 := rd.a4.frozen 1
      have v2 := rd.a5.frozen 0
      have v3 := rd.a5.frozen 1
      have n1 : g4 ≠ g5 := by have h1 := HRG.out; have := h1.e5; omega
      have n2 : g4 ≠ g6 := by have h1 := HRG.out; have := h1.e6; omega
      have n3 : g4 ≠ g7 := by have h1 := HRG.out; have := h1.e7; omega
      have n4 : g5 ≠ g6 := by have h1 := HRG.out; have := h1.e5; have := h1.e6; omega
      have n5 : g5 ≠ g7 := by have h1 := HRG.out; have := h1.e5; have := h1.e7; omega
      have l4 : g4 < wr.heap.size := rd.a4.lt
      have l5 : g5 < wr.heap.size := rd.a5.lt
      clear rd
      go_wp2_with fail
      go_region
      go_wp2_with fail
      have f4 : Fr (fun q => q = g4) wr ((wr.setCell ⟨g4, 0, none⟩ (.slice (some ⟨gC, 0, none⟩) N N)).setCell ⟨g4, 1, none⟩ (.bool S.fault)) := (fr1 wr g4 0 _).trans (fr1 _ g4 1 _)
      have B4 := (HRD.out.a4.set 0 (.slice (some ⟨gC, 0, none⟩) N N)).set 1 (.bool S.fault)
      have B5 := f4.arr (fun e => n1 e.symm) HRD.out.a5
      have bC := f4.arr (fun e => by have h1 := HRG.out; have := h1.eC; have : gC = g4 := e; omega) HRD.out.aC
      have bN := f4.arr (fun e => by have h1 := HRG.out; have := h1.eN; have : gN = g4 := e; omega) HRD.out.aN
      have kp4 := (HRD.out.kp.setCell (p := ⟨g4, 0, none⟩) (by have h1 := HRG.out; have := h1.e4; show _ ≤ g4; omega) (.slice (some ⟨gC, 0, none⟩) N N)).setCell (p := ⟨g4, 1, none⟩) (by have h1 := HRG.out; have := h1.e4; show _ ≤ g4; omega) (.bool S.fault)
      generalize (wr.setCell ⟨g4, 0, none⟩ (.slice (some ⟨gC, 0, none⟩) N N)).setCell ⟨g4, 1, none⟩ (.bool S.fault) = w4 at *
      have f5 : Fr (fun q => q = g5) w4 ((w4.setCell ⟨g5, 0, none⟩ (.slice (some ⟨gN, 0, none⟩) N N)).setCell ⟨g5, 1, none⟩ (.bool T.fault)) := (fr1 w4 g5 0 _).trans (fr1 _ g5 1 _)
      have C5 := ((B5.set 0 (.slice (some ⟨gN, 0, none⟩) N N)).set 1 (.bool T.fault)).drew
      have C4 := (f5.arr (fun e => n1 e) B4).drew
      have dC := (f5.arr (fun e => by have h1 := HRG.out; have := h1.eC; have := h1.e5; have : gC = g5 := e; omega) bC).drew
      have dN := (f5.arr (fun e => by have h1 := HRG.out; have := h1.eN; have := h1.e5; have : gN = g5 := e; omega) bN).drew
      have kp5 := ((kp4.setCell (p := ⟨g5, 0, none⟩) (by have h1 := HRG.out; have := h1.e4; have := h1.e5; show _ ≤ g5; omega) (.slice (some ⟨gN, 0, none⟩) N N)).setCell (p := ⟨g5, 1, none⟩) (by have h1 := HRG.out; have := h1.e4; have := h1.e5; show _ ≤ g5; omega) (.bool T.fault)).drew
      generalize ((w4.setCell ⟨g5, 0, none⟩ (.slice (some ⟨gN, 0, none⟩) N N)).setCell ⟨g5, 1, none⟩ (.bool T.fault)).drew = w5 at *
      have q0 := C4.cell 0
      have q1 := C4.cell 1
      have q2 := C5.cell 0
      have q3 := C5.cell 1
      simp only [List.set_cons_zero, List.set_cons_succ, List.getElem?_cons_zero, List.getElem?_cons_succ] at q0 q1 q2 q3
      refine bodyPost_ret (v := .tuple #[.agg #[.slice (some ⟨gC, 0, none⟩) N N, .bool S.fault], .agg #[.slice (some ⟨gN, 0, none⟩) N N, .bool T.fault]]) (by simp [results, Try.results21, go_sem, q0, q1, q2, q3]) rfl ?_
      have es := HS0.out
      have et := HT0.out
      subst es et
      exact ⟨gC, gN, rfl, vs_arr dC HL0.out HNN.out, vs_arr dN HL1.out HNN.out, kp5⟩
end Go.Proofs.Qxb6500772a
