/- octets.UTF16Len, AppendLE16, AppendUTF16LE: their contracts. -/
import Derived.Test.Qxb6500770aU1
namespace Go.Proofs.Qxb6500770a
open Go.RowKit Go.Qm
set_option linter.unusedVariables false
set_option linter.unusedSimpArgs false

/-- cs has been read, up to place k. -/
def ReadTo (l : List UInt8) (k : Nat) (cs : List Nat) : Prop := k ≤ l.length ∧ sc l = (sc (l.drop k)).map (cs ++ ·)
theorem ReadTo.start (l : List UInt8) : ReadTo l 0 [] := ⟨Nat.zero_le _, by simp⟩
theorem ReadTo.next {l : List UInt8} {k c w : Nat} {cs : List Nat} (h : ReadTo l k cs) (hd : dec (l.drop k) = some (c, w)) : ReadTo l (k + w) (cs ++ [c]) := by
  obtain ⟨hw, _⟩ := dec_found hd
  rw [List.length_drop] at hw
  have := h.1
  refine ⟨by omega, ?_⟩
  rw [h.2, sc_some hd, List.drop_drop, Option.map_map]
  congr 1
  funext r
  simp
theorem ReadTo.stop {l : List UInt8} {k : Nat} {cs : List Nat} (h : ReadTo l k cs) (hk : k < l.length) (hd : dec (l.drop k) = none) : sc l = none := by
  rw [h.2, sc_none (by intro e; have := congrArg List.length e; simp at this; omega) hd]; rfl
theorem ReadTo.done {l : List UInt8} {k : Nat} {cs : List Nat} (h : ReadTo l k cs) (hk : ¬ k < l.length) : sc l = some cs := by
  rw [h.2, List.drop_of_length_le (by omega), sc_nil]; simp
def lenV (l : List UInt8) : Int × Int := match sc l with | some cs => ((u16s cs).length, 0) | none => (0, 3)

theorem u16s_snoc (cs : List Nat) (c : Nat) : u16s (cs ++ [c]) = u16s cs ++ sp16 c := by rw [u16s_append]; simp [u16s]

set_option maxRecDepth 10000 in
set_option maxHeartbeats 1000000 in
theorem utf16Len_c (v : Value) (l : List UInt8) (w : World) (h : Bs w v l) (hl : l.length ≤ 1000000) :
    Calls Try.prog 19 #[v] w fun e w' => e = .returned (.tuple #[.int .i64 (lenV l).1, .int .i64 (lenV l).2]) ∧ w' = w := by
  have hb := h
  obtain ⟨a, c, rfl, hac, hcm, hca⟩ := h.form
  unfold maxLen at hcm
  clear hca
  go_enter Try.func19, Try.ntmps19
  go_wp2
  go_loopw [4, 5] (fun nv av wr => ∃ (k : Nat) (cs : List Nat), av = .int .i64 k ∧ nv = .int .i64 (u16s cs).length ∧ ReadTo l k cs ∧ (u16s cs).length ≤ 4 * k ∧ wr = w) (fun _ av _ => l.length - (intOf av).toNat)
  case atStart => exact ⟨0, [], rfl, rfl, ReadTo.start l, by simp [u16s], rfl⟩
  case round =>
    obtain ⟨k, cs, rfl, rfl, hrd, hle, rfl⟩ := hrel
    have hk0 := hrd.1
    by_cases hlt : k < l.length
    · have i1 : (k : Int) < l.length := by omega
      go_wp2_with fail
      refine (scalar_c _ l k wr hb hl hlt).mono ?_
      rintro e w1 ⟨rfl, rfl⟩
      cases hd : dec (l.drop k) with
      | none =>
        have hs : scalarV (l.drop k) = (0, 0) := by unfold scalarV; rw [hd]
        rw [hs]
        have hn := hrd.stop hlt hd
        have HN := Hid.mk hn
        clear hn hd hs
        go_wp2
        go_ret2
        refine ⟨tup2 ?_ ?_, rfl⟩ <;> rw [lenV, HN.out]
      | some p =>
        obtain ⟨cc, ww⟩ := p
        have hs : scalarV (l.drop k) = ((cc : Int), (ww : Int)) := by unfold scalarV; rw [hd]
        rw [hs]
        obtain ⟨hw1, hw2, hw4, _, hsc, hsp, _⟩ := dec_found hd
        rw [List.length_drop] at hw1
        have hnx := hrd.next hd
        have hscb := (isSc_iff cc).1 hsc
        have hl16 := sp16_length cc
        have hww : cc > 65535 → ww = 4 := fun h5 => by
          rw [← hsp]; unfold sp8
          rw [if_neg (by omega), if_neg (by omega), if_neg (by omega)]; rfl
        have hwz : ((ww : Int) == 0) = false := beq_eq_false_iff_ne.2 (by omega)
        have hcc : cc ≤ 1114111 := by omega
        have HNX := Hid.mk hnx
        have HW := Hid.mk hww
        have H16 := Hid.mk hl16
        have HSN := Hid.mk (u16s_snoc cs cc)
        clear hd hs hsp hnx hsc hl16 hww hscb hw4
        by_cases hbig : cc ≤ 65535
        · have i2 : decide (65536 ≤ (cc : Int)) = false := decide_eq_false (by omega)
          have HB := Hid.mk hbig
          clear hbig hcc
          go_wp2
          have hbig := HB.out
          go_roundw
          case rel =>
            refine ⟨k + ww, cs ++ [cc], by go_num, ?_, HNX.out, ?_, by first | rfl | trivial⟩
            · rw [HSN.out, List.length_append, H16.out, if_pos hbig]; go_num
            · rw [HSN.out, List.length_append, H16.out, if_pos hbig]; omega
          case measure => simp [intOf]; omega
        · have i2 : 65536 ≤ (cc : Int) := by omega
          have hw4 := HW.out (by omega)
          have HB := Hid.mk hbig
          have HW4 := Hid.mk hw4
          clear hbig hcc hw4
          go_wp2
          have hbig := HB.out
          have hw4 := HW4.out
          go_roundw
          case rel =>
            refine ⟨k + ww, cs ++ [cc], by go_num, ?_, HNX.out, ?_, by first | rfl | trivial⟩
            · rw [HSN.out, List.length_append, H16.out, if_neg hbig]; go_num
            · rw [HSN.out, List.length_append, H16.out, if_neg hbig]; omega
          case measure => simp [intOf]; omega
    · have i1 : ¬ (k : Int) < l.length := by omega
      have hdn := hrd.done hlt
      have HD := Hid.mk hdn
      clear hdn
      go_wp2
      go_ret2
      refine ⟨tup2 ?_ ?_, by first | rfl | trivial⟩ <;> rw [lenV, HD.out]

set_option maxHeartbeats 400000 in
theorem appendLE16_c (B : Nat) (v : Value) (d : List UInt8) (x : Nat) (w : World) (h : Own B 5 w v (d.map cb)) (hB : B ≤ w.heap.size) (hd : d.length ≤ 10000000) (hx : x < 65536) :
    Calls Try.prog 28 #[v, .int .u16 x] w fun e w' => ∃ r, e = .returned r ∧ Own B 5 w' r ((d ++ [ob (x % 256), ob (x / 256)]).map cb) ∧ w.grownBy w' v.ownBlock ∧ (r.ownBlock = v.ownBlock ∨ ∀ b, r.ownBlock = some b → w.heap.size ≤ b) := by
  have hlen : (d.map cb).length = d.length := List.length_map ..
  have HL := Hid.mk hlen
  clear hlen
  have e1 : Value.int .u8 ((x : Int) % 256) = cb (ob (x % 256)) := by unfold cb; rw [ob_val]; congr 1; omega
  have e2 : Value.int .u8 ((x : Int) / 256) = cb (ob (x / 256)) := by unfold cb; rw [ob_val]; congr 1; omega
  have hsl : Sl (w.alloc (.cells #[Value.int .u8 ((x : Int) % 256), Value.int .u8 ((x : Int) / 256)] 5)) (.slice (some ⟨w.heap.size, 0, none⟩) 2 2) [Value.int .u8 ((x : Int) % 256), Value.int .u8 ((x : Int) / 256)] :=
    (Own.lit (B := w.heap.size) (w := w) [_, _] (Nat.le_refl _) (by simp [maxLen])).sl
  have HE1 := Hid.mk e1
  have HE2 := Hid.mk e2
  clear e1 e2
  go_enter Try.func28, Try.ntmps28
  go_wp2_with (at_builtin; refine wpList_app (by rfl) _ _ _ (by rfl) Try.underlying27 inf5 rfl B (h.alloc _) hsl (by simp [Value.oneCell']) (by rfl) (by rfl) (by rw [HL.out]; simp [maxLen]; omega) (by rw [HL.out]; simp; omega) (by simp; omega) ?_; intro v' w' hown' hgr hob)
  go_ret
  refine ⟨_, rfl, ?_, grown_trans (keep_grown ((Keep.refl w).alloc _) _) hgr, ?_⟩
  · rw [HE1.out, HE2.out] at hown'
    rw [List.map_append]
    exact hown'
  · rcases hob with h | h
    · exact Or.inl h
    · right
      intro b hb
      have hb' : v'.ownBlock = some b := hb
      rw [h] at hb'
      simp at hb'
      omega

/-- What is written is dst's block or a new one. -/
def Near (w : World) (dst v : Value) : Prop := ∀ b, v.ownBlock = some b → w.heap.size ≤ b ∨ some b = dst.ownBlock
theorem Near.step {w wr w' : World} {dst v r : Value} (h : Near w dst v) (hg : w.grownBy wr dst.ownBlock) (hg2 : wr.grownBy w' v.ownBlock) (hr : r.ownBlock = v.ownBlock ∨ ∀ b, r.ownBlock = some b → wr.heap.size ≤ b) :
    Near w dst r ∧ w.grownBy w' dst.ownBlock := by
  constructor
  · intro b hb
    rcases hr with hr | hr
    · exact h b (by rw [← hr]; exact hb)
    · exact Or.inl (Nat.le_trans hg.size (hr b hb))
  · refine ⟨hg2.os.trans hg.os, hg2.tape.trans hg.tape, hg2.output.trans hg.output, Nat.le_trans hg.size hg2.size, fun k hk hne => ?_⟩
    rw [hg2.block k (Nat.lt_of_lt_of_le hk hg.size) (fun e => by
      rcases h k e.symm with h1 | h1
      · omega
      · exact hne h1)]
    exact hg.block k hk hne
theorem sp16_small {c : Nat} (h : c ≤ 65535) : sp16 c = [ob (c % 256), ob (c / 256)] := by unfold sp16; rw [if_pos h]
theorem sp16_big {c : Nat} (h : ¬ c ≤ 65535) : sp16 c = [ob ((55296 + (c - 65536) / 1024) % 256), ob ((55296 + (c - 65536) / 1024) / 256)] ++ [ob ((56320 + (c - 65536) % 1024) % 256), ob ((56320 + (c - 65536) % 1024) / 256)] := by
  unfold sp16; rw [if_neg h]; rfl
theorem orD8 (x : Nat) (h : x < 1024) : bits .or .u32 55296 (x : Int) = ((55296 + x : Nat) : Int) := by
  have := bits_or_u32 55296 x (by decide) (by omega)
  rw [show (55296 ||| x) = 55296 + x from or_add 54 x 10 h] at this
  exact this
theorem orDC (x : Nat) (h : x < 1024) : bits .or .u32 56320 (x : Int) = ((56320 + x : Nat) : Int) := by
  have := bits_or_u32 56320 x (by decide) (by omega)
  rw [show (56320 ||| x) = 56320 + x from or_add 55 x 10 h] at this
  exact this
theorem and1023 (x : Nat) (h : x < 2 ^ 32) : bits .and .u32 (x : Int) 1023 = ((x % 1024 : Nat) : Int) := by
  have := bits_and_u32 x 1023 h (by decide)
  rw [show (x &&& 1023) = x % 1024 from and_mask x 10] at this
  exact this

set_option maxRecDepth 10000 in
set_option maxHeartbeats 2000000 in
theorem appendUTF16_none (wb : World) (dst src : Value) (d l : List UInt8) (w : World) (kb : Keep wb w) (hs : Bs wb src l) (hd : Own wb.heap.size 5 w dst (d.map cb)) (hl : l.length ≤ 1000000) (hn : sc l = none) :
    Calls Try.prog 18 #[dst, src] w fun e w' => e = .returned (.tuple #[dst, .int .i64 3]) ∧ w' = w := by
  have hlv : lenV l = (0, 3) := by unfold lenV; rw [hn]
  go_enter Try.func18, Try.ntmps18
  go_wp2_with fail
  refine (utf16Len_c src l w (hs.keep kb) hl).mono ?_
  rintro e w1 ⟨rfl, rfl⟩
  rw [hlv]
  clear hlv hn
  go_wp2
  go_ret2
  exact ⟨rfl, by first | rfl | trivial⟩

set_option maxRecDepth 10000 in
set_option maxHeartbeats 2000000 in
theorem appendUTF16_some (wb : World) (dst src : Value) (d l : List UInt8) (all : List Nat) (w : World) (kb : Keep wb w) (hs : Bs wb src l) (hd : Own wb.heap.size 5 w dst (d.map cb)) (hl : l.length ≤ 1000000) (hdl : d.length ≤ 1000000) (hn : sc l = some all) :
    Calls Try.prog 18 #[dst, src] w fun e w' => ∃ out, e = .returned (.tuple #[out, .int .i64 0]) ∧ Own wb.heap.size 5 w' out ((d ++ u16s all).map cb) ∧ Keep wb w' ∧ w.grownBy w' dst.ownBlock := by
  have hlv : lenV l = (((u16s all).length : Int), 0) := by unfold lenV; rw [hn]
  obtain ⟨ad, cd, hdv, hdc, hdm, _⟩ := hd.bs.form
  have hnl : (u16s all).length ≤ 2 * l.length := (sc_bound _ _ _ hn).2.1
  have HN := Hid.mk hn
  unfold maxLen at hdm
  clear hn
  subst hdv
  go_enter Try.func18, Try.ntmps18
  go_wp2_with fail
  refine (utf16Len_c src l w (hs.keep kb) hl).mono ?_
  rintro e w1 ⟨rfl, rfl⟩
  rw [hlv]
  clear hlv
  have hsrc : ∃ a c, src = .slice a l.length c := by obtain ⟨a, c, h, _⟩ := hs.form; exact ⟨a, c, h⟩
  obtain ⟨asr, csr, rfl⟩ := hsrc
  obtain ⟨n, hnn⟩ : ∃ n, (u16s all).length = n := ⟨_, rfl⟩
  have hmk := run_make1 (P := Try.prog) Try.underlying27 inf5 rfl (d.length : Int) ((d.length : Int) + n) (by omega) (by omega) (by omega) (by omega)
  have hcp := run_copy1 (P := Try.prog) (dT := 27) (sT := 27) (ty := 3) Try.underlying27 siz5 (dLen := d.length) (dCap := d.length + n) (o := 0) (heap_alloc_new w1 (.cells (rep (d.length + n) (.int .u8 0)) 5)) (rep_cb _) (hd.alloc (.cells (rep (d.length + n) (.int .u8 0)) 5)).sl (cb_one d) (by simp)
  have e1 : ((d.length : Int) + n).toNat = d.length + n := by omega
  rw [e1, Int.toNat_natCast] at hmk
  have hb := setRow_blk (w := w1.alloc (.cells (rep (d.length + n) (.int .u8 0)) 5)) (g := w1.heap.size) (e := 5) (ys := (List.replicate (d.length + n) (0 : UInt8)).map cb) (by rw [heap_alloc_new, rep_cb])
    (List.take 0 ((List.replicate (d.length + n) (0 : UInt8)).map cb) ++ List.take d.length (d.map cb) ++ List.drop (0 + min (d.map cb).length d.length) ((List.replicate (d.length + n) (0 : UInt8)).map cb))
  generalize hW : (w1.alloc (.cells (rep (d.length + n) (.int .u8 0)) 5)).setRow w1.heap.size (List.take 0 ((List.replicate (d.length + n) (0 : UInt8)).map cb) ++ List.take d.length (d.map cb) ++ List.drop (0 + min (d.map cb).length d.length) ((List.replicate (d.length + n) (0 : UInt8)).map cb)).toArray = W at hcp hb
  have hown2 : Own wb.heap.size 5 W (.slice (some ⟨w1.heap.size, 0, none⟩) d.length (d.length + n)) (d.map cb) := by
    have hl1 : List.take d.length (d.map cb) = d.map cb := List.take_of_length_le (by simp)
    rw [hl1, List.take_zero, List.nil_append] at hb
    have := Own.of_blk (B := wb.heap.size) (cap := d.length + n) kb.size hb (by simp) (by unfold maxLen; omega)
    rwa [List.length_map] at this
  have kW : Keep wb W := by rw [← hW]; exact (kb.alloc _).setRow kb.size _
  have kW1 : Keep w1 W := by rw [← hW]; exact ((Keep.refl w1).alloc _).setRow (Nat.le_refl _) _
  clear hb e1 hW
  have HNN := Hid.mk hnn
  rw [hnn]
  rw [hnn] at hnl
  clear hnn
  have hroom : ((cd : Int) - d.length < n ∧ ∃ W', W' = W) ∨ (¬ (cd : Int) - d.length < n ∧ ∃ W', W' = w1) := by
    by_cases h : (cd : Int) - d.length < n
    · exact Or.inl ⟨h, W, rfl⟩
    · exact Or.inr ⟨h, w1, rfl⟩
  rcases hroom with ⟨hroom, _⟩ | ⟨hroom, _⟩
  all_goals
    go_wp2_with fail
    go_loopw [0, 9, 10, 11] (fun dv av xv yv wr => ∃ (k : Nat) (cs : List Nat), av = .int .i64 k ∧ ReadTo l k cs ∧ (u16s cs).length ≤ 4 * k ∧ Own wb.heap.size 5 wr dv ((d ++ u16s cs).map cb) ∧ Keep wb wr ∧ Near w1 (Value.slice ad d.length cd) dv ∧ w1.grownBy wr (Value.slice ad d.length cd).ownBlock) (fun _ av _ _ _ => l.length - (intOf av).toNat)
    case atStart => first | exact ⟨0, [], rfl, ReadTo.start l, by simp [u16s], by simpa [u16s] using hd, kb, fun b hb => Or.inr hb.symm, grown_refl _ _⟩ | exact ⟨0, [], rfl, ReadTo.start l, by simp [u16s], by simpa [u16s] using hown2, kW, fun b hb => Or.inl (by simp [Value.ownBlock] at hb; omega), keep_grown kW1 _⟩
    case round =>
      clear hd hown2 hmk hcp kW kW1 kb
      obtain ⟨k, cs, rfl, hrd, hle, hown, kw, hnear, hgw⟩ := hrel
      have hk0 := hrd.1
      by_cases hlt : k < l.length
      · have i1 : (k : Int) < l.length := by omega
        go_wp2_with fail
        refine (scalar_c _ l k wr (hs.keep kw) hl hlt).mono ?_
        rintro e w2 ⟨rfl, rfl⟩
        cases hdc0 : dec (l.drop k) with
        | none =>
          have := hrd.stop hlt hdc0
          rw [HN.out] at this
          cases this
        | some p =>
          obtain ⟨cc, ww⟩ := p
          have hs2 : scalarV (l.drop k) = ((cc : Int), (ww : Int)) := by unfold scalarV; rw [hdc0]
          rw [hs2]
          obtain ⟨hw1, hw2, hw4, _, hsc, hsp, _⟩ := dec_found hdc0
          rw [List.length_drop] at hw1
          have hscb := (isSc_iff cc).1 hsc
          have hccb : cc ≤ 1114111 := by omega
          have HNX := Hid.mk (hrd.next hdc0)
          have HSN := Hid.mk (u16s_snoc cs cc)
          have hwb : 4 * ww ≥ (sp16 cc).length := by
            rw [sp16_length]; split <;> omega
          have hcsl : (d ++ u16s cs).length ≤ 9000000 := by simp; omega
          have HWB := Hid.mk hwb
          clear hdc0 hs2 hsp hsc hscb hw4 hwb
          by_cases hbig : cc ≤ 65535
          · have i2 : decide ((cc : Int) < 65536) = true := decide_eq_true (by omega)
            have i3 : (cc : Int) % 65536 = cc := by omega
            have HB := Hid.mk hbig
            have HC := Hid.mk hccb
            clear hbig hccb
            go_wp2_with fail
            refine (appendLE16_c wb.heap.size _ (d ++ u16s cs) cc w2 hown kw.size (by omega) (by have := HB.out; omega)).mono ?_
            rintro e w3 ⟨r, rfl, hown3, hg3, hr3⟩
            have hst := hnear.step hgw hg3 hr3
            go_wp2
            go_roundw
            case rel =>
              have hbig := HB.out
              refine ⟨k + ww, cs ++ [cc], by go_num, HNX.out, ?_, ?_, kw.grown hg3 (fun q hq => (hown.lt q hq).1), hst.1, hst.2⟩
              · have := HWB.out
                rw [HSN.out, List.length_append]; omega
              · rw [HSN.out, ← List.append_assoc, sp16_small hbig]; exact hown3
            case measure => simp [intOf]; omega
          · obtain ⟨x, hx⟩ : ∃ x, cc - 65536 = x := ⟨_, rfl⟩
            have i2 : decide ((cc : Int) < 65536) = false := decide_eq_false (by omega)
            have i3 : (cc : Int) - 65536 = x := by omega
            have hvb : (x : Int) < 1048576 := by omega
            obtain ⟨hi, hhi⟩ : ∃ hi, 55296 + x / 1024 = hi := ⟨_, rfl⟩
            obtain ⟨lo, hlo⟩ : ∃ lo, 56320 + x % 1024 = lo := ⟨_, rfl⟩
            have o1 : bits .or .u32 55296 ((x : Int) / 1024) = (hi : Int) := by
              have := orD8 (x / 1024) (by omega)
              rw [hhi] at this
              exact this
            have o2 : bits .or .u32 56320 ((x : Int) % 1024) = (lo : Int) := by
              have := orDC (x % 1024) (by omega)
              rw [hlo] at this
              exact this
            have a1 : bits .and .u32 (x : Int) 1023 = (x : Int) % 1024 := and1023 x (by omega)
            have m1 : (hi : Int) % 65536 = hi := by omega
            have m2 : (lo : Int) % 65536 = lo := by omega
            have hh1 : hi < 65536 := by omega
            have hh2 : lo < 65536 := by omega
            have H1 := Hid.mk hh1
            have H2 := Hid.mk hh2
            have HH := Hid.mk hhi
            have HLo := Hid.mk hlo
            have HX := Hid.mk hx
            have HB := Hid.mk hbig
            clear hbig hccb hx hhi hlo hh1 hh2
            go_wp2_with fail
            refine (appendLE16_c wb.heap.size _ (d ++ u16s cs) hi w2 hown kw.size (by omega) H1.out).mono ?_
            rintro e w3 ⟨r, rfl, hown3, hg3, hr3⟩
            have hst := hnear.step hgw hg3 hr3
            have kw3 : Keep wb w3 := kw.grown hg3 (fun q hq => (hown.lt q hq).1)
            go_wp2_with fail
            refine (appendLE16_c wb.heap.size _ _ lo w3 hown3 kw3.size (by simp at hcsl ⊢; omega) H2.out).mono ?_
            rintro e w4 ⟨r4, rfl, hown4, hg4, hr4⟩
            have hst4 := hst.1.step hst.2 hg4 hr4
            go_wp2
            go_roundw
            case rel =>
              refine ⟨k + ww, cs ++ [cc], by go_num, HNX.out, ?_, ?_, kw3.grown hg4 (fun q hq => (hown3.lt q hq).1), hst4.1, hst4.2⟩
              · have := HWB.out
                rw [HSN.out, List.length_append]; omega
              · rw [HSN.out, ← List.append_assoc, sp16_big HB.out, HX.out, HH.out, HLo.out, ← List.append_assoc]; exact hown4
            case measure => simp [intOf]; omega
      · have i1 : ¬ (k : Int) < l.length := by omega
        have hdn := hrd.done hlt
        rw [HN.out] at hdn
        have hcs : all = cs := by simpa using hdn
        have HCS := Hid.mk hcs
        clear hdn hcs
        go_wp2
        go_ret2
        exact ⟨_, rfl, by rw [HCS.out]; simpa using hown, kw, hgw⟩
end Go.Proofs.Qxb6500770a
