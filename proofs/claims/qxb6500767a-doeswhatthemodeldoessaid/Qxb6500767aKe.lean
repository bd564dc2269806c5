/- foldkeym: encode. -/
import Derived.Test.Qxb6500767aKd
import Derived.Laws.BytesArg
namespace Go.Proofs.Qxb6500767a
open Go.RowKit Go.Qm
set_option linter.unusedVariables false
set_option linter.unusedSimpArgs false
attribute [local go_sem ↓] Go.wp_at_zero Go.wp_at_succ
theorem Sl.get {w : World} {v : Value} {l : List Int} (h : Sl w v (l.map rv)) : ∃ a c, v = .slice a l.length c ∧ l.length ≤ c ∧ c ≤ maxLen ∧ ∀ k (hk : k < l.length), ∃ b o, a = some ⟨b, o, none⟩ ∧ w.cell? ⟨b, o + k, none⟩ = some (.int .i32 l[k]) := by
  obtain ⟨a, c, hv, h1, h2, h3⟩ := h
  rw [List.length_map] at hv h1
  exact ⟨a, c, hv, h1, h2, fun k hk => h3 k (.int .i32 l[k]) (by simp [hk])⟩
theorem strN (l : List UInt8) : strOfNums (l.map fun y => (y.toNat : Int)) = ⟨l.toArray⟩ := by
  have h : ((fun n : Int => UInt8.ofNat n.toNat) ∘ fun y : UInt8 => (y.toNat : Int)) = id := by funext y; simp
  unfold strOfNums
  rw [List.map_map, h, List.map_id]
/-- Octets as a string. -/
theorem run_conv {w : World} {v : Value} {l : List UInt8} (h : Bs w v l) : (convert 64 9 v).run Try.prog w = .ok (str l) w := by
  obtain ⟨a, c, rfl, _, _, h3⟩ := h.form
  cases l with
  | nil =>
    cases a with
    | none => exact run_convert_bytes_nil w 64 5 Try.underlying64 Try.underlying5 0 c 9 Try.underlying9
    | some x =>
      show (convert 64 9 (.slice (some x) 0 c)).run Try.prog w = _
      rw [run_convert_bytes_string w 64 9 5 _ 0 c Try.underlying64 Try.underlying5 Try.underlying9, run_bytesToString w x 0 c [] (by simp [loadCells, loadCellsFrom])]
      rfl
  | cons x l =>
    obtain ⟨b, o, rfl, _⟩ := h3 0 (by simp)
    have e := run_convert_bytes_arg (P := Try.prog) w 64 5 Try.underlying64 Try.underlying5 b o (x :: l).length c ((x :: l).map fun y => (y.toNat : Int)) (by simp) (fun i hi => by
      obtain ⟨b', o', hb, hc⟩ := h3 i hi
      simp only [Option.some.injEq, Addr.mk.injEq] at hb
      obtain ⟨rfl, rfl, _⟩ := hb
      rw [hc, List.getD_eq_getElem?_getD, List.getElem?_map, List.getElem?_eq_getElem hi]
      rfl) 9 Try.underlying9
    rw [e, strN]
def b8 (x : Int) : UInt8 := UInt8.ofNat (x % 256).toNat
theorem b8_cb (x : Int) : Value.int .u8 (x % 256) = cb (b8 x) := cb_mk _ (Int.emod_nonneg _ (by omega)) (Int.emod_lt_of_pos _ (by omega))
theorem b8_cb' (x : Int) (h0 : 0 ≤ x) (h1 : x < 256) : Value.int .u8 x = cb (b8 x) := by rw [← b8_cb, Int.emod_eq_of_lt h0 h1]
def tail6 (x : Int) : Int := bits .or .i32 128 (bits .and .i32 x 63)
def encR (r : Int) : List UInt8 :=
  if r < 128 then [b8 r] else if r < 2048 then [b8 (192 + r / 64), b8 (tail6 r)] else if r < 65536 then [b8 (bits .or .i32 224 (r / 4096)), b8 (tail6 (r / 64)), b8 (tail6 r)]
  else [b8 (bits .or .i32 240 (r / 262144)), b8 (tail6 (r / 4096)), b8 (tail6 (r / 64)), b8 (tail6 r)]
theorem encR1 {r : Int} (h : r < 128) : (encR r).map cb = [.int .u8 (r % 256)] := by unfold encR; rw [if_pos h]; simp only [List.map_cons, List.map_nil, b8_cb]
theorem encR2 {r : Int} (h : 128 ≤ r) (h2 : r < 2048) : (encR r).map cb = [.int .u8 (192 + r / 64), .int .u8 (bits .or .i32 128 (bits .and .i32 r 63) % 256)] := by
  unfold encR tail6; rw [if_neg (by omega), if_pos h2]; simp only [List.map_cons, List.map_nil, b8_cb]; rw [b8_cb' (192 + r / 64) (by omega) (by omega)]
theorem encR3 {r : Int} (h : 128 ≤ r) (h2 : 2048 ≤ r) (h3 : r < 65536) : (encR r).map cb = [.int .u8 (bits .or .i32 224 (r / 4096) % 256), .int .u8 (bits .or .i32 128 (bits .and .i32 (r / 64) 63) % 256), .int .u8 (bits .or .i32 128 (bits .and .i32 r 63) % 256)] := by
  unfold encR tail6; rw [if_neg (by omega), if_neg (by omega), if_pos h3]; simp only [List.map_cons, List.map_nil, b8_cb]
theorem encR4 {r : Int} (h : 128 ≤ r) (h2 : 2048 ≤ r) (h3 : 65536 ≤ r) : (encR r).map cb = [.int .u8 (bits .or .i32 240 (r / 262144) % 256), .int .u8 (bits .or .i32 128 (bits .and .i32 (r / 4096) 63) % 256), .int .u8 (bits .or .i32 128 (bits .and .i32 (r / 64) 63) % 256), .int .u8 (bits .or .i32 128 (bits .and .i32 r 63) % 256)] := by
  unfold encR tail6; rw [if_neg (by omega), if_neg (by omega), if_neg (by omega)]; simp only [List.map_cons, List.map_nil, b8_cb]
theorem encR_length (r : Int) : 1 ≤ (encR r).length ∧ (encR r).length ≤ 4 := by
  unfold encR; split
  · simp
  · split
    · simp
    · split <;> simp
def encF (l : List Int) : List UInt8 := l.flatMap encR
theorem inf5 : (Try.prog.info? 5).map (fun i => (i.zero, i.size, i.bytes)) = some (some (.int .u8 0), 1, 1) := by kernel_rfl
set_option maxRecDepth 4000 in
set_option maxHeartbeats 2000000 in
theorem encode_c (v : Value) (l : List Int) (w : World) (h : Sl w v (l.map rv)) (hl : l.length ≤ 2000) : Calls Try.prog 104 #[v] w fun e w' => e = .returned (str (encF l)) ∧ Keep w w' := by
  obtain ⟨a, c, rfl, hac, hcm, hca⟩ := Sl.get h
  unfold maxLen at hcm
  go_enter Try.func104, Try.ntmps104
  go_wp2_with fail
  go_loopg [3, 4] l.length (fun gk ov iv wr => ∃ (k : Nat) (out : List UInt8), k + gk = l.length ∧ iv = .int .i64 k ∧ out.length ≤ 4 * k ∧ out = encF (l.take k) ∧ Own w.heap.size 5 wr ov (out.map cb) ∧ Keep w wr)
  case atStart => exact ⟨0, [], by omega, rfl, by simp, rfl, World.ownsRow_nil _ _ _ _, Keep.refl _⟩
  case round => as_aux_lemma =>
    obtain ⟨k, out, hk, rfl, ho, hout, oo, kw⟩ := hrel
    by_cases hlt : k < l.length
    · have i1 : (k : Int) < l.length := by omega
      have HO : Hid (encF (l.take (k + 1)) = out ++ encR l[k]) := Hid.mk (by rw [List.take_succ_eq_append_getElem hlt, encF, List.flatMap_append, hout]; simp [encF])
      clear hout
      obtain ⟨b, o, rfl, hc⟩ := hca k hlt
      replace hc := kw.cell hc
      generalize l[k] = r at *
      have hlr := encR_length r
      have HOL : Hid ((out.map cb).length ≤ 8000) := Hid.mk (by simp; omega)
      have hw := kw.size
      by_cases h1 : r < 128
      · have HR := Hid.mk (encR1 h1)
        go_wp2_with (at_builtin; refine wpList_app (by rfl) _ _ _ (by rfl) Try.underlying64 inf5 rfl w.heap.size (oo.alloc _) (Own.lit (B := w.heap.size) [.int .u8 (r % 256)] hw (by simp [maxLen])).sl (by simp [Value.oneCell']) (by rfl) (by rfl) (by have := HOL.out; simp [maxLen]; omega) (by have := HOL.out; simp; omega) (by simp; omega) ?_; intro v' w' hown' hgr hob)
        rw [← HR.out, ← List.map_append] at hown'
        go_roundg (gk - 1)
        case measure => omega
        case rel => exact ⟨k + 1, out ++ encR r, by omega, by go_num, by rw [List.length_append]; omega, HO.out.symm, hown', (kw.alloc _).grown hgr (fun q hq => (oo.lt q hq).1)⟩
      · replace h1 : 128 ≤ r := by omega
        by_cases h2 : r < 2048
        · have HR := Hid.mk (encR2 h1 h2)
          go_wp2_with (at_builtin; refine wpList_app (by rfl) _ _ _ (by rfl) Try.underlying64 inf5 rfl w.heap.size (oo.alloc _) (Own.lit (B := w.heap.size) [.int .u8 (192 + r / 64), .int .u8 (bits .or .i32 128 (bits .and .i32 r 63) % 256)] hw (by simp [maxLen])).sl (by simp [Value.oneCell']) (by rfl) (by rfl) (by have := HOL.out; simp [maxLen]; omega) (by have := HOL.out; simp; omega) (by simp; omega) ?_; intro v' w' hown' hgr hob)
          rw [← HR.out, ← List.map_append] at hown'
          go_roundg (gk - 1)
          case measure => omega
          case rel => exact ⟨k + 1, out ++ encR r, by omega, by go_num, by rw [List.length_append]; omega, HO.out.symm, hown', (kw.alloc _).grown hgr (fun q hq => (oo.lt q hq).1)⟩
        · replace h2 : 2048 ≤ r := by omega
          by_cases h3 : r < 65536
          · have HR := Hid.mk (encR3 h1 h2 h3)
            go_wp2_with (at_builtin; refine wpList_app (by rfl) _ _ _ (by rfl) Try.underlying64 inf5 rfl w.heap.size (oo.alloc _) (Own.lit (B := w.heap.size) [.int .u8 (bits .or .i32 224 (r / 4096) % 256), .int .u8 (bits .or .i32 128 (bits .and .i32 (r / 64) 63) % 256), .int .u8 (bits .or .i32 128 (bits .and .i32 r 63) % 256)] hw (by simp [maxLen])).sl (by simp [Value.oneCell']) (by rfl) (by rfl) (by have := HOL.out; simp [maxLen]; omega) (by have := HOL.out; simp; omega) (by simp; omega) ?_; intro v' w' hown' hgr hob)
            rw [← HR.out, ← List.map_append] at hown'
            go_roundg (gk - 1)
            case measure => omega
            case rel => exact ⟨k + 1, out ++ encR r, by omega, by go_num, by rw [List.length_append]; omega, HO.out.symm, hown', (kw.alloc _).grown hgr (fun q hq => (oo.lt q hq).1)⟩
          · replace h3 : 65536 ≤ r := by omega
            have HR := Hid.mk (encR4 h1 h2 h3)
            go_wp2_with (at_builtin; refine wpList_app (by rfl) _ _ _ (by rfl) Try.underlying64 inf5 rfl w.heap.size (oo.alloc _) (Own.lit (B := w.heap.size) [.int .u8 (bits .or .i32 240 (r / 262144) % 256), .int .u8 (bits .or .i32 128 (bits .and .i32 (r / 4096) 63) % 256), .int .u8 (bits .or .i32 128 (bits .and .i32 (r / 64) 63) % 256), .int .u8 (bits .or .i32 128 (bits .and .i32 r 63) % 256)] hw (by simp [maxLen])).sl (by simp [Value.oneCell']) (by rfl) (by rfl) (by have := HOL.out; simp [maxLen]; omega) (by have := HOL.out; simp; omega) (by simp; omega) ?_; intro v' w' hown' hgr hob)
            rw [← HR.out, ← List.map_append] at hown'
            go_roundg (gk - 1)
            case measure => omega
            case rel => exact ⟨k + 1, out ++ encR r, by omega, by go_num, by rw [List.length_append]; omega, HO.out.symm, hown', (kw.alloc _).grown hgr (fun q hq => (oo.lt q hq).1)⟩
    · have i1 : ¬ (k : Int) < l.length := by omega
      rw [List.take_of_length_le (by omega)] at hout
      have HC := run_conv oo.bs
      have HO := Hid.mk hout
      clear hout
      go_wp2_with fail
      go_ret
      rw [← HO.out]
      exact ⟨rfl, kw⟩
end Go.Proofs.Qxb6500767a
