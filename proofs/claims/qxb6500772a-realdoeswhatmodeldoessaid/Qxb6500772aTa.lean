/- Programs as trees: what they mean (plain), and how they lie in memory. -/
import Derived.Test.Qxb6500772aPa
namespace Go.Proofs.Qxb6500772a
set_option linter.unusedVariables false
/-- An expression's own fields. -/
structure EF where
  k : Int
  w : Int
  o : Int
  v : Nat
  c : Int
  l : Int
/-- A list of expressions. -/
inductive EL where
  | nil
  | cons (f : EF) (kids rest : EL)
/-- A statement's own fields. -/
structure SF where
  k : Int
  c : Int
  l : Int
  a : Int
  b : Int
/-- A list of statements. -/
inductive SL where
  | nil
  | cons (f : SF) (ex : EL) (th el rest : SL)
/-- A cell. -/
structure Cel where
  w : Int
  inp : Bool
  ini : Nat
  lo : Int
  hi : Int
def EL.toL : EL → List (EF × EL)
  | .nil => []
  | .cons f k r => (f, k) :: r.toL
def EL.len (t : EL) : Nat := t.toL.length
def EL.ws (t : EL) : List Int := t.toL.map (·.1.w)
def EL.size : EL → Nat
  | .nil => 0
  | .cons _ k r => 1 + k.size + r.size
def SL.toL : SL → List (SF × EL × SL × SL)
  | .nil => []
  | .cons f ex th el r => (f, ex, th, el) :: r.toL
def SL.len (t : SL) : Nat := t.toL.length
def SL.size : SL → Nat
  | .nil => 0
  | .cons _ _ t e r => 1 + t.size + e.size + r.size
/-- A state. -/
structure PS where
  cells : List Nat
  fault : Bool
def unF (op : Int) (x kw w : Nat) : Nat :=
  if op = 0 then 2 ^ w - 1 - x
  else if op = 1 then wop 1 0 x w
  else if op = 2 then (sgn x kw % 2 ^ w).toNat
  else if op = 3 then x
  else x % 2 ^ w
def binF (op : Int) (x y w : Nat) : Nat :=
  if op = 5 then x &&& y
  else if op = 6 then x ||| y
  else if op = 7 then x ^^^ y
  else if op = 8 then wop 0 x y w
  else if op = 9 then wop 1 x y w
  else if op = 10 then wop 2 x y w
  else if op = 11 then (if y = 0 then 0 else wop 3 x y w)
  else if op = 12 then (if y = 0 then 0 else wop 4 x y w)
  else if op = 13 then (decide (x = y)).toNat
  else if op = 14 then (!decide (x = y)).toNat
  else if op = 15 then (decide (sgn x w < sgn y w)).toNat
  else if op = 16 then (!decide (sgn y w < sgn x w)).toNat
  else if op = 17 then (decide (sgn y w < sgn x w)).toNat
  else (!decide (sgn x w < sgn y w)).toNat
def binD (op : Int) (y : Nat) : Bool := (decide (op = 11) || decide (op = 12)) && decide (y = 0)
abbrev VF := Nat × Bool
def kv (ks : List VF) (i : Nat) : Nat := (ks.getD i (0, false)).1
def kf (ks : List VF) (i : Nat) : Bool := (ks.getD i (0, false)).2
def kw (ws : List Int) (i : Nat) : Nat := (ws.getD i 0).toNat
/-- The value of an expression, and its fault, from those of its parts. -/
def evOne (f : EF) (ks : List VF) (ws : List Int) (S : PS) : VF :=
  if f.k = 0 then (f.v, false)
  else if f.k = 1 then (S.cells.getD f.c.toNat 0, false)
  else if f.k = 2 then (S.fault.toNat, false)
  else if f.k = 3 then
    (if sgn (kv ks 0) (kw ws 0) < 0 ∨ f.l ≤ sgn (kv ks 0) (kw ws 0) then (0, true) else (S.cells.getD (f.c + sgn (kv ks 0) (kw ws 0)).toNat 0, kf ks 0))
  else if f.k = 4 then (unF f.o (kv ks 0) (kw ws 0) f.w.toNat, kf ks 0)
  else if f.k = 6 then ((if kv ks 0 = 1 then kv ks 1 else kv ks 2), kf ks 0 || kf ks 1 || kf ks 2)
  else (binF f.o (kv ks 0) (kv ks 1) (kw ws 0), binD f.o (kv ks 1) || (kf ks 0 || kf ks 1))
def evL : EL → PS → List VF
  | .nil, _ => []
  | .cons f k r, S => evOne f (evL k S) k.ws S :: evL r S
/-- Well typed, by the widths of the cells. -/
def wtCells (ws : List Int) (c n w : Int) : Prop := 0 ≤ c ∧ 1 ≤ n ∧ c + n ≤ ws.length ∧ ∀ i : Nat, (i : Int) < n → ws.getD (c.toNat + i) 0 = w
def wtOne (ws : List Int) (f : EF) (kws : List Int) : Prop :=
  (1 ≤ f.w ∧ f.w ≤ 64) ∧
  ((f.k = 0 ∧ kws = [] ∧ f.v < 2 ^ f.w.toNat) ∨
   (f.k = 1 ∧ kws = [] ∧ wtCells ws f.c 1 f.w) ∨
   (f.k = 2 ∧ kws = [] ∧ f.w = 1) ∨
   (f.k = 3 ∧ (∃ a, kws = [a]) ∧ wtCells ws f.c f.l f.w) ∨
   (f.k = 4 ∧ ∃ a, kws = [a] ∧ ((f.o = 0 ∨ f.o = 1) ∧ a = f.w ∨ (f.o = 2 ∨ f.o = 3) ∧ a ≤ f.w ∨ f.o = 4 ∧ f.w ≤ a)) ∨
   (f.k = 5 ∧ ∃ a, kws = [a, a] ∧ (5 ≤ f.o ∧ f.o ≤ 12 ∧ f.w = a ∨ 13 ≤ f.o ∧ f.o ≤ 18 ∧ f.w = 1)) ∨
   (f.k = 6 ∧ kws = [1, f.w, f.w]))
def wtL (ws : List Int) : EL → Prop
  | .nil => True
  | .cons f k r => wtL ws k ∧ wtOne ws f k.ws ∧ wtL ws r
/-- A state that fits the widths. -/
def StOK (ws : List Int) (S : PS) : Prop := S.cells.length = ws.length ∧ ∀ i < ws.length, S.cells.getD i 0 < 2 ^ (ws.getD i 0).toNat
def itN (a b : Int) : Nat := if b < a then 0 else if b - a > 4096 then 4097 else (b - a).toNat + 1
def PS.put (S : PS) (i v : Nat) : PS := ⟨S.cells.set i v, S.fault⟩
def PS.at (S : PS) (i : Nat) : Nat := S.cells.getD i 0
def tonT (et dt w : Nat) : Nat := if sgn (wop 0 et dt w) w < sgn et w then (2 ^ w - 1) / 2 else wop 0 et dt w
def anyF (ks : List VF) : Bool := ks.any (·.2)
def exOne (cw : List Int) (f : SF) (ks : List VF) (ws : List Int) (T E : PS → PS) (S0 : PS) : PS :=
  let S : PS := ⟨S0.cells, S0.fault || anyF ks⟩
  let c := f.c.toNat
  if f.k = 0 then S.put c (kv ks 0)
  else if f.k = 1 then
    (if sgn (kv ks 0) (kw ws 0) < 0 ∨ f.l ≤ sgn (kv ks 0) (kw ws 0) then ⟨S.cells, true⟩ else S.put (f.c + sgn (kv ks 0) (kw ws 0)).toNat (kv ks 1))
  else if f.k = 2 then (if kv ks 0 = 1 then T S else E S)
  else if f.k = 3 then (List.range (itN f.a f.b)).foldl (fun S (k : Nat) => T (S.put c ((f.a + k) % 2 ^ (kw cw c)).toNat)) S
  else if f.k = 4 then (S.put c (decide (kv ks 0 = 1 ∧ S.at (c + 1) = 0)).toNat).put (c + 1) (kv ks 0)
  else if f.k = 5 then
    (let t := tonT (S.at (c + 1)) (kv ks 2) (kw ws 1)
     if kv ks 0 = 0 then (S.put c 0).put (c + 1) 0
     else if sgn (kv ks 1) (kw ws 1) ≤ sgn t (kw ws 1) then (S.put c 1).put (c + 1) (kv ks 1)
     else (S.put c 0).put (c + 1) t)
  else
    (let w := kw ws 2
     let old := S.at (c + 1)
     let cv := if kv ks 1 = 1 then 0 else if kv ks 0 = 1 ∧ S.at (c + 2) = 0 ∧ old ≠ (2 ^ w - 1) / 2 then wop 0 old 1 w else old
     ((S.put c (decide (sgn (kv ks 2) w ≤ sgn cv w)).toNat).put (c + 1) cv).put (c + 2) (kv ks 0))
def exL (cw : List Int) : SL → PS → PS
  | .nil, S => S
  | .cons f ex th el r, S => exL cw r (exOne cw f (evL ex S) ex.ws (exL cw th) (exL cw el) S)
open Go Go.RowKit Go.Qm
def efC (f : EF) (kv : Value) : List Value := [.int .i64 f.k, .int .i64 f.w, .int .i64 f.o, .int .u64 (f.v : Nat), .int .i64 f.c, .int .i64 f.l, kv]
def sfC (f : SF) (e t l : Value) : List Value := [.int .i64 f.k, .int .i64 f.c, .int .i64 f.l, .int .i64 f.a, .int .i64 f.b, e, t, l]
def celC (c : Cel) : List Value := [.int .i64 c.w, .bool c.inp, .int .u64 (c.ini : Nat), .int .i64 c.lo, .int .i64 c.hi]
/-- A slice of structs that is read only, in blocks of P. -/
def Rows (P : Nat → Prop) (w : World) (v : Value) (sz : Nat) (rows : List (List Value)) : Prop :=
  ∃ a c, v = .slice a rows.length c ∧ rows.length ≤ c ∧ c ≤ maxLen ∧ ∀ i (hi : i < rows.length), ∃ b o, a = some ⟨b, o, none⟩ ∧ P b ∧ b < w.heap.size ∧ ∀ j < sz, w.cell? ⟨b, o + i * sz + j, none⟩ = rows[i][j]?
/-- The blocks of P are kept. -/
structure KP (P : Nat → Prop) (w w' : World) : Prop where
  size : w.heap.size ≤ w'.heap.size
  block : ∀ q, P q → q < w.heap.size → w'.heap[q]? = w.heap[q]?
theorem KP.of {P : Nat → Prop} {w w' : World} (k : Keep w w') : KP P w w' := ⟨k.size, fun q _ hq => k.block q hq⟩
theorem KP.fr {P Q : Nat → Prop} {w w' : World} (k : Fr Q w w') (h : ∀ q, P q → ¬ Q q) : KP P w w' := ⟨k.size, fun q hp hq => k.block q hq (h q hp)⟩
theorem KP.trans {P : Nat → Prop} {a b c : World} (h : KP P a b) (k : KP P b c) : KP P a c := ⟨Nat.le_trans h.size k.size, fun q hp hq => (k.block q hp (Nat.lt_of_lt_of_le hq h.size)).trans (h.block q hp hq)⟩
theorem KP.cell {P : Nat → Prop} {w w' : World} (k : KP P w w') {q i : Nat} (hp : P q) (hq : q < w.heap.size) : w'.cell? ⟨q, i, none⟩ = w.cell? ⟨q, i, none⟩ := by
  simp only [World.cell?, k.block q hp hq]
theorem Rows.step {P : Nat → Prop} {w w' : World} {v : Value} {sz : Nat} {rows : List (List Value)} (h : Rows P w v sz rows) (k : KP P w w') : Rows P w' v sz rows := by
  obtain ⟨a, c, e, h1, h2, h3⟩ := h
  refine ⟨a, c, e, h1, h2, fun i hi => ?_⟩
  obtain ⟨b, o, ha, hp, hb, hc⟩ := h3 i hi
  exact ⟨b, o, ha, hp, Nat.lt_of_lt_of_le hb k.size, fun j hj => by rw [k.cell hp hb]; exact hc j hj⟩
theorem Rows.form {P : Nat → Prop} {w : World} {v : Value} {sz : Nat} {rows : List (List Value)} (h : Rows P w v sz rows) : ∃ a c, v = .slice a rows.length c ∧ rows.length ≤ c ∧ c ≤ maxLen := by
  obtain ⟨a, c, e, h1, h2, -⟩ := h
  exact ⟨a, c, e, h1, h2⟩
theorem Rows.cell {P : Nat → Prop} {w : World} {a : Option Addr} {m c sz : Nat} {rows : List (List Value)} (h : Rows P w (.slice a m c) sz rows) {i : Nat} (hi : i < rows.length) : ∃ b o, a = some ⟨b, o, none⟩ ∧ P b ∧ b < w.heap.size ∧ ∀ j < sz, w.cell? ⟨b, o + i * sz + j, none⟩ = rows[i][j]? := by
  obtain ⟨a', c', e, -, -, h3⟩ := h
  injection e with e1 _ _
  subst e1
  exact h3 i hi
def I64 (n : Int) : Prop := -9223372036854775808 ≤ n ∧ n ≤ 9223372036854775807
structure EFr (f : EF) : Prop where
  k : I64 f.k
  w : I64 f.w
  o : I64 f.o
  v : f.v < 2 ^ 64
  c : I64 f.c
  l : I64 f.l
structure SFr (f : SF) : Prop where
  k : I64 f.k
  c : I64 f.c
  l : I64 f.l
  a : I64 f.a
  b : I64 f.b
/-- A list of expressions in memory: its rows. -/
def ELW (P : Nat → Prop) (w : World) : EL → List (List Value) → Prop
  | .nil, rows => rows = []
  | .cons f k r, rows => ∃ kv kr rs, rows = efC f kv :: rs ∧ EFr f ∧ Rows P w kv 7 kr ∧ ELW P w k kr ∧ ELW P w r rs
def SLW (P : Nat → Prop) (w : World) : SL → List (List Value) → Prop
  | .nil, rows => rows = []
  | .cons f ex th el r, rows => ∃ ev er tv tr lv lr rs, rows = sfC f ev tv lv :: rs ∧ SFr f ∧ Rows P w ev 7 er ∧ ELW P w ex er ∧ Rows P w tv 8 tr ∧ SLW P w th tr ∧ Rows P w lv 8 lr ∧ SLW P w el lr ∧ SLW P w r rs
theorem ELW.step {P : Nat → Prop} {w w' : World} (k : KP P w w') : ∀ {t : EL} {rows : List (List Value)}, ELW P w t rows → ELW P w' t rows
  | .nil, _, h => h
  | .cons f ks r, rows, h => by
    obtain ⟨kv, kr, rs, e, h0, h1, h2, h3⟩ := h
    exact ⟨kv, kr, rs, e, h0, h1.step k, ELW.step k h2, ELW.step k h3⟩
theorem SLW.step {P : Nat → Prop} {w w' : World} (k : KP P w w') : ∀ {t : SL} {rows : List (List Value)}, SLW P w t rows → SLW P w' t rows
  | .nil, _, h => h
  | .cons f ex th el r, rows, h => by
    obtain ⟨ev, er, tv, tr, lv, lr, rs, e, h0, h1, h2, h3, h4, h5, h6, h7⟩ := h
    exact ⟨ev, er, tv, tr, lv, lr, rs, e, h0, h1.step k, h2.step k, h3.step k, SLW.step k h4, h5.step k, SLW.step k h6, SLW.step k h7⟩
theorem ELW.len {P : Nat → Prop} {w : World} : ∀ {t : EL} {rows : List (List Value)}, ELW P w t rows → rows.length = t.len
  | .nil, _, h => by rw [show _ = [] from h]; rfl
  | .cons f ks r, rows, h => by
    obtain ⟨kv, kr, rs, e, h0, h1, h2, h3⟩ := h
    rw [e, List.length_cons, ELW.len h3]; rfl
theorem SLW.len {P : Nat → Prop} {w : World} : ∀ {t : SL} {rows : List (List Value)}, SLW P w t rows → rows.length = t.len
  | .nil, _, h => by rw [show _ = [] from h]; rfl
  | .cons f ex th el r, rows, h => by
    obtain ⟨ev, er, tv, tr, lv, lr, rs, e, h0, h1, h2, h3, h4, h5, h6, h7⟩ := h
    rw [e, List.length_cons, SLW.len h7]; rfl
theorem ELW.get {P : Nat → Prop} {w : World} : ∀ {t : EL} {rows : List (List Value)}, ELW P w t rows → ∀ i (hi : i < t.toL.length) (hr : i < rows.length), ∃ kv kr, rows[i] = efC t.toL[i].1 kv ∧ EFr t.toL[i].1 ∧ Rows P w kv 7 kr ∧ ELW P w t.toL[i].2 kr
  | .nil, _, h, i, hi, _ => by simp [EL.toL] at hi
  | .cons f ks r, rows, h, i, hi, hr => by
    obtain ⟨kv, kr, rs, e, h0, h1, h2, h3⟩ := h
    subst e
    cases i with
    | zero => exact ⟨kv, kr, rfl, h0, h1, h2⟩
    | succ i => exact ELW.get h3 i (by simpa [EL.toL] using hi) (by simpa using hr)
theorem SLW.get {P : Nat → Prop} {w : World} : ∀ {t : SL} {rows : List (List Value)}, SLW P w t rows → ∀ i (hi : i < t.toL.length) (hr : i < rows.length), ∃ ev er tv tr lv lr, rows[i] = sfC t.toL[i].1 ev tv lv ∧ SFr t.toL[i].1 ∧ Rows P w ev 7 er ∧ ELW P w t.toL[i].2.1 er ∧ Rows P w tv 8 tr ∧ SLW P w t.toL[i].2.2.1 tr ∧ Rows P w lv 8 lr ∧ SLW P w t.toL[i].2.2.2 lr
  | .nil, _, h, i, hi, _ => by simp [SL.toL] at hi
  | .cons f ex th el r, rows, h, i, hi, hr => by
    obtain ⟨ev, er, tv, tr, lv, lr, rs, e, h0, h1, h2, h3, h4, h5, h6, h7⟩ := h
    subst e
    cases i with
    | zero => exact ⟨ev, er, tv, tr, lv, lr, rfl, h0, h1, h2, h3, h4, h5, h6⟩
    | succ i => exact SLW.get h7 i (by simpa [SL.toL] using hi) (by simpa using hr)
theorem EL.mem_size : ∀ {t : EL} {x : EF × EL}, x ∈ t.toL → x.2.size < t.size
  | .nil, x, h => by simp [EL.toL] at h
  | .cons f k r, x, h => by
    simp only [EL.toL, List.mem_cons] at h
    simp only [EL.size]
    rcases h with rfl | h
    · simp only; omega
    · have := EL.mem_size h; omega
theorem SL.mem_size : ∀ {t : SL} {x : SF × EL × SL × SL}, x ∈ t.toL → x.2.2.1.size < t.size ∧ x.2.2.2.size < t.size
  | .nil, x, h => by simp [SL.toL] at h
  | .cons f ex th el r, x, h => by
    simp only [SL.toL, List.mem_cons] at h
    simp only [SL.size]
    rcases h with rfl | h
    · simp only; omega
    · have := SL.mem_size h; omega
end Go.Proofs.Qxb6500772a
