/- cipherm: Camellia's key schedule, the plain words. -/
import Derived.Test.Qxb6500771aGreatCb
import Derived.Test.Qxb6500771aGreatCc
import Derived.Deep.CutRange
namespace Go.Proofs.Qxb6500771aGreat
open Go.RowKit Go.Qm
set_option linter.unusedVariables false
set_option linter.unusedSimpArgs false
attribute [local go_sem ↓] Go.wp_at_zero Go.wp_at_succ

def x64 (a b : Int) : Int := bits .xor .u64 a b
/-- KA out of KL and KR. -/
def kaOf (l r : Int × Int) : Int × Int :=
  let p1 := x64 l.1 r.1
  let p2 := x64 l.2 r.2
  let p3 := x64 p2 (cF p1 11573800789038895243)
  let p4 := x64 p1 (cF p3 13149077528002589618)
  let p5 := x64 p4 l.1
  let p6 := x64 p3 l.2
  let p7 := x64 p6 (cF p5 14334736817860870846)
  let p8 := x64 p5 (cF p7 6124705990439038748)
  (p8, p7)
/-- KB out of KA and KR. -/
def kbOf (a r : Int × Int) : Int × Int :=
  let p9 := x64 a.1 r.1
  let p10 := x64 a.2 r.2
  let p11 := x64 p10 (cF p9 1217423232700263709)
  let p12 := x64 p9 (cF p11 12706493768495710717)
  (p12, p11)
def kw16 (l r a b : Int × Int) : List Int := [l.1, l.2, (tN a 111).1, (tN a 111).2]
def k16 (l r a b : Int × Int) : List Int := [a.1, a.2, (tN l 15).1, (tN l 15).2, (tN a 15).1, (tN a 15).2, (tN l 45).1, (tN l 45).2, (tN a 45).1, (tN l 60).2, (tN a 60).1, (tN a 60).2, (tN l 94).1, (tN l 94).2, (tN a 94).1, (tN a 94).2, (tN l 111).1, (tN l 111).2]
def ke16 (l r a b : Int × Int) : List Int := [(tN a 30).1, (tN a 30).2, (tN l 77).1, (tN l 77).2]
def kw32 (l r a b : Int × Int) : List Int := [l.1, l.2, (tN b 111).1, (tN b 111).2]
def k32 (l r a b : Int × Int) : List Int := [b.1, b.2, (tN r 15).1, (tN r 15).2, (tN a 15).1, (tN a 15).2, (tN b 30).1, (tN b 30).2, (tN l 45).1, (tN l 45).2, (tN a 45).1, (tN a 45).2, (tN r 60).1, (tN r 60).2, (tN b 60).1, (tN b 60).2, (tN l 77).1, (tN l 77).2, (tN r 94).1, (tN r 94).2, (tN a 94).1, (tN a 94).2, (tN l 111).1, (tN l 111).2]
def ke32 (l r a b : Int × Int) : List Int := [(tN r 30).1, (tN r 30).2, (tN l 60).1, (tN l 60).2, (tN a 77).1, (tN a 77).2]
def klOf (key : List UInt8) : Int × Int := ((num ((key.drop 0).take 8) : Nat), (num ((key.drop 8).take 8) : Nat))
def krOf (key : List UInt8) : Int × Int := ((num ((key.drop 16).take 8) : Nat), (num ((key.drop 24).take 8) : Nat))
theorem z87 : (Tryz.prog.info? 145).map (·.zero) = some (some (.agg [Value.int .u64 0, .int .u64 0, .int .u64 0, .int .u64 0].toArray)) := by kernel_rfl
theorem s87 : (Tryz.prog.info? 145).map (·.size) = some 4 := by kernel_rfl
end Go.Proofs.Qxb6500771aGreat
