/- The pure functions of the program. -/
import Derived.Test.YtkgoleipdcbekaaSl43
namespace Go.Proofs.Ytkgoleipdcbekaa.L
open Go
set_option linter.unusedVariables false
structure Cond where
  Col : Int
  Op : Int
  V : Int
  deriving Inhabited, DecidableEq
structure Query where
  Table : Int
  Where : List Cond
  Order : Int
  Down : Bool
  First : Int
  Show : List Int
  Kids : Bool
  KidTable : Int
  KidCol : Int
  deriving Inhabited, DecidableEq
structure Row where
  Id : Int
  Cells : List Int
  deriving Inhabited, DecidableEq
structure Schema where
  Cols : List Int
  deriving Inhabited, DecidableEq
structure l1Cur where
  b : List Int
  i : Int
  h : Int
  deriving Inhabited, DecidableEq

def impl_within.f (a0 : Int) (a1 : Int) (a2 : Int) : Option Bool :=
  some (bo3 (decide (a1 ≤ a0)) (decide (a0 ≤ a2)) false)

def impl_SchemaOk.l0 (a0 : Schema) (K2 : Unit → Option Bool) : Nat → Int → Option Bool
  | 0, _ => none
  | k + 1, z7 =>
    bif (decide (z7 < (lenI a0.Cols))) then (
    (getO a0.Cols z7).bind fun x9 =>
    (impl_within.f x9 1 4).bind fun r10 =>
    bif (bo3 r10 false true) then (
    some false)
    else (
    impl_SchemaOk.l0 a0 K2 k (w64 (z7 + 1))))
    else (
    K2 ())
def impl_SchemaOk.f (a0 : Schema) : Option Bool :=
  joinK (fun (y1 : Unit) =>
  (impl_within.f (lenI a0.Cols) 1 3).bind fun r12 =>
  some r12) (fun K2 =>
  impl_SchemaOk.l0 a0 K2 (((lenI a0.Cols) - 0).toNat + 1) 0)

def impl_hasTable.f (a0 : Schema) (a1 : Int) : Option Bool :=
  (impl_within.f a1 0 (w64 ((lenI a0.Cols) - 1))).bind fun r1 =>
  some r1

def impl_isNum.f (a0 : Int) : Option Bool :=
  (impl_within.f a0 (-1000000000) 1000000000).bind fun r1 =>
  some r1

def impl_kidsFit.f (a0 : Schema) (a1 : Query) : Option Bool :=
  bif (bo3 a1.Kids false true) then (
  some (bo3 (decide (a1.KidTable = 0)) (decide (a1.KidCol = 0)) false))
  else (
  (impl_hasTable.f a0 a1.KidTable).bind fun r7 =>
  (gd r7 (getO a0.Cols a1.KidTable)).bind fun x8 =>
  (gd r7 (impl_within.f a1.KidCol 0 (w64 (x8 - 1)))).bind fun r9 =>
  some (bo3 r7 r9 false))

def impl_QueryOk.l0 (a1 : Query) (x11 : Int) (K13 : Unit → Option Bool) : Nat → Int → Option Bool
  | 0, _ => none
  | k + 1, z28 =>
    bif (decide (z28 < (lenI a1.Where))) then (
    (getO a1.Where z28).bind fun x30 =>
    (impl_within.f x30.Col 0 (w64 (x11 - 1))).bind fun r31 =>
    (gd (bo3 (bo3 r31 false true) false true) (impl_within.f x30.Op 1 4)).bind fun r32 =>
    (gd (bo3 (bo3 (bo3 r31 false true) true (bo3 r32 false true)) false true) (impl_isNum.f x30.V)).bind fun r33 =>
    bif (bo3 (bo3 (bo3 r31 false true) true (bo3 r32 false true)) true (bo3 r33 false true)) then (
    some false)
    else (
    impl_QueryOk.l0 a1 x11 K13 k (w64 (z28 + 1))))
    else (
    K13 ())
def impl_QueryOk.l1 (a1 : Query) (x11 : Int) (K48 : Unit → Option Bool) : Nat → Int → Option Bool
  | 0, _ => none
  | k + 1, z63 =>
    bif (decide (z63 < (lenI a1.Show))) then (
    (getO a1.Show z63).bind fun x65 =>
    (impl_within.f x65 0 (w64 (x11 - 1))).bind fun r66 =>
    (gd (bo3 (bo3 (bo3 r66 false true) false true) (decide (0 < z63)) false) (getO a1.Show (w64 (z63 - 1)))).bind fun x67 =>
    bif (bo3 (bo3 r66 false true) true (bo3 (decide (0 < z63)) (decide (x65 ≤ x67)) false)) then (
    some false)
    else (
    impl_QueryOk.l1 a1 x11 K48 k (w64 (z63 + 1))))
    else (
    K48 ())
def impl_QueryOk.f (a0 : Schema) (a1 : Query) : Option Bool :=
  (impl_SchemaOk.f a0).bind fun r1 =>
  (gd (bo3 (bo3 r1 false true) false true) (impl_hasTable.f a0 a1.Table)).bind fun r2 =>
  bif (bo3 (bo3 r1 false true) true (bo3 r2 false true)) then (
  some false)
  else (
  (getO a0.Cols a1.Table).bind fun x11 =>
  joinK (fun (y12 : Unit) =>
  joinK (fun (y47 : Unit) =>
  (impl_within.f a1.Order 0 x11).bind fun r85 =>
  (gd (bo3 (decide ((lenI a1.Where) ≤ 3)) (bo3 r85 (bo3 (bo3 a1.Down false true) true (decide (0 < a1.Order))) false) false) (impl_within.f a1.First 0 24)).bind fun r98 =>
  (gd (bo3 (bo3 (decide ((lenI a1.Where) ≤ 3)) (bo3 r85 (bo3 (bo3 a1.Down false true) true (decide (0 < a1.Order))) false) false) r98 false) (impl_kidsFit.f a0 a1)).bind fun r99 =>
  some (bo3 (bo3 (bo3 (decide ((lenI a1.Where) ≤ 3)) (bo3 r85 (bo3 (bo3 a1.Down false true) true (decide (0 < a1.Order))) false) false) r98 false) r99 false)) (fun K48 =>
  impl_QueryOk.l1 a1 x11 K48 (((lenI a1.Show) - 0).toNat + 1) 0)) (fun K13 =>
  impl_QueryOk.l0 a1 x11 K13 (((lenI a1.Where) - 0).toNat + 1) 0))

def spec_l1In.f (a0 : Int) (a1 : Int) (a2 : Int) : Option Bool :=
  some (bo3 (decide (a1 ≤ a0)) (decide (a0 ≤ a2)) false)

def spec_SchemaOk.l0 (a0 : Schema) (K2 : Unit → Option Bool) : Nat → Int → Option Bool
  | 0, _ => none
  | k + 1, z5 =>
    bif (decide (z5 < (lenI a0.Cols))) then (
    (getO a0.Cols z5).bind fun x7 =>
    (spec_l1In.f x7 1 4).bind fun r8 =>
    bif (bo3 r8 false true) then (
    some false)
    else (
    spec_SchemaOk.l0 a0 K2 k (w64 (z5 + 1))))
    else (
    K2 ())
def spec_SchemaOk.f (a0 : Schema) : Option Bool :=
  joinK (fun (y1 : Unit) =>
  (spec_l1In.f (lenI a0.Cols) 1 3).bind fun r10 =>
  some r10) (fun K2 =>
  spec_SchemaOk.l0 a0 K2 (((lenI a0.Cols) - 0).toNat + 1) 0)

def spec_QueryOk.l0 (a1 : Query) (x20 : Int) (K22 : Unit → Option Bool) : Nat → Int → Option Bool
  | 0, _ => none
  | k + 1, z35 =>
    bif (decide (z35 < (lenI a1.Where))) then (
    (getO a1.Where z35).bind fun x37 =>
    (spec_l1In.f x37.Col 0 (w64 (x20 - 1))).bind fun r38 =>
    (gd (bo3 (bo3 r38 false true) false true) (spec_l1In.f x37.Op 1 4)).bind fun r39 =>
    (gd (bo3 (bo3 (bo3 r38 false true) true (bo3 r39 false true)) false true) (spec_l1In.f x37.V (-1000000000) 1000000000)).bind fun r40 =>
    bif (bo3 (bo3 (bo3 r38 false true) true (bo3 r39 false true)) true (bo3 r40 false true)) then (
    some false)
    else (
    spec_QueryOk.l0 a1 x20 K22 k (w64 (z35 + 1))))
    else (
    K22 ())
def spec_QueryOk.l1 (a1 : Query) (x20 : Int) (K55 : Unit → Option Bool) : Nat → Int → Option Bool
  | 0, _ => none
  | k + 1, z68 =>
    bif (decide (z68 < (lenI a1.Show))) then (
    (getO a1.Show z68).bind fun x70 =>
    (spec_l1In.f x70 0 (w64 (x20 - 1))).bind fun r71 =>
    (gd (bo3 (bo3 (bo3 r71 false true) false true) (decide (0 < z68)) false) (getO a1.Show (w64 (z68 - 1)))).bind fun x72 =>
    bif (bo3 (bo3 r71 false true) true (bo3 (decide (0 < z68)) (decide (x70 ≤ x72)) false)) then (
    some false)
    else (
    spec_QueryOk.l1 a1 x20 K55 k (w64 (z68 + 1))))
    else (
    K55 ())
def spec_QueryOk.f (a0 : Schema) (a1 : Query) : Option Bool :=
  (spec_SchemaOk.f a0).bind fun r1 =>
  (gd (bo3 (bo3 r1 false true) false true) (spec_l1In.f a1.Table 0 (w64 ((lenI a0.Cols) - 1)))).bind fun r2 =>
  bif (bo3 (bo3 (bo3 r1 false true) true (bo3 r2 false true)) true (decide (3 < (lenI a1.Where)))) then (
  some false)
  else (
  (getO a0.Cols a1.Table).bind fun x20 =>
  joinK (fun (y21 : Unit) =>
  joinK (fun (y54 : Unit) =>
  (spec_l1In.f a1.Order 0 x20).bind fun r94 =>
  (gd (bo3 (bo3 r94 false true) false true) (spec_l1In.f a1.First 0 24)).bind fun r95 =>
  bif (bo3 (bo3 (bo3 r94 false true) true (bo3 r95 false true)) true (bo3 (decide (a1.Order = 0)) a1.Down false)) then (
  some false)
  else (
  bif (bo3 a1.Kids false true) then (
  some (bo3 (decide (a1.KidTable = 0)) (decide (a1.KidCol = 0)) false))
  else (
  (spec_l1In.f a1.KidTable 0 (w64 ((lenI a0.Cols) - 1))).bind fun r120 =>
  (gd r120 (getO a0.Cols a1.KidTable)).bind fun x121 =>
  (gd r120 (spec_l1In.f a1.KidCol 0 (w64 (x121 - 1)))).bind fun r122 =>
  some (bo3 r120 r122 false)))) (fun K55 =>
  spec_QueryOk.l1 a1 x20 K55 (((lenI a1.Show) - 0).toNat + 1) 0)) (fun K22 =>
  spec_QueryOk.l0 a1 x20 K22 (((lenI a1.Where) - 0).toNat + 1) 0))

def laws_at.f (a0 : List Int) (a1 : Int) : Option Int :=
  bif (decide (a1 < (lenI a0))) then (
  (getO a0 a1).bind fun x2 =>
  some (w64 x2))
  else (
  some (Int.tmod (w64 ((w64 (a1 * 7)) + (lenI a0))) 256))

def laws_big.f (a0 : List Int) : Option Bool :=
  some (decide (1048576 < (lenI a0)))

def spec_l1New.l0 (a0 : List Int) : Nat → Int → Int → Option l1Cur
  | 0, _, _ => none
  | k + 1, z4, z5 =>
    bif (bo3 (decide (z5 < (lenI a0))) (decide (z5 < 4000)) false) then (
    (getO a0 z5).bind fun x11 =>
    spec_l1New.l0 a0 k (Ls.ar .and .i64 (w64 ((w64 ((w64 (z4 * 131)) + (w64 x11))) + 7)) 1073741823) (w64 (z5 + 1)))
    else (
    some (l1Cur.mk a0 0 z4))
def spec_l1New.f (a0 : List Int) : Option l1Cur :=
  spec_l1New.l0 a0 (((lenI a0) - 0).toNat + 1) (w64 (17333 + (lenI a0))) 0

def spec_l1Byte.f (a0 : l1Cur) : Option (l1Cur × Int) :=
  bif (decide (a0.i < (lenI a0.b))) then (
  (getO a0.b a0.i).bind fun x2 =>
  some ((l1Cur.mk a0.b (w64 (a0.i + 1)) (w64 ((w64 (a0.h * 6364136223846793005)) + 1442695040888963407))), (Ls.ar .and .i64 (w64 ((Ls.ar .and .i64 (Ls.ar .xor .i64 (Ls.ar .shr .i64 (w64 ((w64 (a0.h * 6364136223846793005)) + 1442695040888963407)) 33) (Ls.ar .shr .i64 (w64 ((w64 (a0.h * 6364136223846793005)) + 1442695040888963407)) 45)) 255) + (w64 x2))) 255)))
  else (
  some ((l1Cur.mk a0.b a0.i (w64 ((w64 (a0.h * 6364136223846793005)) + 1442695040888963407))), (Ls.ar .and .i64 (Ls.ar .xor .i64 (Ls.ar .shr .i64 (w64 ((w64 (a0.h * 6364136223846793005)) + 1442695040888963407)) 33) (Ls.ar .shr .i64 (w64 ((w64 (a0.h * 6364136223846793005)) + 1442695040888963407)) 45)) 255)))

def spec_l1Below.f (a0 : l1Cur) (a1 : Int) : Option (l1Cur × Int) :=
  bif (decide (a1 ≤ 0)) then (
  some (a0, 0))
  else (
  bif (decide (a1 ≤ 256)) then (
  (spec_l1Byte.f a0).bind fun r3 =>
  (nzO a1).bind fun u4 =>
  some ((l1Cur.mk a0.b r3.1.i r3.1.h), (Int.tmod r3.2 a1)))
  else (
  (spec_l1Byte.f a0).bind fun r5 =>
  (spec_l1Byte.f (l1Cur.mk a0.b r5.1.i r5.1.h)).bind fun r6 =>
  (spec_l1Byte.f (l1Cur.mk a0.b r6.1.i r6.1.h)).bind fun r7 =>
  (spec_l1Byte.f (l1Cur.mk a0.b r7.1.i r7.1.h)).bind fun r8 =>
  (nzO a1).bind fun u9 =>
  some ((l1Cur.mk a0.b r8.1.i r8.1.h), (Int.tmod (w64 ((w64 ((w64 ((w64 (r5.2 * 16777216)) + (w64 (r6.2 * 65536)))) + (w64 (r7.2 * 256)))) + r8.2)) a1))))

def spec_l1PickInt.f (a0 : l1Cur) (a1 : List Int) : Option (l1Cur × Int) :=
  (spec_l1Below.f a0 (lenI a1)).bind fun r1 =>
  (getO a1 r1.2).bind fun x2 =>
  some ((l1Cur.mk a0.b r1.1.i r1.1.h), x2)

def spec_l1Once.f (a0 : l1Cur) (a1 : Int) : Option (l1Cur × Bool) :=
  (spec_l1Below.f a0 a1).bind fun r1 =>
  some ((l1Cur.mk a0.b r1.1.i r1.1.h), (decide (r1.2 = 0)))

def spec_l1Max.f (a0 : Int) (a1 : Int) : Option Int :=
  bif (decide (a1 < a0)) then (
  some a0)
  else (
  some a1)

def spec_l9DrawRight.l0 (a0 : l1Cur) (y3 : Int) (K11 : Int → Int → (List Cond) → Option (l1Cur × Query)) : Nat → Int → Int → (List Cond) → Int → Option (l1Cur × Query)
  | 0, _, _, _, _ => none
  | k + 1, z53, z54, z55, z56 =>
    (spec_l1Below.f (l1Cur.mk a0.b z53 z54) 3).bind fun r57 =>
    bif (decide (z56 < r57.2)) then (
    (spec_l1Below.f (l1Cur.mk a0.b r57.1.i r57.1.h) y3).bind fun r59 =>
    (spec_l1Below.f (l1Cur.mk a0.b r59.1.i r59.1.h) 4).bind fun r60 =>
    (spec_l1Below.f (l1Cur.mk a0.b r60.1.i r60.1.h) 6).bind fun r61 =>
    (some [(Cond.mk r59.2 (w64 (1 + r60.2)) r61.2)]).bind fun l62 =>
    (appO 24 z55 l62).bind fun l63 =>
    spec_l9DrawRight.l0 a0 y3 K11 k r61.1.i r61.1.h l63 (w64 (z56 + 1)))
    else (
    K11 r57.1.i r57.1.h z55)
def spec_l9DrawRight.l1 (a0 : l1Cur) (y3 : Int) (K76 : Int → Int → Bool → (List Int) → Option (l1Cur × Query)) : Nat → Int → Int → Bool → (List Int) → Int → Option (l1Cur × Query)
  | 0, _, _, _, _, _ => none
  | k + 1, z120, z121, z122, z123, z124 =>
    bif (decide (z124 < y3)) then (
    (spec_l1Once.f (l1Cur.mk a0.b z120 z121) 2).bind fun r126 =>
    bif r126.2 then (
    (some [z124]).bind fun l128 =>
    (appO 8 z123 l128).bind fun l129 =>
    spec_l9DrawRight.l1 a0 y3 K76 k r126.1.i r126.1.h z122 l129 (w64 (z124 + 1)))
    else (
    spec_l9DrawRight.l1 a0 y3 K76 k r126.1.i r126.1.h z122 z123 (w64 (z124 + 1))))
    else (
    K76 z120 z121 z122 z123)
def spec_l9DrawRight.f (a0 : l1Cur) (a1 : Schema) : Option (l1Cur × Query) :=
  (spec_l1Max.f (lenI a1.Cols) 1).bind fun r1 =>
  (spec_l1Below.f a0 r1).bind fun r2 =>
  joinK (fun (y3 : Int) =>
  joinK (fun (y8 : Int) (y9 : Int) (y10 : List Cond) =>
  (spec_l1Below.f (l1Cur.mk a0.b y8 y9) (w64 (y3 + 1))).bind fun r64 =>
  (gd (decide (0 < r64.2)) (spec_l1Once.f (l1Cur.mk a0.b r64.1.i r64.1.h) 2)).bind fun r65 =>
  (some [0, 0, 1, 2, 3, 5]).bind fun l70 =>
  (spec_l1PickInt.f (l1Cur.mk a0.b (ci3 (decide (0 < r64.2)) r65.1.i r64.1.i) (ci3 (decide (0 < r64.2)) r65.1.h r64.1.h)) l70).bind fun r71 =>
  joinK (fun (y72 : Int) (y73 : Int) (y74 : Bool) (y75 : List Int) =>
  (spec_l1Once.f (l1Cur.mk a0.b y72 y73) 2).bind fun r130 =>
  bif r130.2 then (
  (spec_l1Max.f (lenI a1.Cols) 1).bind fun r132 =>
  (spec_l1Below.f (l1Cur.mk a0.b r130.1.i r130.1.h) r132).bind fun r133 =>
  bif (decide (r133.2 < (lenI a1.Cols))) then (
  (getO a1.Cols r133.2).bind fun x135 =>
  (spec_l1Max.f x135 1).bind fun r136 =>
  (spec_l1Below.f (l1Cur.mk a0.b r133.1.i r133.1.h) r136).bind fun r137 =>
  some ((l1Cur.mk a0.b r137.1.i r137.1.h), (Query.mk r2.2 y10 r64.2 y74 r71.2 y75 true r133.2 r137.2)))
  else (
  some ((l1Cur.mk a0.b r133.1.i r133.1.h), (Query.mk r2.2 y10 r64.2 y74 r71.2 y75 true r133.2 0))))
  else (
  some ((l1Cur.mk a0.b r130.1.i r130.1.h), (Query.mk r2.2 y10 r64.2 y74 r71.2 y75 false 0 0)))) (fun K76 =>
  spec_l9DrawRight.l1 a0 y3 K76 ((y3 - 0).toNat + 1) r71.1.i r71.1.h (bo3 (decide (0 < r64.2)) r65.2 false) [] 0)) (fun K11 =>
  spec_l9DrawRight.l0 a0 y3 K11 1000 r2.1.i r2.1.h [] 0)) (fun K4 =>
  bif (decide (r2.2 < (lenI a1.Cols))) then (
  (getO a1.Cols r2.2).bind fun x6 =>
  (spec_l1Max.f x6 1).bind fun r7 =>
  K4 r7)
  else (
  K4 1))

def spec_l9Draw.f (a0 : l1Cur) (a1 : Schema) : Option (l1Cur × Query) :=
  (spec_l9DrawRight.f a0 a1).bind fun r1 =>
  (spec_l1Below.f (l1Cur.mk a0.b r1.1.i r1.1.h) 25).bind fun r2 =>
  bif (decide (r2.2 = 0)) then (
  (spec_l1Below.f (l1Cur.mk a0.b r2.1.i r2.1.h) 5).bind fun r4 =>
  some ((l1Cur.mk a0.b r4.1.i r4.1.h), (Query.mk (w64 (r4.2 - 1)) r1.2.Where r1.2.Order r1.2.Down r1.2.First r1.2.Show r1.2.Kids r1.2.KidTable r1.2.KidCol)))
  else (
  bif (decide (r2.2 = 1)) then (
  (spec_l1Below.f (l1Cur.mk a0.b r2.1.i r2.1.h) 6).bind fun r6 =>
  (spec_l1Below.f (l1Cur.mk a0.b r6.1.i r6.1.h) 6).bind fun r7 =>
  (some [0, 1000000001]).bind fun l8 =>
  (spec_l1PickInt.f (l1Cur.mk a0.b r7.1.i r7.1.h) l8).bind fun r9 =>
  (some [(Cond.mk (w64 (r6.2 - 1)) r7.2 r9.2)]).bind fun l10 =>
  (appO 24 r1.2.Where l10).bind fun l11 =>
  some ((l1Cur.mk a0.b r9.1.i r9.1.h), (Query.mk r1.2.Table l11 r1.2.Order r1.2.Down r1.2.First r1.2.Show r1.2.Kids r1.2.KidTable r1.2.KidCol)))
  else (
  bif (decide (r2.2 = 2)) then (
  (spec_l1Below.f (l1Cur.mk a0.b r2.1.i r2.1.h) 7).bind fun r13 =>
  some ((l1Cur.mk a0.b r13.1.i r13.1.h), (Query.mk r1.2.Table r1.2.Where (w64 (r13.2 - 1)) r1.2.Down r1.2.First r1.2.Show r1.2.Kids r1.2.KidTable r1.2.KidCol)))
  else (
  bif (decide (r2.2 = 3)) then (
  (some [(-1), 24, 25]).bind fun l15 =>
  (spec_l1PickInt.f (l1Cur.mk a0.b r2.1.i r2.1.h) l15).bind fun r16 =>
  some ((l1Cur.mk a0.b r16.1.i r16.1.h), (Query.mk r1.2.Table r1.2.Where r1.2.Order r1.2.Down r16.2 r1.2.Show r1.2.Kids r1.2.KidTable r1.2.KidCol)))
  else (
  bif (decide (r2.2 = 4)) then (
  (spec_l1Below.f (l1Cur.mk a0.b r2.1.i r2.1.h) 5).bind fun r18 =>
  (some [r18.2]).bind fun l19 =>
  (appO 8 r1.2.Show l19).bind fun l20 =>
  some ((l1Cur.mk a0.b r18.1.i r18.1.h), (Query.mk r1.2.Table r1.2.Where r1.2.Order r1.2.Down r1.2.First l20 r1.2.Kids r1.2.KidTable r1.2.KidCol)))
  else (
  bif (decide (r2.2 = 5)) then (
  (spec_l1Below.f (l1Cur.mk a0.b r2.1.i r2.1.h) 6).bind fun r22 =>
  some ((l1Cur.mk a0.b r22.1.i r22.1.h), (Query.mk r1.2.Table r1.2.Where r1.2.Order r1.2.Down r1.2.First r1.2.Show r1.2.Kids r1.2.KidTable (w64 (r22.2 - 1)))))
  else (
  some ((l1Cur.mk a0.b r2.1.i r2.1.h), r1.2)))))))

def spec_l6DrawSchema.l0 (a0 : l1Cur) : Nat → Int → Int → (List Int) → Int → Option (l1Cur × Schema)
  | 0, _, _, _, _ => none
  | k + 1, z10, z11, z12, z13 =>
    (spec_l1Below.f (l1Cur.mk a0.b z10 z11) 3).bind fun r14 =>
    bif (decide (z13 < (w64 (1 + r14.2)))) then (
    (spec_l1Below.f (l1Cur.mk a0.b r14.1.i r14.1.h) 4).bind fun r16 =>
    (some [(w64 (1 + r16.2))]).bind fun l17 =>
    (appO 8 z12 l17).bind fun l18 =>
    spec_l6DrawSchema.l0 a0 k r16.1.i r16.1.h l18 (w64 (z13 + 1)))
    else (
    some ((l1Cur.mk a0.b r14.1.i r14.1.h), (Schema.mk z12)))
def spec_l6DrawSchema.f (a0 : l1Cur) : Option (l1Cur × Schema) :=
  spec_l6DrawSchema.l0 a0 1000 a0.i a0.h [] 0

def spec_l6DrawRow.l0 (a0 : l1Cur) (a1 : Int) : Nat → Int → Int → Int → (List Int) → Int → Option (l1Cur × Row)
  | 0, _, _, _, _, _ => none
  | k + 1, z17, z18, z19, z20, z21 =>
    bif (decide (z21 < a1)) then (
    (spec_l1Below.f (l1Cur.mk a0.b z17 z18) 6).bind fun r23 =>
    (some [r23.2]).bind fun l24 =>
    (appO 8 z20 l24).bind fun l25 =>
    spec_l6DrawRow.l0 a0 a1 k r23.1.i r23.1.h z19 l25 (w64 (z21 + 1)))
    else (
    some ((l1Cur.mk a0.b z17 z18), (Row.mk z19 z20)))
def spec_l6DrawRow.f (a0 : l1Cur) (a1 : Int) : Option (l1Cur × Row) :=
  (spec_l1Below.f a0 12).bind fun r1 =>
  spec_l6DrawRow.l0 a0 a1 ((a1 - 0).toNat + 1) r1.1.i r1.1.h (w64 (1 + r1.2)) [] 0

def spec_l9DrawOne.f (a0 : List Int) : Option (Query × Row × Row) :=
  (spec_l1New.f a0).bind fun r1 =>
  (spec_l6DrawSchema.f r1).bind fun r2 =>
  (spec_l9Draw.f (l1Cur.mk r1.b r2.1.i r2.1.h) r2.2).bind fun r3 =>
  joinK (fun (y4 : Int) =>
  (spec_l6DrawRow.f (l1Cur.mk r1.b r3.1.i r3.1.h) y4).bind fun r9 =>
  (spec_l6DrawRow.f (l1Cur.mk r1.b r9.1.i r9.1.h) y4).bind fun r10 =>
  some (r3.2, r9.2, r10.2)) (fun K5 =>
  (spec_l1In.f r3.2.Table 0 (w64 ((lenI r2.2.Cols) - 1))).bind fun r6 =>
  bif r6 then (
  (getO r2.2.Cols r3.2.Table).bind fun x8 =>
  K5 x8)
  else (
  K5 2))

def spec_DrawMatches.f (a0 : List Int) : Option (Query × Row) :=
  (spec_l9DrawOne.f a0).bind fun r1 =>
  some (r1.1, r1.2.1)

def impl_holds.f (a0 : Cond) (a1 : Row) : Option Bool :=
  (impl_within.f a0.Col 0 (w64 ((lenI a1.Cells) - 1))).bind fun r1 =>
  bif (bo3 r1 false true) then (
  some false)
  else (
  (getO a1.Cells a0.Col).bind fun x3 =>
  bif (decide (a0.Op = 1)) then (
  some (decide (x3 = a0.V)))
  else (
  bif (decide (a0.Op = 2)) then (
  some (decide (x3 < a0.V)))
  else (
  bif (decide (a0.Op = 3)) then (
  some (decide (a0.V < x3)))
  else (
  some (bo3 (decide (a0.Op = 4)) (decide (x3 ≠ a0.V)) false)))))

def impl_Matches.l0 (a0 : Query) (a1 : Row) : Nat → Int → Option Bool
  | 0, _ => none
  | k + 1, z6 =>
    bif (decide (z6 < (lenI a0.Where))) then (
    (getO a0.Where z6).bind fun x8 =>
    (impl_holds.f x8 a1).bind fun r9 =>
    bif (bo3 r9 false true) then (
    some false)
    else (
    impl_Matches.l0 a0 a1 k (w64 (z6 + 1))))
    else (
    some true)
def impl_Matches.f (a0 : Query) (a1 : Row) : Option Bool :=
  impl_Matches.l0 a0 a1 (((lenI a0.Where) - 0).toNat + 1) 0

def spec_l9Holds.f (a0 : Cond) (a1 : Row) : Option Bool :=
  (spec_l1In.f a0.Col 0 (w64 ((lenI a1.Cells) - 1))).bind fun r1 =>
  bif (bo3 r1 false true) then (
  some false)
  else (
  (getO a1.Cells a0.Col).bind fun x3 =>
  bif (decide (a0.Op = 1)) then (
  some (decide (x3 = a0.V)))
  else (
  bif (decide (a0.Op = 2)) then (
  some (decide (x3 < a0.V)))
  else (
  bif (decide (a0.Op = 3)) then (
  some (decide (a0.V < x3)))
  else (
  bif (decide (a0.Op = 4)) then (
  some (decide (x3 ≠ a0.V)))
  else (
  some false)))))

def spec_Matches.l0 (a0 : Query) (a1 : Row) : Nat → Int → Option Bool
  | 0, _ => none
  | k + 1, z13 =>
    bif (decide (z13 < (lenI a0.Where))) then (
    (getO a0.Where z13).bind fun x15 =>
    (spec_l9Holds.f x15 a1).bind fun r16 =>
    bif (bo3 r16 false true) then (
    some false)
    else (
    spec_Matches.l0 a0 a1 k (w64 (z13 + 1))))
    else (
    some true)
def spec_Matches.f (a0 : Query) (a1 : Row) : Option Bool :=
  spec_Matches.l0 a0 a1 (((lenI a0.Where) - 0).toNat + 1) 0

def spec_l6DrawBad.f (a0 : l1Cur) : Option (l1Cur × Schema) :=
  (spec_l6DrawSchema.f a0).bind fun r1 =>
  (spec_l1Below.f (l1Cur.mk a0.b r1.1.i r1.1.h) 12).bind fun r2 =>
  bif (decide (r2.2 = 0)) then (
  (some [1, 1, 1]).bind fun l4 =>
  (appO 8 r1.2.Cols l4).bind fun l5 =>
  some ((l1Cur.mk a0.b r2.1.i r2.1.h), (Schema.mk l5)))
  else (
  bif (decide (r2.2 = 1)) then (
  (some [0, 5, (-1)]).bind fun l7 =>
  (spec_l1PickInt.f (l1Cur.mk a0.b r2.1.i r2.1.h) l7).bind fun r8 =>
  (getO r1.2.Cols 0).bind fun x9 =>
  (some (setI r1.2.Cols 0 r8.2)).bind fun l10 =>
  some ((l1Cur.mk a0.b r8.1.i r8.1.h), (Schema.mk l10)))
  else (
  bif (decide (r2.2 = 2)) then (
  some ((l1Cur.mk a0.b r2.1.i r2.1.h), (Schema.mk [])))
  else (
  some ((l1Cur.mk a0.b r2.1.i r2.1.h), r1.2))))

def spec_DrawQueryOk.f (a0 : List Int) : Option (Schema × Query) :=
  (spec_l1New.f a0).bind fun r1 =>
  (spec_l6DrawBad.f r1).bind fun r2 =>
  (spec_l9Draw.f (l1Cur.mk r1.b r2.1.i r2.1.h) r2.2).bind fun r3 =>
  some (r2.2, r3.2)

def laws_FnMatches.f (a0 : List Int) : Option Bool :=
  (laws_big.f a0).bind fun r1 =>
  bif r1 then (
  some true)
  else (
  (spec_DrawMatches.f a0).bind fun r3 =>
  (impl_Matches.f r3.1 r3.2).bind fun r4 =>
  (spec_Matches.f r3.1 r3.2).bind fun r5 =>
  bif (bo3 r4 (bo3 r5 false true) r5) then (
  some false)
  else (
  (spec_DrawQueryOk.f a0).bind fun r7 =>
  (impl_QueryOk.f r7.1 r7.2).bind fun r8 =>
  (spec_QueryOk.f r7.1 r7.2).bind fun r9 =>
  bif (bo3 r8 (bo3 r9 false true) r9) then (
  some false)
  else (
  (appO 24 [] r3.1.Where).bind fun l11 =>
  (laws_at.f a0 1).bind fun r12 =>
  (laws_at.f a0 2).bind fun r13 =>
  (laws_at.f a0 3).bind fun r14 =>
  (some [(Cond.mk (Int.tmod r12 3) (w64 (1 + (Int.tmod r13 4))) (Int.tmod r14 6))]).bind fun l15 =>
  (appO 24 l11 l15).bind fun l16 =>
  (cutO l16 (w64 ((lenI l16) - 1)) (lenI l16)).bind fun l17 =>
  (impl_Matches.f (Query.mk r3.1.Table l16 r3.1.Order r3.1.Down r3.1.First r3.1.Show r3.1.Kids r3.1.KidTable r3.1.KidCol) r3.2).bind fun r18 =>
  (gd r4 (impl_Matches.f (Query.mk r3.1.Table l17 r3.1.Order r3.1.Down r3.1.First r3.1.Show r3.1.Kids r3.1.KidTable r3.1.KidCol) r3.2)).bind fun r19 =>
  some (bo3 r18 (bo3 r4 r19 false) (bo3 (bo3 r4 r19 false) false true)))))

end Go.Proofs.Ytkgoleipdcbekaa.L
