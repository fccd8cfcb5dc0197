/- The pure functions of the program. -/
import Derived.Test.YtblacmggjfinhaaSl44
namespace Go.Proofs.Ytblacmggjfinhaa.L
open Go
set_option linter.unusedVariables false
structure Cond where
  Col : Int
  Op : Int
  V : Int
  deriving Inhabited, DecidableEq
structure Query where
  Table : Int
  Where : List Cond
  Order : Int
  Down : Bool
  First : Int
  Show : List Int
  Kids : Bool
  KidTable : Int
  KidCol : Int
  deriving Inhabited, DecidableEq
structure Row where
  Id : Int
  Cells : List Int
  deriving Inhabited, DecidableEq
structure Change where
  Table : Int
  Had : Bool
  Has : Bool
  Old : Row
  New : Row
  deriving Inhabited, DecidableEq
structure Schema where
  Cols : List Int
  deriving Inhabited, DecidableEq
structure l1Cur where
  b : List Int
  i : Int
  h : Int
  deriving Inhabited, DecidableEq
structure Store where
  Schema : Schema
  Version : Int
  Tables : List (List Row)
  deriving Inhabited, DecidableEq
structure Mut where
  Kind : Int
  Table : Int
  Row : Row
  deriving Inhabited, DecidableEq

def impl_within.f (a0 : Int) (a1 : Int) (a2 : Int) : Option Bool :=
  some (bo3 (decide (a1 ≤ a0)) (decide (a0 ≤ a2)) false)

def impl_holds.f (a0 : Cond) (a1 : Row) : Option Bool :=
  (impl_within.f a0.Col 0 (w64 ((lenI a1.Cells) - 1))).bind fun r1 =>
  bif (bo3 r1 false true) then (
  some false)
  else (
  (getO a1.Cells a0.Col).bind fun x3 =>
  bif (decide (a0.Op = 1)) then (
  some (decide (x3 = a0.V)))
  else (
  bif (decide (a0.Op = 2)) then (
  some (decide (x3 < a0.V)))
  else (
  bif (decide (a0.Op = 3)) then (
  some (decide (a0.V < x3)))
  else (
  some (bo3 (decide (a0.Op = 4)) (decide (x3 ≠ a0.V)) false)))))

def impl_Matches.l0 (a0 : Query) (a1 : Row) : Nat → Int → Option Bool
  | 0, _ => none
  | k + 1, z6 =>
    bif (decide (z6 < (lenI a0.Where))) then (
    (getO a0.Where z6).bind fun x8 =>
    (impl_holds.f x8 a1).bind fun r9 =>
    bif (bo3 r9 false true) then (
    some false)
    else (
    impl_Matches.l0 a0 a1 k (w64 (z6 + 1))))
    else (
    some true)
def impl_Matches.f (a0 : Query) (a1 : Row) : Option Bool :=
  impl_Matches.l0 a0 a1 (((lenI a0.Where) - 0).toNat + 1) 0

def impl_cellOf.f (a0 : Row) (a1 : Int) : Option Int :=
  (impl_within.f a1 0 (w64 ((lenI a0.Cells) - 1))).bind fun r1 =>
  bif (bo3 r1 false true) then (
  some 0)
  else (
  (getO a0.Cells a1).bind fun x3 =>
  some x3)

def impl_Touches.f (a0 : Query) (a1 : Change) : Option Bool :=
  (gd (bo3 (decide (a1.Table = a0.Table)) a1.Had false) (impl_Matches.f a0 a1.Old)).bind fun r1 =>
  (gd (bo3 (bo3 (decide (a1.Table = a0.Table)) (bo3 (bo3 a1.Had r1 false) false true) false) a1.Has false) (impl_Matches.f a0 a1.New)).bind fun r2 =>
  bif (bo3 (decide (a1.Table = a0.Table)) (bo3 (bo3 a1.Had r1 false) true (bo3 a1.Has r2 false)) false) then (
  some true)
  else (
  bif (bo3 (bo3 a0.Kids false true) true (decide (a1.Table ≠ a0.KidTable))) then (
  some false)
  else (
  (gd (bo3 (bo3 (bo3 a1.Had (bo3 a1.Has false true) a1.Has) false true) a1.Had false) (impl_cellOf.f a1.Old a0.KidCol)).bind fun r38 =>
  (gd (bo3 (bo3 (bo3 a1.Had (bo3 a1.Has false true) a1.Has) false true) a1.Had false) (impl_cellOf.f a1.New a0.KidCol)).bind fun r39 =>
  some (bo3 (bo3 a1.Had (bo3 a1.Has false true) a1.Has) true (bo3 a1.Had (decide (r38 ≠ r39)) false))))

def impl_TouchesAny.l0 (a0 : Query) (a1 : List Change) : Nat → Int → Option Bool
  | 0, _ => none
  | k + 1, z13 =>
    bif (decide (z13 < (lenI a1))) then (
    (getO a1 z13).bind fun x15 =>
    (impl_Touches.f a0 x15).bind fun r16 =>
    bif r16 then (
    some true)
    else (
    impl_TouchesAny.l0 a0 a1 k (w64 (z13 + 1))))
    else (
    some false)
def impl_TouchesAny.f (a0 : Query) (a1 : List Change) : Option Bool :=
  impl_TouchesAny.l0 a0 a1 (((lenI a1) - 0).toNat + 1) 0

def impl_SchemaOk.l0 (a0 : Schema) (K2 : Unit → Option Bool) : Nat → Int → Option Bool
  | 0, _ => none
  | k + 1, z7 =>
    bif (decide (z7 < (lenI a0.Cols))) then (
    (getO a0.Cols z7).bind fun x9 =>
    (impl_within.f x9 1 4).bind fun r10 =>
    bif (bo3 r10 false true) then (
    some false)
    else (
    impl_SchemaOk.l0 a0 K2 k (w64 (z7 + 1))))
    else (
    K2 ())
def impl_SchemaOk.f (a0 : Schema) : Option Bool :=
  joinK (fun (y1 : Unit) =>
  (impl_within.f (lenI a0.Cols) 1 3).bind fun r12 =>
  some r12) (fun K2 =>
  impl_SchemaOk.l0 a0 K2 (((lenI a0.Cols) - 0).toNat + 1) 0)

def impl_hasTable.f (a0 : Schema) (a1 : Int) : Option Bool :=
  (impl_within.f a1 0 (w64 ((lenI a0.Cols) - 1))).bind fun r1 =>
  some r1

def impl_isNum.f (a0 : Int) : Option Bool :=
  (impl_within.f a0 (-1000000000) 1000000000).bind fun r1 =>
  some r1

def impl_kidsFit.f (a0 : Schema) (a1 : Query) : Option Bool :=
  bif (bo3 a1.Kids false true) then (
  some (bo3 (decide (a1.KidTable = 0)) (decide (a1.KidCol = 0)) false))
  else (
  (impl_hasTable.f a0 a1.KidTable).bind fun r7 =>
  (gd r7 (getO a0.Cols a1.KidTable)).bind fun x8 =>
  (gd r7 (impl_within.f a1.KidCol 0 (w64 (x8 - 1)))).bind fun r9 =>
  some (bo3 r7 r9 false))

def impl_QueryOk.l0 (a1 : Query) (x11 : Int) (K13 : Unit → Option Bool) : Nat → Int → Option Bool
  | 0, _ => none
  | k + 1, z28 =>
    bif (decide (z28 < (lenI a1.Where))) then (
    (getO a1.Where z28).bind fun x30 =>
    (impl_within.f x30.Col 0 (w64 (x11 - 1))).bind fun r31 =>
    (gd (bo3 (bo3 r31 false true) false true) (impl_within.f x30.Op 1 4)).bind fun r32 =>
    (gd (bo3 (bo3 (bo3 r31 false true) true (bo3 r32 false true)) false true) (impl_isNum.f x30.V)).bind fun r33 =>
    bif (bo3 (bo3 (bo3 r31 false true) true (bo3 r32 false true)) true (bo3 r33 false true)) then (
    some false)
    else (
    impl_QueryOk.l0 a1 x11 K13 k (w64 (z28 + 1))))
    else (
    K13 ())
def impl_QueryOk.l1 (a1 : Query) (x11 : Int) (K48 : Unit → Option Bool) : Nat → Int → Option Bool
  | 0, _ => none
  | k + 1, z63 =>
    bif (decide (z63 < (lenI a1.Show))) then (
    (getO a1.Show z63).bind fun x65 =>
    (impl_within.f x65 0 (w64 (x11 - 1))).bind fun r66 =>
    (gd (bo3 (bo3 (bo3 r66 false true) false true) (decide (0 < z63)) false) (getO a1.Show (w64 (z63 - 1)))).bind fun x67 =>
    bif (bo3 (bo3 r66 false true) true (bo3 (decide (0 < z63)) (decide (x65 ≤ x67)) false)) then (
    some false)
    else (
    impl_QueryOk.l1 a1 x11 K48 k (w64 (z63 + 1))))
    else (
    K48 ())
def impl_QueryOk.f (a0 : Schema) (a1 : Query) : Option Bool :=
  (impl_SchemaOk.f a0).bind fun r1 =>
  (gd (bo3 (bo3 r1 false true) false true) (impl_hasTable.f a0 a1.Table)).bind fun r2 =>
  bif (bo3 (bo3 r1 false true) true (bo3 r2 false true)) then (
  some false)
  else (
  (getO a0.Cols a1.Table).bind fun x11 =>
  joinK (fun (y12 : Unit) =>
  joinK (fun (y47 : Unit) =>
  (impl_within.f a1.Order 0 x11).bind fun r85 =>
  (gd (bo3 (decide ((lenI a1.Where) ≤ 3)) (bo3 r85 (bo3 (bo3 a1.Down false true) true (decide (0 < a1.Order))) false) false) (impl_within.f a1.First 0 24)).bind fun r98 =>
  (gd (bo3 (bo3 (decide ((lenI a1.Where) ≤ 3)) (bo3 r85 (bo3 (bo3 a1.Down false true) true (decide (0 < a1.Order))) false) false) r98 false) (impl_kidsFit.f a0 a1)).bind fun r99 =>
  some (bo3 (bo3 (bo3 (decide ((lenI a1.Where) ≤ 3)) (bo3 r85 (bo3 (bo3 a1.Down false true) true (decide (0 < a1.Order))) false) false) r98 false) r99 false)) (fun K48 =>
  impl_QueryOk.l1 a1 x11 K48 (((lenI a1.Show) - 0).toNat + 1) 0)) (fun K13 =>
  impl_QueryOk.l0 a1 x11 K13 (((lenI a1.Where) - 0).toNat + 1) 0))

def impl_Concerned.l0 (a0 : Schema) (a1 : List Query) (a2 : List Change) : Nat → (List Int) → Int → Option ((List Int))
  | 0, _, _ => none
  | k + 1, z7, z8 =>
    bif (decide (z8 < (lenI a1))) then (
    (getO a1 z8).bind fun x10 =>
    (impl_QueryOk.f a0 x10).bind fun r11 =>
    (gd r11 (impl_TouchesAny.f x10 a2)).bind fun r12 =>
    bif (bo3 r11 r12 false) then (
    (some [z8]).bind fun l19 =>
    (appO 8 z7 l19).bind fun l20 =>
    impl_Concerned.l0 a0 a1 a2 k l20 (w64 (z8 + 1)))
    else (
    impl_Concerned.l0 a0 a1 a2 k z7 (w64 (z8 + 1))))
    else (
    some z7)
def impl_Concerned.f (a0 : Schema) (a1 : List Query) (a2 : List Change) : Option ((List Int)) :=
  impl_Concerned.l0 a0 a1 a2 (((lenI a1) - 0).toNat + 1) [] 0

def laws_sameInts.l0 (a0 : List Int) (a1 : List Int) : Nat → Int → Option Bool
  | 0, _ => none
  | k + 1, z5 =>
    bif (decide (z5 < (lenI a0))) then (
    (getO a0 z5).bind fun x7 =>
    (getO a1 z5).bind fun x8 =>
    bif (decide (x7 ≠ x8)) then (
    some false)
    else (
    laws_sameInts.l0 a0 a1 k (w64 (z5 + 1))))
    else (
    some true)
def laws_sameInts.f (a0 : List Int) (a1 : List Int) : Option Bool :=
  bif (decide ((lenI a0) ≠ (lenI a1))) then (
  some false)
  else (
  laws_sameInts.l0 a0 a1 (((lenI a0) - 0).toNat + 1) 0)

def spec_l1In.f (a0 : Int) (a1 : Int) (a2 : Int) : Option Bool :=
  some (bo3 (decide (a1 ≤ a0)) (decide (a0 ≤ a2)) false)

def spec_l9Holds.f (a0 : Cond) (a1 : Row) : Option Bool :=
  (spec_l1In.f a0.Col 0 (w64 ((lenI a1.Cells) - 1))).bind fun r1 =>
  bif (bo3 r1 false true) then (
  some false)
  else (
  (getO a1.Cells a0.Col).bind fun x3 =>
  bif (decide (a0.Op = 1)) then (
  some (decide (x3 = a0.V)))
  else (
  bif (decide (a0.Op = 2)) then (
  some (decide (x3 < a0.V)))
  else (
  bif (decide (a0.Op = 3)) then (
  some (decide (a0.V < x3)))
  else (
  bif (decide (a0.Op = 4)) then (
  some (decide (x3 ≠ a0.V)))
  else (
  some false)))))

def spec_Matches.l0 (a0 : Query) (a1 : Row) : Nat → Int → Option Bool
  | 0, _ => none
  | k + 1, z13 =>
    bif (decide (z13 < (lenI a0.Where))) then (
    (getO a0.Where z13).bind fun x15 =>
    (spec_l9Holds.f x15 a1).bind fun r16 =>
    bif (bo3 r16 false true) then (
    some false)
    else (
    spec_Matches.l0 a0 a1 k (w64 (z13 + 1))))
    else (
    some true)
def spec_Matches.f (a0 : Query) (a1 : Row) : Option Bool :=
  spec_Matches.l0 a0 a1 (((lenI a0.Where) - 0).toNat + 1) 0

def spec_l12In.f (a0 : Query) (a1 : Change) : Option Bool :=
  (gd (bo3 (decide (a1.Table = a0.Table)) a1.Had false) (spec_Matches.f a0 a1.Old)).bind fun r1 =>
  (gd (bo3 (bo3 (decide (a1.Table = a0.Table)) (bo3 (bo3 a1.Had r1 false) false true) false) a1.Has false) (spec_Matches.f a0 a1.New)).bind fun r2 =>
  some (bo3 (decide (a1.Table = a0.Table)) (bo3 (bo3 a1.Had r1 false) true (bo3 a1.Has r2 false)) false)

def spec_l9Cell.f (a0 : Row) (a1 : Int) : Option Int :=
  (spec_l1In.f a1 0 (w64 ((lenI a0.Cells) - 1))).bind fun r1 =>
  bif (bo3 r1 false true) then (
  some 0)
  else (
  (getO a0.Cells a1).bind fun x3 =>
  some x3)

def spec_Touches.f (a0 : Query) (a1 : Change) : Option Bool :=
  (spec_l12In.f a0 a1).bind fun r1 =>
  bif r1 then (
  some true)
  else (
  bif (bo3 (bo3 (bo3 a0.Kids false true) true (decide (a1.Table ≠ a0.KidTable))) true (bo3 (bo3 a1.Had false true) (bo3 a1.Has false true) false)) then (
  some false)
  else (
  (gd (bo3 (bo3 a1.Had (bo3 a1.Has false true) a1.Has) false true) (spec_l9Cell.f a1.Old a0.KidCol)).bind fun r23 =>
  (gd (bo3 (bo3 a1.Had (bo3 a1.Has false true) a1.Has) false true) (spec_l9Cell.f a1.New a0.KidCol)).bind fun r24 =>
  some (bo3 (bo3 a1.Had (bo3 a1.Has false true) a1.Has) true (decide (r23 ≠ r24)))))

def spec_TouchesAny.l0 (a0 : Query) (a1 : List Change) : Nat → Int → Option Bool
  | 0, _ => none
  | k + 1, z12 =>
    bif (decide (z12 < (lenI a1))) then (
    (getO a1 z12).bind fun x14 =>
    (spec_Touches.f a0 x14).bind fun r15 =>
    bif r15 then (
    some true)
    else (
    spec_TouchesAny.l0 a0 a1 k (w64 (z12 + 1))))
    else (
    some false)
def spec_TouchesAny.f (a0 : Query) (a1 : List Change) : Option Bool :=
  spec_TouchesAny.l0 a0 a1 (((lenI a1) - 0).toNat + 1) 0

def spec_SchemaOk.l0 (a0 : Schema) (K2 : Unit → Option Bool) : Nat → Int → Option Bool
  | 0, _ => none
  | k + 1, z5 =>
    bif (decide (z5 < (lenI a0.Cols))) then (
    (getO a0.Cols z5).bind fun x7 =>
    (spec_l1In.f x7 1 4).bind fun r8 =>
    bif (bo3 r8 false true) then (
    some false)
    else (
    spec_SchemaOk.l0 a0 K2 k (w64 (z5 + 1))))
    else (
    K2 ())
def spec_SchemaOk.f (a0 : Schema) : Option Bool :=
  joinK (fun (y1 : Unit) =>
  (spec_l1In.f (lenI a0.Cols) 1 3).bind fun r10 =>
  some r10) (fun K2 =>
  spec_SchemaOk.l0 a0 K2 (((lenI a0.Cols) - 0).toNat + 1) 0)

def spec_QueryOk.l0 (a1 : Query) (x20 : Int) (K22 : Unit → Option Bool) : Nat → Int → Option Bool
  | 0, _ => none
  | k + 1, z35 =>
    bif (decide (z35 < (lenI a1.Where))) then (
    (getO a1.Where z35).bind fun x37 =>
    (spec_l1In.f x37.Col 0 (w64 (x20 - 1))).bind fun r38 =>
    (gd (bo3 (bo3 r38 false true) false true) (spec_l1In.f x37.Op 1 4)).bind fun r39 =>
    (gd (bo3 (bo3 (bo3 r38 false true) true (bo3 r39 false true)) false true) (spec_l1In.f x37.V (-1000000000) 1000000000)).bind fun r40 =>
    bif (bo3 (bo3 (bo3 r38 false true) true (bo3 r39 false true)) true (bo3 r40 false true)) then (
    some false)
    else (
    spec_QueryOk.l0 a1 x20 K22 k (w64 (z35 + 1))))
    else (
    K22 ())
def spec_QueryOk.l1 (a1 : Query) (x20 : Int) (K55 : Unit → Option Bool) : Nat → Int → Option Bool
  | 0, _ => none
  | k + 1, z68 =>
    bif (decide (z68 < (lenI a1.Show))) then (
    (getO a1.Show z68).bind fun x70 =>
    (spec_l1In.f x70 0 (w64 (x20 - 1))).bind fun r71 =>
    (gd (bo3 (bo3 (bo3 r71 false true) false true) (decide (0 < z68)) false) (getO a1.Show (w64 (z68 - 1)))).bind fun x72 =>
    bif (bo3 (bo3 r71 false true) true (bo3 (decide (0 < z68)) (decide (x70 ≤ x72)) false)) then (
    some false)
    else (
    spec_QueryOk.l1 a1 x20 K55 k (w64 (z68 + 1))))
    else (
    K55 ())
def spec_QueryOk.f (a0 : Schema) (a1 : Query) : Option Bool :=
  (spec_SchemaOk.f a0).bind fun r1 =>
  (gd (bo3 (bo3 r1 false true) false true) (spec_l1In.f a1.Table 0 (w64 ((lenI a0.Cols) - 1)))).bind fun r2 =>
  bif (bo3 (bo3 (bo3 r1 false true) true (bo3 r2 false true)) true (decide (3 < (lenI a1.Where)))) then (
  some false)
  else (
  (getO a0.Cols a1.Table).bind fun x20 =>
  joinK (fun (y21 : Unit) =>
  joinK (fun (y54 : Unit) =>
  (spec_l1In.f a1.Order 0 x20).bind fun r94 =>
  (gd (bo3 (bo3 r94 false true) false true) (spec_l1In.f a1.First 0 24)).bind fun r95 =>
  bif (bo3 (bo3 (bo3 r94 false true) true (bo3 r95 false true)) true (bo3 (decide (a1.Order = 0)) a1.Down false)) then (
  some false)
  else (
  bif (bo3 a1.Kids false true) then (
  some (bo3 (decide (a1.KidTable = 0)) (decide (a1.KidCol = 0)) false))
  else (
  (spec_l1In.f a1.KidTable 0 (w64 ((lenI a0.Cols) - 1))).bind fun r120 =>
  (gd r120 (getO a0.Cols a1.KidTable)).bind fun x121 =>
  (gd r120 (spec_l1In.f a1.KidCol 0 (w64 (x121 - 1)))).bind fun r122 =>
  some (bo3 r120 r122 false)))) (fun K55 =>
  spec_QueryOk.l1 a1 x20 K55 (((lenI a1.Show) - 0).toNat + 1) 0)) (fun K22 =>
  spec_QueryOk.l0 a1 x20 K22 (((lenI a1.Where) - 0).toNat + 1) 0))

def spec_Concerned.l0 (a0 : Schema) (a1 : List Query) (a2 : List Change) : Nat → (List Int) → Int → Option ((List Int))
  | 0, _, _ => none
  | k + 1, z6, z7 =>
    bif (decide (z7 < (lenI a1))) then (
    (getO a1 z7).bind fun x9 =>
    (spec_QueryOk.f a0 x9).bind fun r10 =>
    (gd r10 (spec_TouchesAny.f x9 a2)).bind fun r11 =>
    bif (bo3 r10 r11 false) then (
    (some [z7]).bind fun l21 =>
    (appO 8 z6 l21).bind fun l22 =>
    spec_Concerned.l0 a0 a1 a2 k l22 (w64 (z7 + 1)))
    else (
    spec_Concerned.l0 a0 a1 a2 k z6 (w64 (z7 + 1))))
    else (
    some z6)
def spec_Concerned.f (a0 : Schema) (a1 : List Query) (a2 : List Change) : Option ((List Int)) :=
  spec_Concerned.l0 a0 a1 a2 (((lenI a1) - 0).toNat + 1) [] 0

def spec_l1New.l0 (a0 : List Int) : Nat → Int → Int → Option l1Cur
  | 0, _, _ => none
  | k + 1, z4, z5 =>
    bif (bo3 (decide (z5 < (lenI a0))) (decide (z5 < 4000)) false) then (
    (getO a0 z5).bind fun x11 =>
    spec_l1New.l0 a0 k (Ls.ar .and .i64 (w64 ((w64 ((w64 (z4 * 131)) + (w64 x11))) + 7)) 1073741823) (w64 (z5 + 1)))
    else (
    some (l1Cur.mk a0 0 z4))
def spec_l1New.f (a0 : List Int) : Option l1Cur :=
  spec_l1New.l0 a0 (((lenI a0) - 0).toNat + 1) (w64 (17333 + (lenI a0))) 0

def spec_l1Byte.f (a0 : l1Cur) : Option (l1Cur × Int) :=
  bif (decide (a0.i < (lenI a0.b))) then (
  (getO a0.b a0.i).bind fun x2 =>
  some ((l1Cur.mk a0.b (w64 (a0.i + 1)) (w64 ((w64 (a0.h * 6364136223846793005)) + 1442695040888963407))), (Ls.ar .and .i64 (w64 ((Ls.ar .and .i64 (Ls.ar .xor .i64 (Ls.ar .shr .i64 (w64 ((w64 (a0.h * 6364136223846793005)) + 1442695040888963407)) 33) (Ls.ar .shr .i64 (w64 ((w64 (a0.h * 6364136223846793005)) + 1442695040888963407)) 45)) 255) + (w64 x2))) 255)))
  else (
  some ((l1Cur.mk a0.b a0.i (w64 ((w64 (a0.h * 6364136223846793005)) + 1442695040888963407))), (Ls.ar .and .i64 (Ls.ar .xor .i64 (Ls.ar .shr .i64 (w64 ((w64 (a0.h * 6364136223846793005)) + 1442695040888963407)) 33) (Ls.ar .shr .i64 (w64 ((w64 (a0.h * 6364136223846793005)) + 1442695040888963407)) 45)) 255)))

def spec_l1Below.f (a0 : l1Cur) (a1 : Int) : Option (l1Cur × Int) :=
  bif (decide (a1 ≤ 0)) then (
  some (a0, 0))
  else (
  bif (decide (a1 ≤ 256)) then (
  (spec_l1Byte.f a0).bind fun r3 =>
  (nzO a1).bind fun u4 =>
  some ((l1Cur.mk a0.b r3.1.i r3.1.h), (Int.tmod r3.2 a1)))
  else (
  (spec_l1Byte.f a0).bind fun r5 =>
  (spec_l1Byte.f (l1Cur.mk a0.b r5.1.i r5.1.h)).bind fun r6 =>
  (spec_l1Byte.f (l1Cur.mk a0.b r6.1.i r6.1.h)).bind fun r7 =>
  (spec_l1Byte.f (l1Cur.mk a0.b r7.1.i r7.1.h)).bind fun r8 =>
  (nzO a1).bind fun u9 =>
  some ((l1Cur.mk a0.b r8.1.i r8.1.h), (Int.tmod (w64 ((w64 ((w64 ((w64 (r5.2 * 16777216)) + (w64 (r6.2 * 65536)))) + (w64 (r7.2 * 256)))) + r8.2)) a1))))

def spec_l7Schema.f (a0 : Schema) : Option Schema :=
  (appO 8 [] a0.Cols).bind fun l1 =>
  some (Schema.mk l1)

def spec_StoreNew.f (a0 : Schema) : Option (Store × Bool) :=
  (spec_SchemaOk.f a0).bind fun r1 =>
  bif (bo3 r1 false true) then (
  some ((Store.mk (Schema.mk []) 0 []), false))
  else (
  (spec_l7Schema.f a0).bind fun r3 =>
  (mkO 24 (lenI a0.Cols) []).bind fun l4 =>
  some ((Store.mk r3 0 l4), true))

def spec_l6DrawSchema.l0 (a0 : l1Cur) : Nat → Int → Int → (List Int) → Int → Option (l1Cur × Schema)
  | 0, _, _, _, _ => none
  | k + 1, z10, z11, z12, z13 =>
    (spec_l1Below.f (l1Cur.mk a0.b z10 z11) 3).bind fun r14 =>
    bif (decide (z13 < (w64 (1 + r14.2)))) then (
    (spec_l1Below.f (l1Cur.mk a0.b r14.1.i r14.1.h) 4).bind fun r16 =>
    (some [(w64 (1 + r16.2))]).bind fun l17 =>
    (appO 8 z12 l17).bind fun l18 =>
    spec_l6DrawSchema.l0 a0 k r16.1.i r16.1.h l18 (w64 (z13 + 1)))
    else (
    some ((l1Cur.mk a0.b r14.1.i r14.1.h), (Schema.mk z12)))
def spec_l6DrawSchema.f (a0 : l1Cur) : Option (l1Cur × Schema) :=
  spec_l6DrawSchema.l0 a0 1000 a0.i a0.h [] 0

def spec_l6Copy.f (a0 : Row) : Option Row :=
  (appO 8 [] a0.Cells).bind fun l1 =>
  some (Row.mk a0.Id l1)

def spec_RowAt.l0 (a0 : List Row) (a1 : Int) : Nat → Int → Option Int
  | 0, _ => none
  | k + 1, z4 =>
    bif (decide (z4 < (lenI a0))) then (
    (getO a0 z4).bind fun x6 =>
    bif (decide (x6.Id = a1)) then (
    some z4)
    else (
    spec_RowAt.l0 a0 a1 k (w64 (z4 + 1))))
    else (
    some (-1))
def spec_RowAt.f (a0 : List Row) (a1 : Int) : Option Int :=
  spec_RowAt.l0 a0 a1 (((lenI a0) - 0).toNat + 1) 0

def spec_RowDrop.l0 (a0 : List Row) (r1 : Int) : Nat → (List Row) → Int → Option ((List Row))
  | 0, _, _ => none
  | k + 1, z6, z7 =>
    bif (decide (z7 < (lenI a0))) then (
    bif (decide (z7 ≠ r1)) then (
    (getO a0 z7).bind fun x10 =>
    (spec_l6Copy.f x10).bind fun r11 =>
    (some [r11]).bind fun l12 =>
    (appO 32 z6 l12).bind fun l13 =>
    spec_RowDrop.l0 a0 r1 k l13 (w64 (z7 + 1)))
    else (
    spec_RowDrop.l0 a0 r1 k z6 (w64 (z7 + 1))))
    else (
    some z6)
def spec_RowDrop.f (a0 : List Row) (a1 : Int) : Option ((List Row)) :=
  (spec_RowAt.f a0 a1).bind fun r1 =>
  spec_RowDrop.l0 a0 r1 (((lenI a0) - 0).toNat + 1) [] 0

def spec_RowPut.l0 (a1 : Row) (r1 : (List Row)) (K3 : Int → Option ((List Row))) : Nat → Int → Int → Option ((List Row))
  | 0, _, _ => none
  | k + 1, z12, z13 =>
    bif (decide (0 ≤ z13)) then (
    (getO r1 z13).bind fun x15 =>
    bif (decide (a1.Id < x15.Id)) then (
    spec_RowPut.l0 a1 r1 K3 k z13 (w64 (z13 - 1)))
    else (
    spec_RowPut.l0 a1 r1 K3 k z12 (w64 (z13 - 1))))
    else (
    K3 z12)
def spec_RowPut.f (a0 : List Row) (a1 : Row) : Option ((List Row)) :=
  (spec_RowDrop.f a0 a1.Id).bind fun r1 =>
  joinK (fun (y2 : Int) =>
  (cutO r1 0 y2).bind fun l17 =>
  (appO 32 [] l17).bind fun l18 =>
  (spec_l6Copy.f a1).bind fun r19 =>
  (some [r19]).bind fun l20 =>
  (appO 32 l18 l20).bind fun l21 =>
  (cutO r1 y2 (lenI r1)).bind fun l22 =>
  (appO 32 l21 l22).bind fun l23 =>
  some l23) (fun K3 =>
  (spec_RowAt.f a0 a1.Id).bind fun r4 =>
  bif (decide (0 ≤ r4)) then (
  (spec_RowAt.f a0 a1.Id).bind fun r6 =>
  K3 r6)
  else (
  spec_RowPut.l0 a1 r1 K3 (((w64 ((lenI r1) - 1)) - 0).toNat + 2) (lenI r1) (w64 ((lenI r1) - 1))))

def spec_l6DrawRow.l0 (a0 : l1Cur) (a1 : Int) : Nat → Int → Int → Int → (List Int) → Int → Option (l1Cur × Row)
  | 0, _, _, _, _, _ => none
  | k + 1, z17, z18, z19, z20, z21 =>
    bif (decide (z21 < a1)) then (
    (spec_l1Below.f (l1Cur.mk a0.b z17 z18) 6).bind fun r23 =>
    (some [r23.2]).bind fun l24 =>
    (appO 8 z20 l24).bind fun l25 =>
    spec_l6DrawRow.l0 a0 a1 k r23.1.i r23.1.h z19 l25 (w64 (z21 + 1)))
    else (
    some ((l1Cur.mk a0.b z17 z18), (Row.mk z19 z20)))
def spec_l6DrawRow.f (a0 : l1Cur) (a1 : Int) : Option (l1Cur × Row) :=
  (spec_l1Below.f a0 12).bind fun r1 =>
  spec_l6DrawRow.l0 a0 a1 ((a1 - 0).toNat + 1) r1.1.i r1.1.h (w64 (1 + r1.2)) [] 0

def spec_l6DrawRows.l0 (a0 : l1Cur) (a1 : Int) : Nat → Int → Int → (List Row) → Int → Option (l1Cur × (List Row))
  | 0, _, _, _, _ => none
  | k + 1, z7, z8, z9, z10 =>
    (spec_l1Below.f (l1Cur.mk a0.b z7 z8) 9).bind fun r11 =>
    bif (decide (z10 < r11.2)) then (
    (spec_l6DrawRow.f (l1Cur.mk a0.b r11.1.i r11.1.h) a1).bind fun r13 =>
    (spec_RowPut.f z9 r13.2).bind fun r14 =>
    spec_l6DrawRows.l0 a0 a1 k r13.1.i r13.1.h r14 (w64 (z10 + 1)))
    else (
    some ((l1Cur.mk a0.b r11.1.i r11.1.h), z9))
def spec_l6DrawRows.f (a0 : l1Cur) (a1 : Int) : Option (l1Cur × (List Row)) :=
  spec_l6DrawRows.l0 a0 a1 1000 a0.i a0.h [] 0

def spec_l7DrawRight.l0 (a0 : l1Cur) (r2 : Store × Bool) (K6 : Int → Int → (List (List Row)) → Option (l1Cur × Store)) : Nat → Int → Int → (List (List Row)) → Int → Option (l1Cur × Store)
  | 0, _, _, _, _ => none
  | k + 1, z15, z16, z17, z18 =>
    bif (decide (z18 < (lenI z17))) then (
    (getO r2.1.Schema.Cols z18).bind fun x20 =>
    (spec_l6DrawRows.f (l1Cur.mk a0.b z15 z16) x20).bind fun r21 =>
    (getO z17 z18).bind fun x22 =>
    (some (setI z17 z18 r21.2)).bind fun l23 =>
    spec_l7DrawRight.l0 a0 r2 K6 k r21.1.i r21.1.h l23 (w64 (z18 + 1)))
    else (
    K6 z15 z16 z17)
def spec_l7DrawRight.f (a0 : l1Cur) : Option (l1Cur × Store) :=
  (spec_l6DrawSchema.f a0).bind fun r1 =>
  (spec_StoreNew.f r1.2).bind fun r2 =>
  joinK (fun (y3 : Int) (y4 : Int) (y5 : List (List Row)) =>
  (spec_l1Below.f (l1Cur.mk a0.b y3 y4) 5).bind fun r24 =>
  some ((l1Cur.mk a0.b r24.1.i r24.1.h), (Store.mk r2.1.Schema r24.2 y5))) (fun K6 =>
  spec_l7DrawRight.l0 a0 r2 K6 (((lenI r2.1.Tables) - 0).toNat + 1) r1.1.i r1.1.h r2.1.Tables 0)

def spec_l1Once.f (a0 : l1Cur) (a1 : Int) : Option (l1Cur × Bool) :=
  (spec_l1Below.f a0 a1).bind fun r1 =>
  some ((l1Cur.mk a0.b r1.1.i r1.1.h), (decide (r1.2 = 0)))

def spec_l1PickInt.f (a0 : l1Cur) (a1 : List Int) : Option (l1Cur × Int) :=
  (spec_l1Below.f a0 (lenI a1)).bind fun r1 =>
  (getO a1 r1.2).bind fun x2 =>
  some ((l1Cur.mk a0.b r1.1.i r1.1.h), x2)

def spec_l1Max.f (a0 : Int) (a1 : Int) : Option Int :=
  bif (decide (a1 < a0)) then (
  some a0)
  else (
  some a1)

def spec_l9DrawRight.l0 (a0 : l1Cur) (y3 : Int) (K11 : Int → Int → (List Cond) → Option (l1Cur × Query)) : Nat → Int → Int → (List Cond) → Int → Option (l1Cur × Query)
  | 0, _, _, _, _ => none
  | k + 1, z53, z54, z55, z56 =>
    (spec_l1Below.f (l1Cur.mk a0.b z53 z54) 3).bind fun r57 =>
    bif (decide (z56 < r57.2)) then (
    (spec_l1Below.f (l1Cur.mk a0.b r57.1.i r57.1.h) y3).bind fun r59 =>
    (spec_l1Below.f (l1Cur.mk a0.b r59.1.i r59.1.h) 4).bind fun r60 =>
    (spec_l1Below.f (l1Cur.mk a0.b r60.1.i r60.1.h) 6).bind fun r61 =>
    (some [(Cond.mk r59.2 (w64 (1 + r60.2)) r61.2)]).bind fun l62 =>
    (appO 24 z55 l62).bind fun l63 =>
    spec_l9DrawRight.l0 a0 y3 K11 k r61.1.i r61.1.h l63 (w64 (z56 + 1)))
    else (
    K11 r57.1.i r57.1.h z55)
def spec_l9DrawRight.l1 (a0 : l1Cur) (y3 : Int) (K76 : Int → Int → Bool → (List Int) → Option (l1Cur × Query)) : Nat → Int → Int → Bool → (List Int) → Int → Option (l1Cur × Query)
  | 0, _, _, _, _, _ => none
  | k + 1, z120, z121, z122, z123, z124 =>
    bif (decide (z124 < y3)) then (
    (spec_l1Once.f (l1Cur.mk a0.b z120 z121) 2).bind fun r126 =>
    bif r126.2 then (
    (some [z124]).bind fun l128 =>
    (appO 8 z123 l128).bind fun l129 =>
    spec_l9DrawRight.l1 a0 y3 K76 k r126.1.i r126.1.h z122 l129 (w64 (z124 + 1)))
    else (
    spec_l9DrawRight.l1 a0 y3 K76 k r126.1.i r126.1.h z122 z123 (w64 (z124 + 1))))
    else (
    K76 z120 z121 z122 z123)
def spec_l9DrawRight.f (a0 : l1Cur) (a1 : Schema) : Option (l1Cur × Query) :=
  (spec_l1Max.f (lenI a1.Cols) 1).bind fun r1 =>
  (spec_l1Below.f a0 r1).bind fun r2 =>
  joinK (fun (y3 : Int) =>
  joinK (fun (y8 : Int) (y9 : Int) (y10 : List Cond) =>
  (spec_l1Below.f (l1Cur.mk a0.b y8 y9) (w64 (y3 + 1))).bind fun r64 =>
  (gd (decide (0 < r64.2)) (spec_l1Once.f (l1Cur.mk a0.b r64.1.i r64.1.h) 2)).bind fun r65 =>
  (some [0, 0, 1, 2, 3, 5]).bind fun l70 =>
  (spec_l1PickInt.f (l1Cur.mk a0.b (ci3 (decide (0 < r64.2)) r65.1.i r64.1.i) (ci3 (decide (0 < r64.2)) r65.1.h r64.1.h)) l70).bind fun r71 =>
  joinK (fun (y72 : Int) (y73 : Int) (y74 : Bool) (y75 : List Int) =>
  (spec_l1Once.f (l1Cur.mk a0.b y72 y73) 2).bind fun r130 =>
  bif r130.2 then (
  (spec_l1Max.f (lenI a1.Cols) 1).bind fun r132 =>
  (spec_l1Below.f (l1Cur.mk a0.b r130.1.i r130.1.h) r132).bind fun r133 =>
  bif (decide (r133.2 < (lenI a1.Cols))) then (
  (getO a1.Cols r133.2).bind fun x135 =>
  (spec_l1Max.f x135 1).bind fun r136 =>
  (spec_l1Below.f (l1Cur.mk a0.b r133.1.i r133.1.h) r136).bind fun r137 =>
  some ((l1Cur.mk a0.b r137.1.i r137.1.h), (Query.mk r2.2 y10 r64.2 y74 r71.2 y75 true r133.2 r137.2)))
  else (
  some ((l1Cur.mk a0.b r133.1.i r133.1.h), (Query.mk r2.2 y10 r64.2 y74 r71.2 y75 true r133.2 0))))
  else (
  some ((l1Cur.mk a0.b r130.1.i r130.1.h), (Query.mk r2.2 y10 r64.2 y74 r71.2 y75 false 0 0)))) (fun K76 =>
  spec_l9DrawRight.l1 a0 y3 K76 ((y3 - 0).toNat + 1) r71.1.i r71.1.h (bo3 (decide (0 < r64.2)) r65.2 false) [] 0)) (fun K11 =>
  spec_l9DrawRight.l0 a0 y3 K11 1000 r2.1.i r2.1.h [] 0)) (fun K4 =>
  bif (decide (r2.2 < (lenI a1.Cols))) then (
  (getO a1.Cols r2.2).bind fun x6 =>
  (spec_l1Max.f x6 1).bind fun r7 =>
  K4 r7)
  else (
  K4 1))

def spec_RowOk.l0 (a2 : Row) : Nat → Int → Option Bool
  | 0, _ => none
  | k + 1, z35 =>
    bif (decide (z35 < (lenI a2.Cells))) then (
    (getO a2.Cells z35).bind fun x37 =>
    (spec_l1In.f x37 (-1000000000) 1000000000).bind fun r38 =>
    bif (bo3 r38 false true) then (
    some false)
    else (
    spec_RowOk.l0 a2 k (w64 (z35 + 1))))
    else (
    some true)
def spec_RowOk.f (a0 : Schema) (a1 : Int) (a2 : Row) : Option Bool :=
  (spec_SchemaOk.f a0).bind fun r1 =>
  (gd (bo3 (bo3 r1 false true) false true) (spec_l1In.f a1 0 (w64 ((lenI a0.Cols) - 1)))).bind fun r2 =>
  (gd (bo3 (bo3 (bo3 r1 false true) true (bo3 r2 false true)) false true) (spec_l1In.f a2.Id 1 999)).bind fun r3 =>
  (gd (bo3 (bo3 (bo3 (bo3 r1 false true) true (bo3 r2 false true)) true (bo3 r3 false true)) false true) (getO a0.Cols a1)).bind fun x4 =>
  bif (bo3 (bo3 (bo3 (bo3 r1 false true) true (bo3 r2 false true)) true (bo3 r3 false true)) true (decide ((lenI a2.Cells) ≠ x4))) then (
  some false)
  else (
  spec_RowOk.l0 a2 (((lenI a2.Cells) - 0).toNat + 1) 0)

def spec_RowsOk.l0 (a0 : Schema) (a1 : Int) (a2 : List Row) (K2 : Unit → Option Bool) : Nat → Int → Option Bool
  | 0, _ => none
  | k + 1, z7 =>
    bif (decide (z7 < (lenI a2))) then (
    (getO a2 z7).bind fun x9 =>
    (spec_RowOk.f a0 a1 x9).bind fun r10 =>
    (gd (bo3 (bo3 (bo3 r10 false true) false true) (decide (0 < z7)) false) (getO a2 (w64 (z7 - 1)))).bind fun x11 =>
    bif (bo3 (bo3 r10 false true) true (bo3 (decide (0 < z7)) (decide (x9.Id ≤ x11.Id)) false)) then (
    some false)
    else (
    spec_RowsOk.l0 a0 a1 a2 K2 k (w64 (z7 + 1))))
    else (
    K2 ())
def spec_RowsOk.f (a0 : Schema) (a1 : Int) (a2 : List Row) : Option Bool :=
  joinK (fun (y1 : Unit) =>
  (spec_SchemaOk.f a0).bind fun r33 =>
  (gd r33 (spec_l1In.f a1 0 (w64 ((lenI a0.Cols) - 1)))).bind fun r34 =>
  some (bo3 (bo3 r33 r34 false) (decide ((lenI a2) ≤ 24)) false)) (fun K2 =>
  spec_RowsOk.l0 a0 a1 a2 K2 (((lenI a2) - 0).toNat + 1) 0)

def spec_StoreOk.l0 (a0 : Store) : Nat → Int → Option Bool
  | 0, _ => none
  | k + 1, z24 =>
    bif (decide (z24 < (lenI a0.Tables))) then (
    (getO a0.Tables z24).bind fun x26 =>
    (spec_RowsOk.f a0.Schema z24 x26).bind fun r27 =>
    bif (bo3 r27 false true) then (
    some false)
    else (
    spec_StoreOk.l0 a0 k (w64 (z24 + 1))))
    else (
    some true)
def spec_StoreOk.f (a0 : Store) : Option Bool :=
  (spec_SchemaOk.f a0.Schema).bind fun r1 =>
  (gd (bo3 (bo3 r1 false true) false true) (spec_l1In.f a0.Version 0 100000)).bind fun r2 =>
  bif (bo3 (bo3 (bo3 r1 false true) true (bo3 r2 false true)) true (decide ((lenI a0.Tables) ≠ (lenI a0.Schema.Cols)))) then (
  some false)
  else (
  spec_StoreOk.l0 a0 (((lenI a0.Tables) - 0).toNat + 1) 0)

def spec_l6Rows.l0 (a0 : List Row) : Nat → (List Row) → Int → Option ((List Row))
  | 0, _, _ => none
  | k + 1, z4, z5 =>
    bif (decide (z5 < (lenI a0))) then (
    (getO a0 z5).bind fun x7 =>
    (spec_l6Copy.f x7).bind fun r8 =>
    (some [r8]).bind fun l9 =>
    (appO 32 z4 l9).bind fun l10 =>
    spec_l6Rows.l0 a0 k l10 (w64 (z5 + 1)))
    else (
    some z4)
def spec_l6Rows.f (a0 : List Row) : Option ((List Row)) :=
  spec_l6Rows.l0 a0 (((lenI a0) - 0).toNat + 1) [] 0

def spec_l7Copy.l0 (a0 : Store) (r1 : Schema) : Nat → (List (List Row)) → Int → Option Store
  | 0, _, _ => none
  | k + 1, z17, z18 =>
    bif (decide (z18 < (lenI a0.Tables))) then (
    (getO a0.Tables z18).bind fun x20 =>
    (spec_l6Rows.f x20).bind fun r21 =>
    (some [r21]).bind fun l22 =>
    (appO 24 z17 l22).bind fun l23 =>
    spec_l7Copy.l0 a0 r1 k l23 (w64 (z18 + 1)))
    else (
    some (Store.mk r1 a0.Version z17))
def spec_l7Copy.f (a0 : Store) : Option Store :=
  (spec_l7Schema.f a0.Schema).bind fun r1 =>
  spec_l7Copy.l0 a0 r1 (((lenI a0.Tables) - 0).toNat + 1) [] 0

def spec_MutOk.f (a0 : Schema) (a1 : Mut) : Option Bool :=
  bif (decide (a1.Kind = 3)) then (
  (spec_SchemaOk.f a0).bind fun r2 =>
  (gd r2 (spec_l1In.f a1.Table 0 (w64 ((lenI a0.Cols) - 1)))).bind fun r3 =>
  (gd (bo3 r2 r3 false) (spec_l1In.f a1.Row.Id 1 999)).bind fun r4 =>
  some (bo3 (bo3 (bo3 r2 r3 false) r4 false) (decide ((lenI a1.Row.Cells) = 0)) false))
  else (
  (spec_l1In.f a1.Kind 1 2).bind fun r27 =>
  (gd r27 (spec_RowOk.f a0 a1.Table a1.Row)).bind fun r28 =>
  some (bo3 r27 r28 false))

def spec_l7Do.f (a0 : Store) (a1 : Mut) : Option (Store × Change × Bool) :=
  (getO a0.Tables a1.Table).bind fun x1 =>
  (spec_RowAt.f x1 a1.Row.Id).bind fun r2 =>
  bif (bo3 (bo3 (decide (0 ≤ r2)) (bo3 (decide (a1.Kind ≠ 1)) false true) (decide (a1.Kind ≠ 1))) true (bo3 (decide (a1.Kind = 1)) (decide ((lenI x1) = 24)) false)) then (
  some (a0, (Change.mk 0 false false (Row.mk 0 []) (Row.mk 0 [])), false))
  else (
  bif (decide (a1.Kind ≠ 1)) then (
  (getO x1 r2).bind fun x17 =>
  (spec_l6Copy.f x17).bind fun r18 =>
  bif (decide (a1.Kind ≠ 3)) then (
  (spec_l6Copy.f a1.Row).bind fun r20 =>
  (spec_RowPut.f x1 a1.Row).bind fun r21 =>
  (some (setI a0.Tables a1.Table r21)).bind fun l22 =>
  some ((Store.mk a0.Schema a0.Version l22), (Change.mk a1.Table (decide (a1.Kind ≠ 1)) (decide (a1.Kind ≠ 3)) r18 r20), true))
  else (
  (spec_RowDrop.f x1 a1.Row.Id).bind fun r23 =>
  (some (setI a0.Tables a1.Table r23)).bind fun l24 =>
  some ((Store.mk a0.Schema a0.Version l24), (Change.mk a1.Table (decide (a1.Kind ≠ 1)) (decide (a1.Kind ≠ 3)) r18 (Row.mk 0 [])), true)))
  else (
  bif (decide (a1.Kind ≠ 3)) then (
  (spec_l6Copy.f a1.Row).bind fun r26 =>
  (spec_RowPut.f x1 a1.Row).bind fun r27 =>
  (some (setI a0.Tables a1.Table r27)).bind fun l28 =>
  some ((Store.mk a0.Schema a0.Version l28), (Change.mk a1.Table (decide (a1.Kind ≠ 1)) (decide (a1.Kind ≠ 3)) (Row.mk 0 []) r26), true))
  else (
  (spec_RowDrop.f x1 a1.Row.Id).bind fun r29 =>
  (some (setI a0.Tables a1.Table r29)).bind fun l30 =>
  some ((Store.mk a0.Schema a0.Version l30), (Change.mk a1.Table (decide (a1.Kind ≠ 1)) (decide (a1.Kind ≠ 3)) (Row.mk 0 []) (Row.mk 0 [])), true))))

def spec_MutDo.f (a0 : Store) (a1 : Mut) : Option (Store × Change × Bool) :=
  (spec_StoreOk.f a0).bind fun r1 =>
  bif (bo3 r1 false true) then (
  some ((Store.mk (Schema.mk []) 0 []), (Change.mk 0 false false (Row.mk 0 []) (Row.mk 0 [])), false))
  else (
  (spec_MutOk.f a0.Schema a1).bind fun r3 =>
  bif (bo3 r3 false true) then (
  (spec_l7Copy.f a0).bind fun r5 =>
  some (r5, (Change.mk 0 false false (Row.mk 0 []) (Row.mk 0 [])), false))
  else (
  (spec_l7Copy.f a0).bind fun r6 =>
  (spec_l7Do.f r6 a1).bind fun r7 =>
  bif (bo3 r7.2.2 false true) then (
  (spec_l7Copy.f a0).bind fun r9 =>
  some (r9, (Change.mk 0 false false (Row.mk 0 []) (Row.mk 0 [])), false))
  else (
  some (r7.1, r7.2.1, true))))

def spec_BatchDo.l0 (a0 : Store) (a1 : List Mut) : Nat → (List Int) → Int → (List (List Row)) → (List Change) → Int → Option (Store × (List Change) × Bool)
  | 0, _, _, _, _, _ => none
  | k + 1, z23, z24, z25, z26, z27 =>
    bif (decide (z27 < (lenI a1))) then (
    (getO a1 z27).bind fun x29 =>
    (spec_MutDo.f (Store.mk (Schema.mk z23) z24 z25) x29).bind fun r30 =>
    bif (bo3 r30.2.2 false true) then (
    (spec_l7Copy.f a0).bind fun r32 =>
    some (r32, [], false))
    else (
    (some [r30.2.1]).bind fun l33 =>
    (appO 80 z26 l33).bind fun l34 =>
    spec_BatchDo.l0 a0 a1 k r30.1.Schema.Cols r30.1.Version r30.1.Tables l34 (w64 (z27 + 1))))
    else (
    some ((Store.mk (Schema.mk z23) (w64 (a0.Version + 1)) z25), z26, true))
def spec_BatchDo.f (a0 : Store) (a1 : List Mut) : Option (Store × (List Change) × Bool) :=
  (spec_StoreOk.f a0).bind fun r1 =>
  bif (bo3 r1 false true) then (
  some ((Store.mk (Schema.mk []) 0 []), [], false))
  else (
  (spec_l1In.f (lenI a1) 1 5).bind fun r3 =>
  bif (bo3 (bo3 r3 false true) true (decide (a0.Version = 100000))) then (
  (spec_l7Copy.f a0).bind fun r10 =>
  some (r10, [], false))
  else (
  (spec_l7Copy.f a0).bind fun r11 =>
  spec_BatchDo.l0 a0 a1 (((lenI a1) - 0).toNat + 1) r11.Schema.Cols r11.Version r11.Tables [] 0))

def spec_l7DrawMut.f (a0 : l1Cur) (a1 : Store) : Option (l1Cur × Mut) :=
  (spec_l1Max.f (lenI a1.Tables) 1).bind fun r1 =>
  (spec_l1Below.f a0 r1).bind fun r2 =>
  bif (bo3 (decide ((lenI a1.Tables) ≤ r2.2)) true (decide ((lenI a1.Schema.Cols) ≤ r2.2))) then (
  some ((l1Cur.mk a0.b r2.1.i r2.1.h), (Mut.mk 3 0 (Row.mk 1 []))))
  else (
  (spec_l1Below.f (l1Cur.mk a0.b r2.1.i r2.1.h) 3).bind fun r12 =>
  (getO a1.Schema.Cols r2.2).bind fun x13 =>
  (spec_l6DrawRow.f (l1Cur.mk a0.b r12.1.i r12.1.h) x13).bind fun r14 =>
  joinK (fun (y15 : Int) (y16 : Int) (y17 : Int) (y18 : Int) =>
  joinK (fun (y40 : List Int) =>
  (spec_l1Below.f (l1Cur.mk a0.b y15 y16) 25).bind fun r43 =>
  bif (decide (r43.2 = 0)) then (
  (spec_l1Below.f (l1Cur.mk a0.b r43.1.i r43.1.h) 5).bind fun r45 =>
  some ((l1Cur.mk a0.b r45.1.i r45.1.h), (Mut.mk r45.2 r2.2 (Row.mk y18 y40))))
  else (
  bif (decide (r43.2 = 1)) then (
  (spec_l1Below.f (l1Cur.mk a0.b r43.1.i r43.1.h) 5).bind fun r47 =>
  some ((l1Cur.mk a0.b r47.1.i r47.1.h), (Mut.mk y17 (w64 (r47.2 - 1)) (Row.mk y18 y40))))
  else (
  bif (decide (r43.2 = 2)) then (
  (some [0, 999, 1000]).bind fun l49 =>
  (spec_l1PickInt.f (l1Cur.mk a0.b r43.1.i r43.1.h) l49).bind fun r50 =>
  some ((l1Cur.mk a0.b r50.1.i r50.1.h), (Mut.mk y17 r2.2 (Row.mk r50.2 y40))))
  else (
  some ((l1Cur.mk a0.b r43.1.i r43.1.h), (Mut.mk y17 r2.2 (Row.mk y18 y40))))))) (fun K41 =>
  bif (decide (y17 = 3)) then (
  K41 [])
  else (
  K41 r14.2.Cells))) (fun K19 =>
  (gd (decide ((w64 (1 + r12.2)) ≠ 1)) (getO a1.Tables r2.2)).bind fun x20 =>
  (gd (bo3 (decide ((w64 (1 + r12.2)) ≠ 1)) (decide (0 < (lenI x20))) false) (spec_l1Once.f (l1Cur.mk a0.b r14.1.i r14.1.h) 9)).bind fun r21 =>
  bif (bo3 (bo3 (decide ((w64 (1 + r12.2)) ≠ 1)) (decide (0 < (lenI x20))) false) (bo3 r21.2 false true) false) then (
  (getO a1.Tables r2.2).bind fun x37 =>
  (spec_l1Below.f (l1Cur.mk a0.b (ci3 (bo3 (decide ((w64 (1 + r12.2)) ≠ 1)) (decide (0 < (lenI x20))) false) r21.1.i r14.1.i) (ci3 (bo3 (decide ((w64 (1 + r12.2)) ≠ 1)) (decide (0 < (lenI x20))) false) r21.1.h r14.1.h)) (lenI x37)).bind fun r38 =>
  (getO x37 r38.2).bind fun x39 =>
  K19 r38.1.i r38.1.h (w64 (1 + r12.2)) x39.Id)
  else (
  K19 (ci3 (bo3 (decide ((w64 (1 + r12.2)) ≠ 1)) (decide (0 < (lenI x20))) false) r21.1.i r14.1.i) (ci3 (bo3 (decide ((w64 (1 + r12.2)) ≠ 1)) (decide (0 < (lenI x20))) false) r21.1.h r14.1.h) (w64 (1 + r12.2)) r14.2.Id)))

def spec_l7DrawBatch.l0 (a0 : l1Cur) : Nat → Int → Int → (List Int) → Int → (List (List Row)) → (List Mut) → Int → Option (l1Cur × (List Mut))
  | 0, _, _, _, _, _, _, _ => none
  | k + 1, z9, z10, z11, z12, z13, z14, z15 =>
    (spec_l1Below.f (l1Cur.mk a0.b z9 z10) 3).bind fun r16 =>
    bif (decide (z15 < (w64 (1 + r16.2)))) then (
    (spec_l7DrawMut.f (l1Cur.mk a0.b r16.1.i r16.1.h) (Store.mk (Schema.mk z11) z12 z13)).bind fun r18 =>
    (spec_MutDo.f (Store.mk (Schema.mk z11) z12 z13) r18.2).bind fun r19 =>
    joinK (fun (y20 : List Int) (y21 : Int) (y22 : List (List Row)) =>
    (gd (bo3 r19.2.2 false true) (spec_l1Once.f (l1Cur.mk a0.b r18.1.i r18.1.h) 9)).bind fun r25 =>
    bif (bo3 r19.2.2 true r25.2) then (
    (some [r18.2]).bind fun l31 =>
    (appO 48 z14 l31).bind fun l32 =>
    spec_l7DrawBatch.l0 a0 k (ci3 (bo3 r19.2.2 false true) r25.1.i r18.1.i) (ci3 (bo3 r19.2.2 false true) r25.1.h r18.1.h) y20 y21 y22 l32 (w64 (z15 + 1)))
    else (
    spec_l7DrawBatch.l0 a0 k (ci3 (bo3 r19.2.2 false true) r25.1.i r18.1.i) (ci3 (bo3 r19.2.2 false true) r25.1.h r18.1.h) y20 y21 y22 z14 (w64 (z15 + 1)))) (fun K23 =>
    bif r19.2.2 then (
    K23 r19.1.Schema.Cols r19.1.Version r19.1.Tables)
    else (
    K23 z11 z12 z13)))
    else (
    some ((l1Cur.mk a0.b r16.1.i r16.1.h), z14))
def spec_l7DrawBatch.f (a0 : l1Cur) (a1 : Store) : Option (l1Cur × (List Mut)) :=
  spec_l7DrawBatch.l0 a0 1000 a0.i a0.h a1.Schema.Cols a1.Version a1.Tables [] 0

def spec_l12Draw.f (a0 : l1Cur) : Option (l1Cur × Store × Query × (List Change)) :=
  (spec_l7DrawRight.f a0).bind fun r1 =>
  (spec_l9DrawRight.f (l1Cur.mk a0.b r1.1.i r1.1.h) r1.2.Schema).bind fun r2 =>
  (spec_l7DrawBatch.f (l1Cur.mk a0.b r2.1.i r2.1.h) r1.2).bind fun r3 =>
  (spec_BatchDo.f r1.2 r3.2).bind fun r4 =>
  some ((l1Cur.mk a0.b r3.1.i r3.1.h), r1.2, r2.2, r4.2.1)

def spec_DrawTouchesAny.f (a0 : List Int) : Option (Query × (List Change)) :=
  (spec_l1New.f a0).bind fun r1 =>
  (spec_l12Draw.f r1).bind fun r2 =>
  some (r2.2.2.1, r2.2.2.2)

def laws_big.f (a0 : List Int) : Option Bool :=
  some (decide (1048576 < (lenI a0)))

def spec_DrawTouches.f (a0 : List Int) : Option (Query × Change) :=
  (spec_l1New.f a0).bind fun r1 =>
  (spec_l12Draw.f r1).bind fun r2 =>
  (spec_l1Below.f (l1Cur.mk r1.b r2.1.i r2.1.h) 3).bind fun r3 =>
  (spec_l1Once.f (l1Cur.mk r1.b r3.1.i r3.1.h) 2).bind fun r4 =>
  (spec_l1Once.f (l1Cur.mk r1.b r4.1.i r4.1.h) 2).bind fun r5 =>
  (gd (decide (0 < (lenI r2.2.2.2))) (spec_l1Once.f (l1Cur.mk r1.b r5.1.i r5.1.h) 6)).bind fun r6 =>
  bif (bo3 (decide (0 < (lenI r2.2.2.2))) (bo3 r6.2 false true) false) then (
  (spec_l1Below.f (l1Cur.mk r1.b (ci3 (decide (0 < (lenI r2.2.2.2))) r6.1.i r5.1.i) (ci3 (decide (0 < (lenI r2.2.2.2))) r6.1.h r5.1.h)) (lenI r2.2.2.2)).bind fun r13 =>
  (getO r2.2.2.2 r13.2).bind fun x14 =>
  some (r2.2.2.1, x14))
  else (
  some (r2.2.2.1, (Change.mk r3.2 r4.2 r5.2 (Row.mk 0 []) (Row.mk 0 []))))

def spec_l9Draw.f (a0 : l1Cur) (a1 : Schema) : Option (l1Cur × Query) :=
  (spec_l9DrawRight.f a0 a1).bind fun r1 =>
  (spec_l1Below.f (l1Cur.mk a0.b r1.1.i r1.1.h) 25).bind fun r2 =>
  bif (decide (r2.2 = 0)) then (
  (spec_l1Below.f (l1Cur.mk a0.b r2.1.i r2.1.h) 5).bind fun r4 =>
  some ((l1Cur.mk a0.b r4.1.i r4.1.h), (Query.mk (w64 (r4.2 - 1)) r1.2.Where r1.2.Order r1.2.Down r1.2.First r1.2.Show r1.2.Kids r1.2.KidTable r1.2.KidCol)))
  else (
  bif (decide (r2.2 = 1)) then (
  (spec_l1Below.f (l1Cur.mk a0.b r2.1.i r2.1.h) 6).bind fun r6 =>
  (spec_l1Below.f (l1Cur.mk a0.b r6.1.i r6.1.h) 6).bind fun r7 =>
  (some [0, 1000000001]).bind fun l8 =>
  (spec_l1PickInt.f (l1Cur.mk a0.b r7.1.i r7.1.h) l8).bind fun r9 =>
  (some [(Cond.mk (w64 (r6.2 - 1)) r7.2 r9.2)]).bind fun l10 =>
  (appO 24 r1.2.Where l10).bind fun l11 =>
  some ((l1Cur.mk a0.b r9.1.i r9.1.h), (Query.mk r1.2.Table l11 r1.2.Order r1.2.Down r1.2.First r1.2.Show r1.2.Kids r1.2.KidTable r1.2.KidCol)))
  else (
  bif (decide (r2.2 = 2)) then (
  (spec_l1Below.f (l1Cur.mk a0.b r2.1.i r2.1.h) 7).bind fun r13 =>
  some ((l1Cur.mk a0.b r13.1.i r13.1.h), (Query.mk r1.2.Table r1.2.Where (w64 (r13.2 - 1)) r1.2.Down r1.2.First r1.2.Show r1.2.Kids r1.2.KidTable r1.2.KidCol)))
  else (
  bif (decide (r2.2 = 3)) then (
  (some [(-1), 24, 25]).bind fun l15 =>
  (spec_l1PickInt.f (l1Cur.mk a0.b r2.1.i r2.1.h) l15).bind fun r16 =>
  some ((l1Cur.mk a0.b r16.1.i r16.1.h), (Query.mk r1.2.Table r1.2.Where r1.2.Order r1.2.Down r16.2 r1.2.Show r1.2.Kids r1.2.KidTable r1.2.KidCol)))
  else (
  bif (decide (r2.2 = 4)) then (
  (spec_l1Below.f (l1Cur.mk a0.b r2.1.i r2.1.h) 5).bind fun r18 =>
  (some [r18.2]).bind fun l19 =>
  (appO 8 r1.2.Show l19).bind fun l20 =>
  some ((l1Cur.mk a0.b r18.1.i r18.1.h), (Query.mk r1.2.Table r1.2.Where r1.2.Order r1.2.Down r1.2.First l20 r1.2.Kids r1.2.KidTable r1.2.KidCol)))
  else (
  bif (decide (r2.2 = 5)) then (
  (spec_l1Below.f (l1Cur.mk a0.b r2.1.i r2.1.h) 6).bind fun r22 =>
  some ((l1Cur.mk a0.b r22.1.i r22.1.h), (Query.mk r1.2.Table r1.2.Where r1.2.Order r1.2.Down r1.2.First r1.2.Show r1.2.Kids r1.2.KidTable (w64 (r22.2 - 1)))))
  else (
  some ((l1Cur.mk a0.b r2.1.i r2.1.h), r1.2)))))))

def spec_DrawConcerned.l0 (r1 : l1Cur) (r2 : l1Cur × Store × Query × (List Change)) : Nat → Int → Int → (List Query) → Int → Option (Schema × (List Query) × (List Change))
  | 0, _, _, _, _ => none
  | k + 1, z13, z14, z15, z16 =>
    (spec_l1Below.f (l1Cur.mk r1.b z13 z14) 4).bind fun r17 =>
    bif (decide (z16 < r17.2)) then (
    (spec_l9Draw.f (l1Cur.mk r1.b r17.1.i r17.1.h) r2.2.1.Schema).bind fun r19 =>
    (some [r19.2]).bind fun l20 =>
    (appO 104 z15 l20).bind fun l21 =>
    spec_DrawConcerned.l0 r1 r2 k r19.1.i r19.1.h l21 (w64 (z16 + 1)))
    else (
    some (r2.2.1.Schema, z15, r2.2.2.2))
def spec_DrawConcerned.f (a0 : List Int) : Option (Schema × (List Query) × (List Change)) :=
  (spec_l1New.f a0).bind fun r1 =>
  (spec_l12Draw.f r1).bind fun r2 =>
  (some [r2.2.2.1]).bind fun l3 =>
  spec_DrawConcerned.l0 r1 r2 1000 r2.1.i r2.1.h l3 0

def laws_FnTouched.l0 (r35 : Schema × (List Query) × (List Change)) (r36 : (List Int)) (K41 : Unit → Option Bool) : Nat → Int → Option Bool
  | 0, _ => none
  | k + 1, z47 =>
    bif (decide (z47 < (lenI r36))) then (
    (gd (decide (0 < z47)) (getO r36 (w64 (z47 - 1)))).bind fun x49 =>
    (gd (decide (0 < z47)) (getO r36 z47)).bind fun x50 =>
    (gd (bo3 (bo3 (decide (0 < z47)) (decide (x50 ≤ x49)) false) false true) (getO r36 z47)).bind fun x51 =>
    (gd (bo3 (bo3 (decide (0 < z47)) (decide (x50 ≤ x49)) false) false true) (getO r35.2.1 x51)).bind fun x52 =>
    (gd (bo3 (bo3 (decide (0 < z47)) (decide (x50 ≤ x49)) false) false true) (impl_TouchesAny.f x52 r35.2.2)).bind fun r53 =>
    bif (bo3 (bo3 (decide (0 < z47)) (decide (x50 ≤ x49)) false) true (bo3 r53 false true)) then (
    some false)
    else (
    laws_FnTouched.l0 r35 r36 K41 k (w64 (z47 + 1))))
    else (
    K41 ())
def laws_FnTouched.f (a0 : List Int) : Option Bool :=
  (laws_big.f a0).bind fun r1 =>
  bif r1 then (
  some true)
  else (
  (spec_DrawTouches.f a0).bind fun r3 =>
  (impl_Touches.f r3.1 r3.2).bind fun r4 =>
  (spec_Touches.f r3.1 r3.2).bind fun r5 =>
  bif (bo3 (bo3 r4 (bo3 r5 false true) r5) true (bo3 (bo3 r4 (decide (r3.2.Table ≠ r3.1.Table)) false) (bo3 (bo3 r3.1.Kids false true) true (decide (r3.2.Table ≠ r3.1.KidTable))) false)) then (
  some false)
  else (
  (spec_DrawConcerned.f a0).bind fun r35 =>
  (impl_Concerned.f r35.1 r35.2.1 r35.2.2).bind fun r36 =>
  (spec_Concerned.f r35.1 r35.2.1 r35.2.2).bind fun r37 =>
  (laws_sameInts.f r36 r37).bind fun r38 =>
  bif (bo3 r38 false true) then (
  some false)
  else (
  joinK (fun (y40 : Unit) =>
  (spec_DrawTouchesAny.f a0).bind fun r79 =>
  (impl_TouchesAny.f r79.1 r79.2).bind fun r80 =>
  (spec_TouchesAny.f r79.1 r79.2).bind fun r81 =>
  some (bo3 r80 r81 (bo3 r81 false true))) (fun K41 =>
  laws_FnTouched.l0 r35 r36 K41 (((lenI r36) - 0).toNat + 1) 0))))

end Go.Proofs.Ytblacmggjfinhaa.L
