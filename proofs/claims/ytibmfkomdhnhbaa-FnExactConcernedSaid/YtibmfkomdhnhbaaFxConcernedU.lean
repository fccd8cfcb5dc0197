/- The pure functions of the program. -/
import Derived.Test.YtibmfkomdhnhbaaSl30
namespace Go.Proofs.Ytibmfkomdhnhbaa.L
open Go
set_option linter.unusedVariables false
structure Schema where
  Cols : List Int
  deriving Inhabited, DecidableEq
structure Cond where
  Col : Int
  Op : Int
  V : Int
  deriving Inhabited, DecidableEq
structure Query where
  Table : Int
  Where : List Cond
  Order : Int
  Down : Bool
  First : Int
  Show : List Int
  Kids : Bool
  KidTable : Int
  KidCol : Int
  deriving Inhabited, DecidableEq
structure Row where
  Id : Int
  Cells : List Int
  deriving Inhabited, DecidableEq
structure Change where
  Table : Int
  Had : Bool
  Has : Bool
  Old : Row
  New : Row
  deriving Inhabited, DecidableEq

def laws_szIntS.f (a0 : List Int) (a1 : Int) : Option Int :=
  bif (decide ((w64 (a1 - (lenI a0))) < 0)) then (
  some (-1))
  else (
  some (w64 (a1 - (lenI a0))))

def laws_szSchema.f (a0 : Schema) (a1 : Int) : Option Int :=
  (laws_szIntS.f a0.Cols a1).bind fun r1 =>
  bif (decide (r1 < 0)) then (
  some (-1))
  else (
  some r1)

def laws_toIntS.l0 (a0 : List Int) : Nat → (List Int) → Int → Option ((List Int))
  | 0, _, _ => none
  | k + 1, z5, z6 =>
    bif (decide (z6 < (lenI a0))) then (
    (getO a0 z6).bind fun x8 =>
    (getO z5 z6).bind fun x9 =>
    (some (setI z5 z6 x8)).bind fun l10 =>
    laws_toIntS.l0 a0 k l10 (w64 (z6 + 1)))
    else (
    some z5)
def laws_toIntS.f (a0 : List Int) : Option ((List Int)) :=
  (mkO 8 (lenI a0) 0).bind fun l1 =>
  laws_toIntS.l0 a0 (((lenI a0) - 0).toNat + 1) l1 0

def laws_toSchema.f (a0 : Schema) : Option Schema :=
  (laws_toIntS.f a0.Cols).bind fun r1 =>
  some (Schema.mk r1)

def laws_eqIntS.l0 (a0 : List Int) (a1 : List Int) : Nat → Int → Option Bool
  | 0, _ => none
  | k + 1, z5 =>
    bif (decide (z5 < (lenI a0))) then (
    (getO a0 z5).bind fun x7 =>
    (getO a1 z5).bind fun x8 =>
    bif (decide (x7 ≠ x8)) then (
    some false)
    else (
    laws_eqIntS.l0 a0 a1 k (w64 (z5 + 1))))
    else (
    some true)
def laws_eqIntS.f (a0 : List Int) (a1 : List Int) : Option Bool :=
  bif (decide ((lenI a0) ≠ (lenI a1))) then (
  some false)
  else (
  laws_eqIntS.l0 a0 a1 (((lenI a0) - 0).toNat + 1) 0)

def laws_eqSchema.f (a0 : Schema) (a1 : Schema) : Option Bool :=
  (laws_eqIntS.f a0.Cols a1.Cols).bind fun r1 =>
  bif (bo3 r1 false true) then (
  some false)
  else (
  some true)

def laws_szCondS.f (a0 : List Cond) (a1 : Int) : Option Int :=
  bif (decide ((w64 (a1 - (lenI a0))) < 0)) then (
  some (-1))
  else (
  some (w64 (a1 - (lenI a0))))

def laws_szQuery.f (a0 : Query) (a1 : Int) : Option Int :=
  (laws_szCondS.f a0.Where a1).bind fun r1 =>
  bif (decide (r1 < 0)) then (
  some (-1))
  else (
  (laws_szIntS.f a0.Show r1).bind fun r3 =>
  bif (decide (r3 < 0)) then (
  some (-1))
  else (
  some r3))

def laws_szQueryS.l0 (a0 : List Query) : Nat → Int → Int → Option Int
  | 0, _, _ => none
  | k + 1, z5, z6 =>
    bif (decide (z6 < (lenI a0))) then (
    (getO a0 z6).bind fun x8 =>
    (laws_szQuery.f x8 z5).bind fun r9 =>
    bif (decide (r9 < 0)) then (
    some (-1))
    else (
    laws_szQueryS.l0 a0 k r9 (w64 (z6 + 1))))
    else (
    some z5)
def laws_szQueryS.f (a0 : List Query) (a1 : Int) : Option Int :=
  bif (decide ((w64 (a1 - (lenI a0))) < 0)) then (
  some (-1))
  else (
  laws_szQueryS.l0 a0 (((lenI a0) - 0).toNat + 1) (w64 (a1 - (lenI a0))) 0)

def laws_szRow.f (a0 : Row) (a1 : Int) : Option Int :=
  (laws_szIntS.f a0.Cells a1).bind fun r1 =>
  bif (decide (r1 < 0)) then (
  some (-1))
  else (
  some r1)

def laws_szChange.f (a0 : Change) (a1 : Int) : Option Int :=
  (laws_szRow.f a0.Old a1).bind fun r1 =>
  bif (decide (r1 < 0)) then (
  some (-1))
  else (
  (laws_szRow.f a0.New r1).bind fun r3 =>
  bif (decide (r3 < 0)) then (
  some (-1))
  else (
  some r3))

def laws_szChangeS.l0 (a0 : List Change) : Nat → Int → Int → Option Int
  | 0, _, _ => none
  | k + 1, z5, z6 =>
    bif (decide (z6 < (lenI a0))) then (
    (getO a0 z6).bind fun x8 =>
    (laws_szChange.f x8 z5).bind fun r9 =>
    bif (decide (r9 < 0)) then (
    some (-1))
    else (
    laws_szChangeS.l0 a0 k r9 (w64 (z6 + 1))))
    else (
    some z5)
def laws_szChangeS.f (a0 : List Change) (a1 : Int) : Option Int :=
  bif (decide ((w64 (a1 - (lenI a0))) < 0)) then (
  some (-1))
  else (
  laws_szChangeS.l0 a0 (((lenI a0) - 0).toNat + 1) (w64 (a1 - (lenI a0))) 0)

def spec_l1In.f (a0 : Int) (a1 : Int) (a2 : Int) : Option Bool :=
  some (bo3 (decide (a1 ≤ a0)) (decide (a0 ≤ a2)) false)

def spec_l9Cell.f (a0 : Row) (a1 : Int) : Option Int :=
  (spec_l1In.f a1 0 (w64 ((lenI a0.Cells) - 1))).bind fun r1 =>
  bif (bo3 r1 false true) then (
  some 0)
  else (
  (getO a0.Cells a1).bind fun x3 =>
  some x3)

def spec_l9Holds.f (a0 : Cond) (a1 : Row) : Option Bool :=
  (spec_l1In.f a0.Col 0 (w64 ((lenI a1.Cells) - 1))).bind fun r1 =>
  bif (bo3 r1 false true) then (
  some false)
  else (
  (getO a1.Cells a0.Col).bind fun x3 =>
  bif (decide (a0.Op = 1)) then (
  some (decide (x3 = a0.V)))
  else (
  bif (decide (a0.Op = 2)) then (
  some (decide (x3 < a0.V)))
  else (
  bif (decide (a0.Op = 3)) then (
  some (decide (a0.V < x3)))
  else (
  bif (decide (a0.Op = 4)) then (
  some (decide (x3 ≠ a0.V)))
  else (
  some false)))))

def spec_Matches.l0 (a0 : Query) (a1 : Row) : Nat → Int → Option Bool
  | 0, _ => none
  | k + 1, z13 =>
    bif (decide (z13 < (lenI a0.Where))) then (
    (getO a0.Where z13).bind fun x15 =>
    (spec_l9Holds.f x15 a1).bind fun r16 =>
    bif (bo3 r16 false true) then (
    some false)
    else (
    spec_Matches.l0 a0 a1 k (w64 (z13 + 1))))
    else (
    some true)
def spec_Matches.f (a0 : Query) (a1 : Row) : Option Bool :=
  spec_Matches.l0 a0 a1 (((lenI a0.Where) - 0).toNat + 1) 0

def spec_l12In.f (a0 : Query) (a1 : Change) : Option Bool :=
  (gd (bo3 (decide (a1.Table = a0.Table)) a1.Had false) (spec_Matches.f a0 a1.Old)).bind fun r1 =>
  (gd (bo3 (bo3 (decide (a1.Table = a0.Table)) (bo3 (bo3 a1.Had r1 false) false true) false) a1.Has false) (spec_Matches.f a0 a1.New)).bind fun r2 =>
  some (bo3 (decide (a1.Table = a0.Table)) (bo3 (bo3 a1.Had r1 false) true (bo3 a1.Has r2 false)) false)

def spec_Touches.f (a0 : Query) (a1 : Change) : Option Bool :=
  (spec_l12In.f a0 a1).bind fun r1 =>
  bif r1 then (
  some true)
  else (
  bif (bo3 (bo3 (bo3 a0.Kids false true) true (decide (a1.Table ≠ a0.KidTable))) true (bo3 (bo3 a1.Had false true) (bo3 a1.Has false true) false)) then (
  some false)
  else (
  (gd (bo3 (bo3 a1.Had (bo3 a1.Has false true) a1.Has) false true) (spec_l9Cell.f a1.Old a0.KidCol)).bind fun r23 =>
  (gd (bo3 (bo3 a1.Had (bo3 a1.Has false true) a1.Has) false true) (spec_l9Cell.f a1.New a0.KidCol)).bind fun r24 =>
  some (bo3 (bo3 a1.Had (bo3 a1.Has false true) a1.Has) true (decide (r23 ≠ r24)))))

def spec_TouchesAny.l0 (a0 : Query) (a1 : List Change) : Nat → Int → Option Bool
  | 0, _ => none
  | k + 1, z12 =>
    bif (decide (z12 < (lenI a1))) then (
    (getO a1 z12).bind fun x14 =>
    (spec_Touches.f a0 x14).bind fun r15 =>
    bif r15 then (
    some true)
    else (
    spec_TouchesAny.l0 a0 a1 k (w64 (z12 + 1))))
    else (
    some false)
def spec_TouchesAny.f (a0 : Query) (a1 : List Change) : Option Bool :=
  spec_TouchesAny.l0 a0 a1 (((lenI a1) - 0).toNat + 1) 0

def spec_SchemaOk.l0 (a0 : Schema) (K2 : Unit → Option Bool) : Nat → Int → Option Bool
  | 0, _ => none
  | k + 1, z5 =>
    bif (decide (z5 < (lenI a0.Cols))) then (
    (getO a0.Cols z5).bind fun x7 =>
    (spec_l1In.f x7 1 4).bind fun r8 =>
    bif (bo3 r8 false true) then (
    some false)
    else (
    spec_SchemaOk.l0 a0 K2 k (w64 (z5 + 1))))
    else (
    K2 ())
def spec_SchemaOk.f (a0 : Schema) : Option Bool :=
  joinK (fun (y1 : Unit) =>
  (spec_l1In.f (lenI a0.Cols) 1 3).bind fun r10 =>
  some r10) (fun K2 =>
  spec_SchemaOk.l0 a0 K2 (((lenI a0.Cols) - 0).toNat + 1) 0)

def spec_QueryOk.l0 (a1 : Query) (x20 : Int) (K22 : Unit → Option Bool) : Nat → Int → Option Bool
  | 0, _ => none
  | k + 1, z35 =>
    bif (decide (z35 < (lenI a1.Where))) then (
    (getO a1.Where z35).bind fun x37 =>
    (spec_l1In.f x37.Col 0 (w64 (x20 - 1))).bind fun r38 =>
    (gd (bo3 (bo3 r38 false true) false true) (spec_l1In.f x37.Op 1 4)).bind fun r39 =>
    (gd (bo3 (bo3 (bo3 r38 false true) true (bo3 r39 false true)) false true) (spec_l1In.f x37.V (-1000000000) 1000000000)).bind fun r40 =>
    bif (bo3 (bo3 (bo3 r38 false true) true (bo3 r39 false true)) true (bo3 r40 false true)) then (
    some false)
    else (
    spec_QueryOk.l0 a1 x20 K22 k (w64 (z35 + 1))))
    else (
    K22 ())
def spec_QueryOk.l1 (a1 : Query) (x20 : Int) (K55 : Unit → Option Bool) : Nat → Int → Option Bool
  | 0, _ => none
  | k + 1, z68 =>
    bif (decide (z68 < (lenI a1.Show))) then (
    (getO a1.Show z68).bind fun x70 =>
    (spec_l1In.f x70 0 (w64 (x20 - 1))).bind fun r71 =>
    (gd (bo3 (bo3 (bo3 r71 false true) false true) (decide (0 < z68)) false) (getO a1.Show (w64 (z68 - 1)))).bind fun x72 =>
    bif (bo3 (bo3 r71 false true) true (bo3 (decide (0 < z68)) (decide (x70 ≤ x72)) false)) then (
    some false)
    else (
    spec_QueryOk.l1 a1 x20 K55 k (w64 (z68 + 1))))
    else (
    K55 ())
def spec_QueryOk.f (a0 : Schema) (a1 : Query) : Option Bool :=
  (spec_SchemaOk.f a0).bind fun r1 =>
  (gd (bo3 (bo3 r1 false true) false true) (spec_l1In.f a1.Table 0 (w64 ((lenI a0.Cols) - 1)))).bind fun r2 =>
  bif (bo3 (bo3 (bo3 r1 false true) true (bo3 r2 false true)) true (decide (3 < (lenI a1.Where)))) then (
  some false)
  else (
  (getO a0.Cols a1.Table).bind fun x20 =>
  joinK (fun (y21 : Unit) =>
  joinK (fun (y54 : Unit) =>
  (spec_l1In.f a1.Order 0 x20).bind fun r94 =>
  (gd (bo3 (bo3 r94 false true) false true) (spec_l1In.f a1.First 0 24)).bind fun r95 =>
  bif (bo3 (bo3 (bo3 r94 false true) true (bo3 r95 false true)) true (bo3 (decide (a1.Order = 0)) a1.Down false)) then (
  some false)
  else (
  bif (bo3 a1.Kids false true) then (
  some (bo3 (decide (a1.KidTable = 0)) (decide (a1.KidCol = 0)) false))
  else (
  (spec_l1In.f a1.KidTable 0 (w64 ((lenI a0.Cols) - 1))).bind fun r120 =>
  (gd r120 (getO a0.Cols a1.KidTable)).bind fun x121 =>
  (gd r120 (spec_l1In.f a1.KidCol 0 (w64 (x121 - 1)))).bind fun r122 =>
  some (bo3 r120 r122 false)))) (fun K55 =>
  spec_QueryOk.l1 a1 x20 K55 (((lenI a1.Show) - 0).toNat + 1) 0)) (fun K22 =>
  spec_QueryOk.l0 a1 x20 K22 (((lenI a1.Where) - 0).toNat + 1) 0))

def spec_Concerned.l0 (a0 : Schema) (a1 : List Query) (a2 : List Change) : Nat → (List Int) → Int → Option ((List Int))
  | 0, _, _ => none
  | k + 1, z6, z7 =>
    bif (decide (z7 < (lenI a1))) then (
    (getO a1 z7).bind fun x9 =>
    (spec_QueryOk.f a0 x9).bind fun r10 =>
    (gd r10 (spec_TouchesAny.f x9 a2)).bind fun r11 =>
    bif (bo3 r10 r11 false) then (
    (some [z7]).bind fun l21 =>
    (appO 8 z6 l21).bind fun l22 =>
    spec_Concerned.l0 a0 a1 a2 k l22 (w64 (z7 + 1)))
    else (
    spec_Concerned.l0 a0 a1 a2 k z6 (w64 (z7 + 1))))
    else (
    some z6)
def spec_Concerned.f (a0 : Schema) (a1 : List Query) (a2 : List Change) : Option ((List Int)) :=
  spec_Concerned.l0 a0 a1 a2 (((lenI a1) - 0).toNat + 1) [] 0

def laws_toCond.f (a0 : Cond) : Option Cond :=
  some a0

def laws_toCondS.l0 (a0 : List Cond) : Nat → (List Cond) → Int → Option ((List Cond))
  | 0, _, _ => none
  | k + 1, z5, z6 =>
    bif (decide (z6 < (lenI a0))) then (
    (getO a0 z6).bind fun x8 =>
    (laws_toCond.f x8).bind fun r9 =>
    (getO z5 z6).bind fun x10 =>
    (some (setI z5 z6 r9)).bind fun l11 =>
    laws_toCondS.l0 a0 k l11 (w64 (z6 + 1)))
    else (
    some z5)
def laws_toCondS.f (a0 : List Cond) : Option ((List Cond)) :=
  (mkO 24 (lenI a0) (Cond.mk 0 0 0)).bind fun l1 =>
  laws_toCondS.l0 a0 (((lenI a0) - 0).toNat + 1) l1 0

def laws_toQuery.f (a0 : Query) : Option Query :=
  (laws_toCondS.f a0.Where).bind fun r1 =>
  (laws_toIntS.f a0.Show).bind fun r2 =>
  some (Query.mk a0.Table r1 a0.Order a0.Down a0.First r2 a0.Kids a0.KidTable a0.KidCol)

def laws_toQueryS.l0 (a0 : List Query) : Nat → (List Query) → Int → Option ((List Query))
  | 0, _, _ => none
  | k + 1, z5, z6 =>
    bif (decide (z6 < (lenI a0))) then (
    (getO a0 z6).bind fun x8 =>
    (laws_toQuery.f x8).bind fun r9 =>
    (getO z5 z6).bind fun x10 =>
    (some (setI z5 z6 r9)).bind fun l11 =>
    laws_toQueryS.l0 a0 k l11 (w64 (z6 + 1)))
    else (
    some z5)
def laws_toQueryS.f (a0 : List Query) : Option ((List Query)) :=
  (mkO 104 (lenI a0) (Query.mk 0 [] 0 false 0 [] false 0 0)).bind fun l1 =>
  laws_toQueryS.l0 a0 (((lenI a0) - 0).toNat + 1) l1 0

def laws_toRow.f (a0 : Row) : Option Row :=
  (laws_toIntS.f a0.Cells).bind fun r1 =>
  some (Row.mk a0.Id r1)

def laws_toChange.f (a0 : Change) : Option Change :=
  (laws_toRow.f a0.Old).bind fun r1 =>
  (laws_toRow.f a0.New).bind fun r2 =>
  some (Change.mk a0.Table a0.Had a0.Has r1 r2)

def laws_toChangeS.l0 (a0 : List Change) : Nat → (List Change) → Int → Option ((List Change))
  | 0, _, _ => none
  | k + 1, z5, z6 =>
    bif (decide (z6 < (lenI a0))) then (
    (getO a0 z6).bind fun x8 =>
    (laws_toChange.f x8).bind fun r9 =>
    (getO z5 z6).bind fun x10 =>
    (some (setI z5 z6 r9)).bind fun l11 =>
    laws_toChangeS.l0 a0 k l11 (w64 (z6 + 1)))
    else (
    some z5)
def laws_toChangeS.f (a0 : List Change) : Option ((List Change)) :=
  (mkO 80 (lenI a0) (Change.mk 0 false false (Row.mk 0 []) (Row.mk 0 []))).bind fun l1 =>
  laws_toChangeS.l0 a0 (((lenI a0) - 0).toNat + 1) l1 0

def impl_within.f (a0 : Int) (a1 : Int) (a2 : Int) : Option Bool :=
  some (bo3 (decide (a1 ≤ a0)) (decide (a0 ≤ a2)) false)

def impl_holds.f (a0 : Cond) (a1 : Row) : Option Bool :=
  (impl_within.f a0.Col 0 (w64 ((lenI a1.Cells) - 1))).bind fun r1 =>
  bif (bo3 r1 false true) then (
  some false)
  else (
  (getO a1.Cells a0.Col).bind fun x3 =>
  bif (decide (a0.Op = 1)) then (
  some (decide (x3 = a0.V)))
  else (
  bif (decide (a0.Op = 2)) then (
  some (decide (x3 < a0.V)))
  else (
  bif (decide (a0.Op = 3)) then (
  some (decide (a0.V < x3)))
  else (
  some (bo3 (decide (a0.Op = 4)) (decide (x3 ≠ a0.V)) false)))))

def impl_Matches.l0 (a0 : Query) (a1 : Row) : Nat → Int → Option Bool
  | 0, _ => none
  | k + 1, z6 =>
    bif (decide (z6 < (lenI a0.Where))) then (
    (getO a0.Where z6).bind fun x8 =>
    (impl_holds.f x8 a1).bind fun r9 =>
    bif (bo3 r9 false true) then (
    some false)
    else (
    impl_Matches.l0 a0 a1 k (w64 (z6 + 1))))
    else (
    some true)
def impl_Matches.f (a0 : Query) (a1 : Row) : Option Bool :=
  impl_Matches.l0 a0 a1 (((lenI a0.Where) - 0).toNat + 1) 0

def impl_cellOf.f (a0 : Row) (a1 : Int) : Option Int :=
  (impl_within.f a1 0 (w64 ((lenI a0.Cells) - 1))).bind fun r1 =>
  bif (bo3 r1 false true) then (
  some 0)
  else (
  (getO a0.Cells a1).bind fun x3 =>
  some x3)

def impl_Touches.f (a0 : Query) (a1 : Change) : Option Bool :=
  (gd (bo3 (decide (a1.Table = a0.Table)) a1.Had false) (impl_Matches.f a0 a1.Old)).bind fun r1 =>
  (gd (bo3 (bo3 (decide (a1.Table = a0.Table)) (bo3 (bo3 a1.Had r1 false) false true) false) a1.Has false) (impl_Matches.f a0 a1.New)).bind fun r2 =>
  bif (bo3 (decide (a1.Table = a0.Table)) (bo3 (bo3 a1.Had r1 false) true (bo3 a1.Has r2 false)) false) then (
  some true)
  else (
  bif (bo3 (bo3 a0.Kids false true) true (decide (a1.Table ≠ a0.KidTable))) then (
  some false)
  else (
  (gd (bo3 (bo3 (bo3 a1.Had (bo3 a1.Has false true) a1.Has) false true) a1.Had false) (impl_cellOf.f a1.Old a0.KidCol)).bind fun r38 =>
  (gd (bo3 (bo3 (bo3 a1.Had (bo3 a1.Has false true) a1.Has) false true) a1.Had false) (impl_cellOf.f a1.New a0.KidCol)).bind fun r39 =>
  some (bo3 (bo3 a1.Had (bo3 a1.Has false true) a1.Has) true (bo3 a1.Had (decide (r38 ≠ r39)) false))))

def impl_TouchesAny.l0 (a0 : Query) (a1 : List Change) : Nat → Int → Option Bool
  | 0, _ => none
  | k + 1, z13 =>
    bif (decide (z13 < (lenI a1))) then (
    (getO a1 z13).bind fun x15 =>
    (impl_Touches.f a0 x15).bind fun r16 =>
    bif r16 then (
    some true)
    else (
    impl_TouchesAny.l0 a0 a1 k (w64 (z13 + 1))))
    else (
    some false)
def impl_TouchesAny.f (a0 : Query) (a1 : List Change) : Option Bool :=
  impl_TouchesAny.l0 a0 a1 (((lenI a1) - 0).toNat + 1) 0

def impl_SchemaOk.l0 (a0 : Schema) (K2 : Unit → Option Bool) : Nat → Int → Option Bool
  | 0, _ => none
  | k + 1, z7 =>
    bif (decide (z7 < (lenI a0.Cols))) then (
    (getO a0.Cols z7).bind fun x9 =>
    (impl_within.f x9 1 4).bind fun r10 =>
    bif (bo3 r10 false true) then (
    some false)
    else (
    impl_SchemaOk.l0 a0 K2 k (w64 (z7 + 1))))
    else (
    K2 ())
def impl_SchemaOk.f (a0 : Schema) : Option Bool :=
  joinK (fun (y1 : Unit) =>
  (impl_within.f (lenI a0.Cols) 1 3).bind fun r12 =>
  some r12) (fun K2 =>
  impl_SchemaOk.l0 a0 K2 (((lenI a0.Cols) - 0).toNat + 1) 0)

def impl_hasTable.f (a0 : Schema) (a1 : Int) : Option Bool :=
  (impl_within.f a1 0 (w64 ((lenI a0.Cols) - 1))).bind fun r1 =>
  some r1

def impl_isNum.f (a0 : Int) : Option Bool :=
  (impl_within.f a0 (-1000000000) 1000000000).bind fun r1 =>
  some r1

def impl_kidsFit.f (a0 : Schema) (a1 : Query) : Option Bool :=
  bif (bo3 a1.Kids false true) then (
  some (bo3 (decide (a1.KidTable = 0)) (decide (a1.KidCol = 0)) false))
  else (
  (impl_hasTable.f a0 a1.KidTable).bind fun r7 =>
  (gd r7 (getO a0.Cols a1.KidTable)).bind fun x8 =>
  (gd r7 (impl_within.f a1.KidCol 0 (w64 (x8 - 1)))).bind fun r9 =>
  some (bo3 r7 r9 false))

def impl_QueryOk.l0 (a1 : Query) (x11 : Int) (K13 : Unit → Option Bool) : Nat → Int → Option Bool
  | 0, _ => none
  | k + 1, z28 =>
    bif (decide (z28 < (lenI a1.Where))) then (
    (getO a1.Where z28).bind fun x30 =>
    (impl_within.f x30.Col 0 (w64 (x11 - 1))).bind fun r31 =>
    (gd (bo3 (bo3 r31 false true) false true) (impl_within.f x30.Op 1 4)).bind fun r32 =>
    (gd (bo3 (bo3 (bo3 r31 false true) true (bo3 r32 false true)) false true) (impl_isNum.f x30.V)).bind fun r33 =>
    bif (bo3 (bo3 (bo3 r31 false true) true (bo3 r32 false true)) true (bo3 r33 false true)) then (
    some false)
    else (
    impl_QueryOk.l0 a1 x11 K13 k (w64 (z28 + 1))))
    else (
    K13 ())
def impl_QueryOk.l1 (a1 : Query) (x11 : Int) (K48 : Unit → Option Bool) : Nat → Int → Option Bool
  | 0, _ => none
  | k + 1, z63 =>
    bif (decide (z63 < (lenI a1.Show))) then (
    (getO a1.Show z63).bind fun x65 =>
    (impl_within.f x65 0 (w64 (x11 - 1))).bind fun r66 =>
    (gd (bo3 (bo3 (bo3 r66 false true) false true) (decide (0 < z63)) false) (getO a1.Show (w64 (z63 - 1)))).bind fun x67 =>
    bif (bo3 (bo3 r66 false true) true (bo3 (decide (0 < z63)) (decide (x65 ≤ x67)) false)) then (
    some false)
    else (
    impl_QueryOk.l1 a1 x11 K48 k (w64 (z63 + 1))))
    else (
    K48 ())
def impl_QueryOk.f (a0 : Schema) (a1 : Query) : Option Bool :=
  (impl_SchemaOk.f a0).bind fun r1 =>
  (gd (bo3 (bo3 r1 false true) false true) (impl_hasTable.f a0 a1.Table)).bind fun r2 =>
  bif (bo3 (bo3 r1 false true) true (bo3 r2 false true)) then (
  some false)
  else (
  (getO a0.Cols a1.Table).bind fun x11 =>
  joinK (fun (y12 : Unit) =>
  joinK (fun (y47 : Unit) =>
  (impl_within.f a1.Order 0 x11).bind fun r85 =>
  (gd (bo3 (decide ((lenI a1.Where) ≤ 3)) (bo3 r85 (bo3 (bo3 a1.Down false true) true (decide (0 < a1.Order))) false) false) (impl_within.f a1.First 0 24)).bind fun r98 =>
  (gd (bo3 (bo3 (decide ((lenI a1.Where) ≤ 3)) (bo3 r85 (bo3 (bo3 a1.Down false true) true (decide (0 < a1.Order))) false) false) r98 false) (impl_kidsFit.f a0 a1)).bind fun r99 =>
  some (bo3 (bo3 (bo3 (decide ((lenI a1.Where) ≤ 3)) (bo3 r85 (bo3 (bo3 a1.Down false true) true (decide (0 < a1.Order))) false) false) r98 false) r99 false)) (fun K48 =>
  impl_QueryOk.l1 a1 x11 K48 (((lenI a1.Show) - 0).toNat + 1) 0)) (fun K13 =>
  impl_QueryOk.l0 a1 x11 K13 (((lenI a1.Where) - 0).toNat + 1) 0))

def impl_Concerned.l0 (a0 : Schema) (a1 : List Query) (a2 : List Change) : Nat → (List Int) → Int → Option ((List Int))
  | 0, _, _ => none
  | k + 1, z7, z8 =>
    bif (decide (z8 < (lenI a1))) then (
    (getO a1 z8).bind fun x10 =>
    (impl_QueryOk.f a0 x10).bind fun r11 =>
    (gd r11 (impl_TouchesAny.f x10 a2)).bind fun r12 =>
    bif (bo3 r11 r12 false) then (
    (some [z8]).bind fun l19 =>
    (appO 8 z7 l19).bind fun l20 =>
    impl_Concerned.l0 a0 a1 a2 k l20 (w64 (z8 + 1)))
    else (
    impl_Concerned.l0 a0 a1 a2 k z7 (w64 (z8 + 1))))
    else (
    some z7)
def impl_Concerned.f (a0 : Schema) (a1 : List Query) (a2 : List Change) : Option ((List Int)) :=
  impl_Concerned.l0 a0 a1 a2 (((lenI a1) - 0).toNat + 1) [] 0

def laws_eqCond.f (a0 : Cond) (a1 : Cond) : Option Bool :=
  bif (decide (a0.Col ≠ a1.Col)) then (
  some false)
  else (
  bif (decide (a0.Op ≠ a1.Op)) then (
  some false)
  else (
  bif (decide (a0.V ≠ a1.V)) then (
  some false)
  else (
  some true)))

def laws_eqCondS.l0 (a0 : List Cond) (a1 : List Cond) : Nat → Int → Option Bool
  | 0, _ => none
  | k + 1, z5 =>
    bif (decide (z5 < (lenI a0))) then (
    (getO a0 z5).bind fun x7 =>
    (getO a1 z5).bind fun x8 =>
    (laws_eqCond.f x7 x8).bind fun r9 =>
    bif (bo3 r9 false true) then (
    some false)
    else (
    laws_eqCondS.l0 a0 a1 k (w64 (z5 + 1))))
    else (
    some true)
def laws_eqCondS.f (a0 : List Cond) (a1 : List Cond) : Option Bool :=
  bif (decide ((lenI a0) ≠ (lenI a1))) then (
  some false)
  else (
  laws_eqCondS.l0 a0 a1 (((lenI a0) - 0).toNat + 1) 0)

def laws_eqQuery.f (a0 : Query) (a1 : Query) : Option Bool :=
  bif (decide (a0.Table ≠ a1.Table)) then (
  some false)
  else (
  (laws_eqCondS.f a0.Where a1.Where).bind fun r2 =>
  bif (bo3 r2 false true) then (
  some false)
  else (
  bif (decide (a0.Order ≠ a1.Order)) then (
  some false)
  else (
  bif (bo3 a0.Down (bo3 a1.Down false true) a1.Down) then (
  some false)
  else (
  bif (decide (a0.First ≠ a1.First)) then (
  some false)
  else (
  (laws_eqIntS.f a0.Show a1.Show).bind fun r7 =>
  bif (bo3 r7 false true) then (
  some false)
  else (
  bif (bo3 a0.Kids (bo3 a1.Kids false true) a1.Kids) then (
  some false)
  else (
  bif (decide (a0.KidTable ≠ a1.KidTable)) then (
  some false)
  else (
  bif (decide (a0.KidCol ≠ a1.KidCol)) then (
  some false)
  else (
  some true)))))))))

def laws_eqQueryS.l0 (a0 : List Query) (a1 : List Query) : Nat → Int → Option Bool
  | 0, _ => none
  | k + 1, z5 =>
    bif (decide (z5 < (lenI a0))) then (
    (getO a0 z5).bind fun x7 =>
    (getO a1 z5).bind fun x8 =>
    (laws_eqQuery.f x7 x8).bind fun r9 =>
    bif (bo3 r9 false true) then (
    some false)
    else (
    laws_eqQueryS.l0 a0 a1 k (w64 (z5 + 1))))
    else (
    some true)
def laws_eqQueryS.f (a0 : List Query) (a1 : List Query) : Option Bool :=
  bif (decide ((lenI a0) ≠ (lenI a1))) then (
  some false)
  else (
  laws_eqQueryS.l0 a0 a1 (((lenI a0) - 0).toNat + 1) 0)

def laws_eqRow.f (a0 : Row) (a1 : Row) : Option Bool :=
  bif (decide (a0.Id ≠ a1.Id)) then (
  some false)
  else (
  (laws_eqIntS.f a0.Cells a1.Cells).bind fun r2 =>
  bif (bo3 r2 false true) then (
  some false)
  else (
  some true))

def laws_eqChange.f (a0 : Change) (a1 : Change) : Option Bool :=
  bif (decide (a0.Table ≠ a1.Table)) then (
  some false)
  else (
  bif (bo3 a0.Had (bo3 a1.Had false true) a1.Had) then (
  some false)
  else (
  bif (bo3 a0.Has (bo3 a1.Has false true) a1.Has) then (
  some false)
  else (
  (laws_eqRow.f a0.Old a1.Old).bind fun r4 =>
  bif (bo3 r4 false true) then (
  some false)
  else (
  (laws_eqRow.f a0.New a1.New).bind fun r6 =>
  bif (bo3 r6 false true) then (
  some false)
  else (
  some true)))))

def laws_eqChangeS.l0 (a0 : List Change) (a1 : List Change) : Nat → Int → Option Bool
  | 0, _ => none
  | k + 1, z5 =>
    bif (decide (z5 < (lenI a0))) then (
    (getO a0 z5).bind fun x7 =>
    (getO a1 z5).bind fun x8 =>
    (laws_eqChange.f x7 x8).bind fun r9 =>
    bif (bo3 r9 false true) then (
    some false)
    else (
    laws_eqChangeS.l0 a0 a1 k (w64 (z5 + 1))))
    else (
    some true)
def laws_eqChangeS.f (a0 : List Change) (a1 : List Change) : Option Bool :=
  bif (decide ((lenI a0) ≠ (lenI a1))) then (
  some false)
  else (
  laws_eqChangeS.l0 a0 a1 (((lenI a0) - 0).toNat + 1) 0)

def laws_markIntS.l0  : Nat → (List Int) → Int → Int → Option ((List Int) × Int)
  | 0, _, _, _ => none
  | k + 1, z4, z5, z6 =>
    bif (decide (z6 < (lenI z4))) then (
    (getO z4 z6).bind fun x8 =>
    (some (setI z4 z6 z5)).bind fun l9 =>
    laws_markIntS.l0 k l9 (w64 (z5 + 1)) (w64 (z6 + 1)))
    else (
    some (z4, z5))
def laws_markIntS.f (a0 : List Int) (a1 : Int) : Option ((List Int) × Int) :=
  laws_markIntS.l0 (((lenI a0) - 0).toNat + 1) a0 a1 0

def laws_markSchema.f (a0 : Schema) (a1 : Int) : Option (Schema × Int) :=
  (laws_markIntS.f a0.Cols a1).bind fun r1 =>
  some ((Schema.mk r1.1), r1.2)

def laws_markCondS.l0  : Nat → (List Cond) → Int → Int → Option ((List Cond) × Int)
  | 0, _, _, _ => none
  | k + 1, z4, z5, z6 =>
    bif (decide (z6 < (lenI z4))) then (
    (getO z4 z6).bind fun x8 =>
    (some (setI z4 z6 (Cond.mk z5 x8.Op x8.V))).bind fun l9 =>
    (getO l9 z6).bind fun x10 =>
    (some (setI l9 z6 (Cond.mk x10.Col (w64 (z5 + 1)) x10.V))).bind fun l11 =>
    (getO l11 z6).bind fun x12 =>
    (some (setI l11 z6 (Cond.mk x12.Col x12.Op (w64 ((w64 (z5 + 1)) + 1))))).bind fun l13 =>
    laws_markCondS.l0 k l13 (w64 ((w64 ((w64 (z5 + 1)) + 1)) + 1)) (w64 (z6 + 1)))
    else (
    some (z4, z5))
def laws_markCondS.f (a0 : List Cond) (a1 : Int) : Option ((List Cond) × Int) :=
  laws_markCondS.l0 (((lenI a0) - 0).toNat + 1) a0 a1 0

def laws_markQueryS.l0  : Nat → (List Query) → Int → Int → Option ((List Query) × Int)
  | 0, _, _, _ => none
  | k + 1, z4, z5, z6 =>
    bif (decide (z6 < (lenI z4))) then (
    (getO z4 z6).bind fun x8 =>
    (some (setI z4 z6 (Query.mk z5 x8.Where x8.Order x8.Down x8.First x8.Show x8.Kids x8.KidTable x8.KidCol))).bind fun l9 =>
    (getO l9 z6).bind fun x10 =>
    (laws_markCondS.f x10.Where (w64 (z5 + 1))).bind fun r11 =>
    (some (setI l9 z6 (Query.mk x10.Table r11.1 x10.Order x10.Down x10.First x10.Show x10.Kids x10.KidTable x10.KidCol))).bind fun l12 =>
    (getO l12 z6).bind fun x13 =>
    (some (setI l12 z6 (Query.mk x13.Table x13.Where r11.2 x13.Down x13.First x13.Show x13.Kids x13.KidTable x13.KidCol))).bind fun l14 =>
    (getO l14 z6).bind fun x15 =>
    (some (setI l14 z6 (Query.mk x15.Table x15.Where x15.Order (decide ((Int.tmod (w64 (r11.2 + 1)) 3) = 0)) x15.First x15.Show x15.Kids x15.KidTable x15.KidCol))).bind fun l16 =>
    (getO l16 z6).bind fun x17 =>
    (some (setI l16 z6 (Query.mk x17.Table x17.Where x17.Order x17.Down (w64 ((w64 (r11.2 + 1)) + 1)) x17.Show x17.Kids x17.KidTable x17.KidCol))).bind fun l18 =>
    (getO l18 z6).bind fun x19 =>
    (laws_markIntS.f x19.Show (w64 ((w64 ((w64 (r11.2 + 1)) + 1)) + 1))).bind fun r20 =>
    (some (setI l18 z6 (Query.mk x19.Table x19.Where x19.Order x19.Down x19.First r20.1 x19.Kids x19.KidTable x19.KidCol))).bind fun l21 =>
    (getO l21 z6).bind fun x22 =>
    (some (setI l21 z6 (Query.mk x22.Table x22.Where x22.Order x22.Down x22.First x22.Show (decide ((Int.tmod r20.2 3) = 0)) x22.KidTable x22.KidCol))).bind fun l23 =>
    (getO l23 z6).bind fun x24 =>
    (some (setI l23 z6 (Query.mk x24.Table x24.Where x24.Order x24.Down x24.First x24.Show x24.Kids (w64 (r20.2 + 1)) x24.KidCol))).bind fun l25 =>
    (getO l25 z6).bind fun x26 =>
    (some (setI l25 z6 (Query.mk x26.Table x26.Where x26.Order x26.Down x26.First x26.Show x26.Kids x26.KidTable (w64 ((w64 (r20.2 + 1)) + 1))))).bind fun l27 =>
    laws_markQueryS.l0 k l27 (w64 ((w64 ((w64 (r20.2 + 1)) + 1)) + 1)) (w64 (z6 + 1)))
    else (
    some (z4, z5))
def laws_markQueryS.f (a0 : List Query) (a1 : Int) : Option ((List Query) × Int) :=
  laws_markQueryS.l0 (((lenI a0) - 0).toNat + 1) a0 a1 0

def laws_markChangeS.l0  : Nat → (List Change) → Int → Int → Option ((List Change) × Int)
  | 0, _, _, _ => none
  | k + 1, z4, z5, z6 =>
    bif (decide (z6 < (lenI z4))) then (
    (getO z4 z6).bind fun x8 =>
    (some (setI z4 z6 (Change.mk z5 x8.Had x8.Has x8.Old x8.New))).bind fun l9 =>
    (getO l9 z6).bind fun x10 =>
    (some (setI l9 z6 (Change.mk x10.Table (decide ((Int.tmod (w64 (z5 + 1)) 3) = 0)) x10.Has x10.Old x10.New))).bind fun l11 =>
    (getO l11 z6).bind fun x12 =>
    (some (setI l11 z6 (Change.mk x12.Table x12.Had (decide ((Int.tmod (w64 ((w64 (z5 + 1)) + 1)) 3) = 0)) x12.Old x12.New))).bind fun l13 =>
    (getO l13 z6).bind fun x14 =>
    (some (setI l13 z6 (Change.mk x14.Table x14.Had x14.Has (Row.mk (w64 ((w64 ((w64 (z5 + 1)) + 1)) + 1)) x14.Old.Cells) x14.New))).bind fun l15 =>
    (getO l15 z6).bind fun x16 =>
    (laws_markIntS.f x16.Old.Cells (w64 ((w64 ((w64 ((w64 (z5 + 1)) + 1)) + 1)) + 1))).bind fun r17 =>
    (some (setI l15 z6 (Change.mk x16.Table x16.Had x16.Has (Row.mk x16.Old.Id r17.1) x16.New))).bind fun l18 =>
    (getO l18 z6).bind fun x19 =>
    (some (setI l18 z6 (Change.mk x19.Table x19.Had x19.Has x19.Old (Row.mk r17.2 x19.New.Cells)))).bind fun l20 =>
    (getO l20 z6).bind fun x21 =>
    (laws_markIntS.f x21.New.Cells (w64 (r17.2 + 1))).bind fun r22 =>
    (some (setI l20 z6 (Change.mk x21.Table x21.Had x21.Has x21.Old (Row.mk x21.New.Id r22.1)))).bind fun l23 =>
    laws_markChangeS.l0 k l23 r22.2 (w64 (z6 + 1)))
    else (
    some (z4, z5))
def laws_markChangeS.f (a0 : List Change) (a1 : Int) : Option ((List Change) × Int) :=
  laws_markChangeS.l0 (((lenI a0) - 0).toNat + 1) a0 a1 0

def laws_heldIntS.l0 (a0 : List Int) : Nat → Int → Int → Option Int
  | 0, _, _ => none
  | k + 1, z4, z5 =>
    bif (decide (z5 < (lenI a0))) then (
    (getO a0 z5).bind fun x7 =>
    bif (decide (x7 ≠ z4)) then (
    some (-1))
    else (
    laws_heldIntS.l0 a0 k (w64 (z4 + 1)) (w64 (z5 + 1))))
    else (
    some z4)
def laws_heldIntS.f (a0 : List Int) (a1 : Int) : Option Int :=
  laws_heldIntS.l0 a0 (((lenI a0) - 0).toNat + 1) a1 0

def laws_FnExactConcerned.f (a0 : Schema) (a1 : List Query) (a2 : List Change) : Option Bool :=
  (laws_szSchema.f a0 1048576).bind fun r1 =>
  bif (decide (r1 < 0)) then (
  some true)
  else (
  (laws_szQueryS.f a1 r1).bind fun r3 =>
  bif (decide (r3 < 0)) then (
  some true)
  else (
  (laws_szChangeS.f a2 r3).bind fun r5 =>
  bif (decide (r5 < 0)) then (
  some true)
  else (
  (laws_toSchema.f a0).bind fun r7 =>
  (laws_toQueryS.f a1).bind fun r8 =>
  (laws_toChangeS.f a2).bind fun r9 =>
  (spec_Concerned.f r7 r8 r9).bind fun r10 =>
  (laws_toSchema.f a0).bind fun r11 =>
  (laws_toQueryS.f a1).bind fun r12 =>
  (laws_toChangeS.f a2).bind fun r13 =>
  (impl_Concerned.f r11 r12 r13).bind fun r14 =>
  (laws_eqIntS.f r14 r10).bind fun r15 =>
  bif (bo3 r15 false true) then (
  some false)
  else (
  (laws_toSchema.f a0).bind fun r17 =>
  (laws_eqSchema.f r11 r17).bind fun r18 =>
  bif (bo3 r18 false true) then (
  some false)
  else (
  (laws_toQueryS.f a1).bind fun r20 =>
  (laws_eqQueryS.f r12 r20).bind fun r21 =>
  bif (bo3 r21 false true) then (
  some false)
  else (
  (laws_toChangeS.f a2).bind fun r23 =>
  (laws_eqChangeS.f r13 r23).bind fun r24 =>
  bif (bo3 r24 false true) then (
  some false)
  else (
  (laws_markSchema.f r11 1).bind fun r26 =>
  (laws_markQueryS.f r12 r26.2).bind fun r27 =>
  (laws_markChangeS.f r13 r27.2).bind fun r28 =>
  (gd (bo3 (decide (r28.2 < 0)) false true) (laws_eqIntS.f r14 r10)).bind fun r29 =>
  bif (bo3 (decide (r28.2 < 0)) true (bo3 r29 false true)) then (
  some false)
  else (
  (laws_markIntS.f r14 1).bind fun r37 =>
  (laws_heldIntS.f r37.1 1).bind fun r38 =>
  bif (decide (r38 < 0)) then (
  some false)
  else (
  bif (decide (r38 ≠ r37.2)) then (
  some false)
  else (
  (laws_toSchema.f a0).bind fun r41 =>
  (laws_toQueryS.f a1).bind fun r42 =>
  (laws_toChangeS.f a2).bind fun r43 =>
  (impl_Concerned.f r41 r42 r43).bind fun r44 =>
  (laws_eqIntS.f r44 r10).bind fun r45 =>
  bif (bo3 r45 false true) then (
  some false)
  else (
  (laws_heldIntS.f r37.1 1).bind fun r47 =>
  bif (decide (r47 < 0)) then (
  some false)
  else (
  bif (decide (r47 ≠ r37.2)) then (
  some false)
  else (
  some true)))))))))))))

end Go.Proofs.Ytibmfkomdhnhbaa.L
