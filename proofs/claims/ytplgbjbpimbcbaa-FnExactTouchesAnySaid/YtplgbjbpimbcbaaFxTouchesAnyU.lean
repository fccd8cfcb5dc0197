/- The pure functions of the program. -/
import Derived.Test.YtplgbjbpimbcbaaSl30
namespace Go.Proofs.Ytplgbjbpimbcbaa.L
open Go
set_option linter.unusedVariables false
structure Cond where
  Col : Int
  Op : Int
  V : Int
  deriving Inhabited, DecidableEq
structure Query where
  Table : Int
  Where : List Cond
  Order : Int
  Down : Bool
  First : Int
  Show : List Int
  Kids : Bool
  KidTable : Int
  KidCol : Int
  deriving Inhabited, DecidableEq
structure Row where
  Id : Int
  Cells : List Int
  deriving Inhabited, DecidableEq
structure Change where
  Table : Int
  Had : Bool
  Has : Bool
  Old : Row
  New : Row
  deriving Inhabited, DecidableEq

def laws_szCondS.f (a0 : List Cond) (a1 : Int) : Option Int :=
  bif (decide ((w64 (a1 - (lenI a0))) < 0)) then (
  some (-1))
  else (
  some (w64 (a1 - (lenI a0))))

def laws_szIntS.f (a0 : List Int) (a1 : Int) : Option Int :=
  bif (decide ((w64 (a1 - (lenI a0))) < 0)) then (
  some (-1))
  else (
  some (w64 (a1 - (lenI a0))))

def laws_szQuery.f (a0 : Query) (a1 : Int) : Option Int :=
  (laws_szCondS.f a0.Where a1).bind fun r1 =>
  bif (decide (r1 < 0)) then (
  some (-1))
  else (
  (laws_szIntS.f a0.Show r1).bind fun r3 =>
  bif (decide (r3 < 0)) then (
  some (-1))
  else (
  some r3))

def laws_toCond.f (a0 : Cond) : Option Cond :=
  some a0

def laws_toCondS.l0 (a0 : List Cond) : Nat → (List Cond) → Int → Option ((List Cond))
  | 0, _, _ => none
  | k + 1, z5, z6 =>
    bif (decide (z6 < (lenI a0))) then (
    (getO a0 z6).bind fun x8 =>
    (laws_toCond.f x8).bind fun r9 =>
    (getO z5 z6).bind fun x10 =>
    (some (setI z5 z6 r9)).bind fun l11 =>
    laws_toCondS.l0 a0 k l11 (w64 (z6 + 1)))
    else (
    some z5)
def laws_toCondS.f (a0 : List Cond) : Option ((List Cond)) :=
  (mkO 24 (lenI a0) (Cond.mk 0 0 0)).bind fun l1 =>
  laws_toCondS.l0 a0 (((lenI a0) - 0).toNat + 1) l1 0

def laws_toIntS.l0 (a0 : List Int) : Nat → (List Int) → Int → Option ((List Int))
  | 0, _, _ => none
  | k + 1, z5, z6 =>
    bif (decide (z6 < (lenI a0))) then (
    (getO a0 z6).bind fun x8 =>
    (getO z5 z6).bind fun x9 =>
    (some (setI z5 z6 x8)).bind fun l10 =>
    laws_toIntS.l0 a0 k l10 (w64 (z6 + 1)))
    else (
    some z5)
def laws_toIntS.f (a0 : List Int) : Option ((List Int)) :=
  (mkO 8 (lenI a0) 0).bind fun l1 =>
  laws_toIntS.l0 a0 (((lenI a0) - 0).toNat + 1) l1 0

def laws_toQuery.f (a0 : Query) : Option Query :=
  (laws_toCondS.f a0.Where).bind fun r1 =>
  (laws_toIntS.f a0.Show).bind fun r2 =>
  some (Query.mk a0.Table r1 a0.Order a0.Down a0.First r2 a0.Kids a0.KidTable a0.KidCol)

def laws_eqCond.f (a0 : Cond) (a1 : Cond) : Option Bool :=
  bif (decide (a0.Col ≠ a1.Col)) then (
  some false)
  else (
  bif (decide (a0.Op ≠ a1.Op)) then (
  some false)
  else (
  bif (decide (a0.V ≠ a1.V)) then (
  some false)
  else (
  some true)))

def laws_eqCondS.l0 (a0 : List Cond) (a1 : List Cond) : Nat → Int → Option Bool
  | 0, _ => none
  | k + 1, z5 =>
    bif (decide (z5 < (lenI a0))) then (
    (getO a0 z5).bind fun x7 =>
    (getO a1 z5).bind fun x8 =>
    (laws_eqCond.f x7 x8).bind fun r9 =>
    bif (bo3 r9 false true) then (
    some false)
    else (
    laws_eqCondS.l0 a0 a1 k (w64 (z5 + 1))))
    else (
    some true)
def laws_eqCondS.f (a0 : List Cond) (a1 : List Cond) : Option Bool :=
  bif (decide ((lenI a0) ≠ (lenI a1))) then (
  some false)
  else (
  laws_eqCondS.l0 a0 a1 (((lenI a0) - 0).toNat + 1) 0)

def laws_eqIntS.l0 (a0 : List Int) (a1 : List Int) : Nat → Int → Option Bool
  | 0, _ => none
  | k + 1, z5 =>
    bif (decide (z5 < (lenI a0))) then (
    (getO a0 z5).bind fun x7 =>
    (getO a1 z5).bind fun x8 =>
    bif (decide (x7 ≠ x8)) then (
    some false)
    else (
    laws_eqIntS.l0 a0 a1 k (w64 (z5 + 1))))
    else (
    some true)
def laws_eqIntS.f (a0 : List Int) (a1 : List Int) : Option Bool :=
  bif (decide ((lenI a0) ≠ (lenI a1))) then (
  some false)
  else (
  laws_eqIntS.l0 a0 a1 (((lenI a0) - 0).toNat + 1) 0)

def laws_eqQuery.f (a0 : Query) (a1 : Query) : Option Bool :=
  bif (decide (a0.Table ≠ a1.Table)) then (
  some false)
  else (
  (laws_eqCondS.f a0.Where a1.Where).bind fun r2 =>
  bif (bo3 r2 false true) then (
  some false)
  else (
  bif (decide (a0.Order ≠ a1.Order)) then (
  some false)
  else (
  bif (bo3 a0.Down (bo3 a1.Down false true) a1.Down) then (
  some false)
  else (
  bif (decide (a0.First ≠ a1.First)) then (
  some false)
  else (
  (laws_eqIntS.f a0.Show a1.Show).bind fun r7 =>
  bif (bo3 r7 false true) then (
  some false)
  else (
  bif (bo3 a0.Kids (bo3 a1.Kids false true) a1.Kids) then (
  some false)
  else (
  bif (decide (a0.KidTable ≠ a1.KidTable)) then (
  some false)
  else (
  bif (decide (a0.KidCol ≠ a1.KidCol)) then (
  some false)
  else (
  some true)))))))))

def laws_szRow.f (a0 : Row) (a1 : Int) : Option Int :=
  (laws_szIntS.f a0.Cells a1).bind fun r1 =>
  bif (decide (r1 < 0)) then (
  some (-1))
  else (
  some r1)

def laws_szChange.f (a0 : Change) (a1 : Int) : Option Int :=
  (laws_szRow.f a0.Old a1).bind fun r1 =>
  bif (decide (r1 < 0)) then (
  some (-1))
  else (
  (laws_szRow.f a0.New r1).bind fun r3 =>
  bif (decide (r3 < 0)) then (
  some (-1))
  else (
  some r3))

def laws_szChangeS.l0 (a0 : List Change) : Nat → Int → Int → Option Int
  | 0, _, _ => none
  | k + 1, z5, z6 =>
    bif (decide (z6 < (lenI a0))) then (
    (getO a0 z6).bind fun x8 =>
    (laws_szChange.f x8 z5).bind fun r9 =>
    bif (decide (r9 < 0)) then (
    some (-1))
    else (
    laws_szChangeS.l0 a0 k r9 (w64 (z6 + 1))))
    else (
    some z5)
def laws_szChangeS.f (a0 : List Change) (a1 : Int) : Option Int :=
  bif (decide ((w64 (a1 - (lenI a0))) < 0)) then (
  some (-1))
  else (
  laws_szChangeS.l0 a0 (((lenI a0) - 0).toNat + 1) (w64 (a1 - (lenI a0))) 0)

def spec_l1In.f (a0 : Int) (a1 : Int) (a2 : Int) : Option Bool :=
  some (bo3 (decide (a1 ≤ a0)) (decide (a0 ≤ a2)) false)

def spec_l9Holds.f (a0 : Cond) (a1 : Row) : Option Bool :=
  (spec_l1In.f a0.Col 0 (w64 ((lenI a1.Cells) - 1))).bind fun r1 =>
  bif (bo3 r1 false true) then (
  some false)
  else (
  (getO a1.Cells a0.Col).bind fun x3 =>
  bif (decide (a0.Op = 1)) then (
  some (decide (x3 = a0.V)))
  else (
  bif (decide (a0.Op = 2)) then (
  some (decide (x3 < a0.V)))
  else (
  bif (decide (a0.Op = 3)) then (
  some (decide (a0.V < x3)))
  else (
  bif (decide (a0.Op = 4)) then (
  some (decide (x3 ≠ a0.V)))
  else (
  some false)))))

def spec_Matches.l0 (a0 : Query) (a1 : Row) : Nat → Int → Option Bool
  | 0, _ => none
  | k + 1, z13 =>
    bif (decide (z13 < (lenI a0.Where))) then (
    (getO a0.Where z13).bind fun x15 =>
    (spec_l9Holds.f x15 a1).bind fun r16 =>
    bif (bo3 r16 false true) then (
    some false)
    else (
    spec_Matches.l0 a0 a1 k (w64 (z13 + 1))))
    else (
    some true)
def spec_Matches.f (a0 : Query) (a1 : Row) : Option Bool :=
  spec_Matches.l0 a0 a1 (((lenI a0.Where) - 0).toNat + 1) 0

def spec_l12In.f (a0 : Query) (a1 : Change) : Option Bool :=
  (gd (bo3 (decide (a1.Table = a0.Table)) a1.Had false) (spec_Matches.f a0 a1.Old)).bind fun r1 =>
  (gd (bo3 (bo3 (decide (a1.Table = a0.Table)) (bo3 (bo3 a1.Had r1 false) false true) false) a1.Has false) (spec_Matches.f a0 a1.New)).bind fun r2 =>
  some (bo3 (decide (a1.Table = a0.Table)) (bo3 (bo3 a1.Had r1 false) true (bo3 a1.Has r2 false)) false)

def spec_l9Cell.f (a0 : Row) (a1 : Int) : Option Int :=
  (spec_l1In.f a1 0 (w64 ((lenI a0.Cells) - 1))).bind fun r1 =>
  bif (bo3 r1 false true) then (
  some 0)
  else (
  (getO a0.Cells a1).bind fun x3 =>
  some x3)

def spec_Touches.f (a0 : Query) (a1 : Change) : Option Bool :=
  (spec_l12In.f a0 a1).bind fun r1 =>
  bif r1 then (
  some true)
  else (
  bif (bo3 (bo3 (bo3 a0.Kids false true) true (decide (a1.Table ≠ a0.KidTable))) true (bo3 (bo3 a1.Had false true) (bo3 a1.Has false true) false)) then (
  some false)
  else (
  (gd (bo3 (bo3 a1.Had (bo3 a1.Has false true) a1.Has) false true) (spec_l9Cell.f a1.Old a0.KidCol)).bind fun r23 =>
  (gd (bo3 (bo3 a1.Had (bo3 a1.Has false true) a1.Has) false true) (spec_l9Cell.f a1.New a0.KidCol)).bind fun r24 =>
  some (bo3 (bo3 a1.Had (bo3 a1.Has false true) a1.Has) true (decide (r23 ≠ r24)))))

def spec_TouchesAny.l0 (a0 : Query) (a1 : List Change) : Nat → Int → Option Bool
  | 0, _ => none
  | k + 1, z12 =>
    bif (decide (z12 < (lenI a1))) then (
    (getO a1 z12).bind fun x14 =>
    (spec_Touches.f a0 x14).bind fun r15 =>
    bif r15 then (
    some true)
    else (
    spec_TouchesAny.l0 a0 a1 k (w64 (z12 + 1))))
    else (
    some false)
def spec_TouchesAny.f (a0 : Query) (a1 : List Change) : Option Bool :=
  spec_TouchesAny.l0 a0 a1 (((lenI a1) - 0).toNat + 1) 0

def laws_toRow.f (a0 : Row) : Option Row :=
  (laws_toIntS.f a0.Cells).bind fun r1 =>
  some (Row.mk a0.Id r1)

def laws_toChange.f (a0 : Change) : Option Change :=
  (laws_toRow.f a0.Old).bind fun r1 =>
  (laws_toRow.f a0.New).bind fun r2 =>
  some (Change.mk a0.Table a0.Had a0.Has r1 r2)

def laws_toChangeS.l0 (a0 : List Change) : Nat → (List Change) → Int → Option ((List Change))
  | 0, _, _ => none
  | k + 1, z5, z6 =>
    bif (decide (z6 < (lenI a0))) then (
    (getO a0 z6).bind fun x8 =>
    (laws_toChange.f x8).bind fun r9 =>
    (getO z5 z6).bind fun x10 =>
    (some (setI z5 z6 r9)).bind fun l11 =>
    laws_toChangeS.l0 a0 k l11 (w64 (z6 + 1)))
    else (
    some z5)
def laws_toChangeS.f (a0 : List Change) : Option ((List Change)) :=
  (mkO 80 (lenI a0) (Change.mk 0 false false (Row.mk 0 []) (Row.mk 0 []))).bind fun l1 =>
  laws_toChangeS.l0 a0 (((lenI a0) - 0).toNat + 1) l1 0

def impl_within.f (a0 : Int) (a1 : Int) (a2 : Int) : Option Bool :=
  some (bo3 (decide (a1 ≤ a0)) (decide (a0 ≤ a2)) false)

def impl_holds.f (a0 : Cond) (a1 : Row) : Option Bool :=
  (impl_within.f a0.Col 0 (w64 ((lenI a1.Cells) - 1))).bind fun r1 =>
  bif (bo3 r1 false true) then (
  some false)
  else (
  (getO a1.Cells a0.Col).bind fun x3 =>
  bif (decide (a0.Op = 1)) then (
  some (decide (x3 = a0.V)))
  else (
  bif (decide (a0.Op = 2)) then (
  some (decide (x3 < a0.V)))
  else (
  bif (decide (a0.Op = 3)) then (
  some (decide (a0.V < x3)))
  else (
  some (bo3 (decide (a0.Op = 4)) (decide (x3 ≠ a0.V)) false)))))

def impl_Matches.l0 (a0 : Query) (a1 : Row) : Nat → Int → Option Bool
  | 0, _ => none
  | k + 1, z6 =>
    bif (decide (z6 < (lenI a0.Where))) then (
    (getO a0.Where z6).bind fun x8 =>
    (impl_holds.f x8 a1).bind fun r9 =>
    bif (bo3 r9 false true) then (
    some false)
    else (
    impl_Matches.l0 a0 a1 k (w64 (z6 + 1))))
    else (
    some true)
def impl_Matches.f (a0 : Query) (a1 : Row) : Option Bool :=
  impl_Matches.l0 a0 a1 (((lenI a0.Where) - 0).toNat + 1) 0

def impl_cellOf.f (a0 : Row) (a1 : Int) : Option Int :=
  (impl_within.f a1 0 (w64 ((lenI a0.Cells) - 1))).bind fun r1 =>
  bif (bo3 r1 false true) then (
  some 0)
  else (
  (getO a0.Cells a1).bind fun x3 =>
  some x3)

def impl_Touches.f (a0 : Query) (a1 : Change) : Option Bool :=
  (gd (bo3 (decide (a1.Table = a0.Table)) a1.Had false) (impl_Matches.f a0 a1.Old)).bind fun r1 =>
  (gd (bo3 (bo3 (decide (a1.Table = a0.Table)) (bo3 (bo3 a1.Had r1 false) false true) false) a1.Has false) (impl_Matches.f a0 a1.New)).bind fun r2 =>
  bif (bo3 (decide (a1.Table = a0.Table)) (bo3 (bo3 a1.Had r1 false) true (bo3 a1.Has r2 false)) false) then (
  some true)
  else (
  bif (bo3 (bo3 a0.Kids false true) true (decide (a1.Table ≠ a0.KidTable))) then (
  some false)
  else (
  (gd (bo3 (bo3 (bo3 a1.Had (bo3 a1.Has false true) a1.Has) false true) a1.Had false) (impl_cellOf.f a1.Old a0.KidCol)).bind fun r38 =>
  (gd (bo3 (bo3 (bo3 a1.Had (bo3 a1.Has false true) a1.Has) false true) a1.Had false) (impl_cellOf.f a1.New a0.KidCol)).bind fun r39 =>
  some (bo3 (bo3 a1.Had (bo3 a1.Has false true) a1.Has) true (bo3 a1.Had (decide (r38 ≠ r39)) false))))

def impl_TouchesAny.l0 (a0 : Query) (a1 : List Change) : Nat → Int → Option Bool
  | 0, _ => none
  | k + 1, z13 =>
    bif (decide (z13 < (lenI a1))) then (
    (getO a1 z13).bind fun x15 =>
    (impl_Touches.f a0 x15).bind fun r16 =>
    bif r16 then (
    some true)
    else (
    impl_TouchesAny.l0 a0 a1 k (w64 (z13 + 1))))
    else (
    some false)
def impl_TouchesAny.f (a0 : Query) (a1 : List Change) : Option Bool :=
  impl_TouchesAny.l0 a0 a1 (((lenI a1) - 0).toNat + 1) 0

def laws_eqRow.f (a0 : Row) (a1 : Row) : Option Bool :=
  bif (decide (a0.Id ≠ a1.Id)) then (
  some false)
  else (
  (laws_eqIntS.f a0.Cells a1.Cells).bind fun r2 =>
  bif (bo3 r2 false true) then (
  some false)
  else (
  some true))

def laws_eqChange.f (a0 : Change) (a1 : Change) : Option Bool :=
  bif (decide (a0.Table ≠ a1.Table)) then (
  some false)
  else (
  bif (bo3 a0.Had (bo3 a1.Had false true) a1.Had) then (
  some false)
  else (
  bif (bo3 a0.Has (bo3 a1.Has false true) a1.Has) then (
  some false)
  else (
  (laws_eqRow.f a0.Old a1.Old).bind fun r4 =>
  bif (bo3 r4 false true) then (
  some false)
  else (
  (laws_eqRow.f a0.New a1.New).bind fun r6 =>
  bif (bo3 r6 false true) then (
  some false)
  else (
  some true)))))

def laws_eqChangeS.l0 (a0 : List Change) (a1 : List Change) : Nat → Int → Option Bool
  | 0, _ => none
  | k + 1, z5 =>
    bif (decide (z5 < (lenI a0))) then (
    (getO a0 z5).bind fun x7 =>
    (getO a1 z5).bind fun x8 =>
    (laws_eqChange.f x7 x8).bind fun r9 =>
    bif (bo3 r9 false true) then (
    some false)
    else (
    laws_eqChangeS.l0 a0 a1 k (w64 (z5 + 1))))
    else (
    some true)
def laws_eqChangeS.f (a0 : List Change) (a1 : List Change) : Option Bool :=
  bif (decide ((lenI a0) ≠ (lenI a1))) then (
  some false)
  else (
  laws_eqChangeS.l0 a0 a1 (((lenI a0) - 0).toNat + 1) 0)

def laws_FnExactTouchesAny.f (a0 : Query) (a1 : List Change) : Option Bool :=
  (laws_szQuery.f a0 1048576).bind fun r1 =>
  bif (decide (r1 < 0)) then (
  some true)
  else (
  (laws_szChangeS.f a1 r1).bind fun r3 =>
  bif (decide (r3 < 0)) then (
  some true)
  else (
  (laws_toQuery.f a0).bind fun r5 =>
  (laws_toChangeS.f a1).bind fun r6 =>
  (spec_TouchesAny.f r5 r6).bind fun r7 =>
  (laws_toQuery.f a0).bind fun r8 =>
  (laws_toChangeS.f a1).bind fun r9 =>
  (impl_TouchesAny.f r8 r9).bind fun r10 =>
  bif (bo3 r10 (bo3 r7 false true) r7) then (
  some false)
  else (
  (laws_toQuery.f a0).bind fun r12 =>
  (laws_eqQuery.f r8 r12).bind fun r13 =>
  bif (bo3 r13 false true) then (
  some false)
  else (
  (laws_toChangeS.f a1).bind fun r15 =>
  (laws_eqChangeS.f r9 r15).bind fun r16 =>
  bif (bo3 r16 false true) then (
  some false)
  else (
  some true)))))

end Go.Proofs.Ytplgbjbpimbcbaa.L
