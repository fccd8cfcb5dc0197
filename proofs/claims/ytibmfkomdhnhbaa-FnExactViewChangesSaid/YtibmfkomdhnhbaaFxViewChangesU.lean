/- The pure functions of the program. -/
import Derived.Test.YtibmfkomdhnhbaaSl42
namespace Go.Proofs.Ytibmfkomdhnhbaa.L
open Go
set_option linter.unusedVariables false
structure Cond where
  Col : Int
  Op : Int
  V : Int
  deriving Inhabited, DecidableEq
structure Query where
  Table : Int
  Where : List Cond
  Order : Int
  Down : Bool
  First : Int
  Show : List Int
  Kids : Bool
  KidTable : Int
  KidCol : Int
  deriving Inhabited, DecidableEq
structure Row where
  Id : Int
  Cells : List Int
  deriving Inhabited, DecidableEq
structure Kid where
  Id : Int
  N : Int
  deriving Inhabited, DecidableEq
structure View where
  Q : Query
  Rows : List Row
  Kids : List Kid
  deriving Inhabited, DecidableEq
structure Change where
  Table : Int
  Had : Bool
  Has : Bool
  Old : Row
  New : Row
  deriving Inhabited, DecidableEq

def laws_szCondS.f (a0 : List Cond) (a1 : Int) : Option Int :=
  bif (decide ((w64 (a1 - (lenI a0))) < 0)) then (
  some (-1))
  else (
  some (w64 (a1 - (lenI a0))))

def laws_szIntS.f (a0 : List Int) (a1 : Int) : Option Int :=
  bif (decide ((w64 (a1 - (lenI a0))) < 0)) then (
  some (-1))
  else (
  some (w64 (a1 - (lenI a0))))

def laws_szQuery.f (a0 : Query) (a1 : Int) : Option Int :=
  (laws_szCondS.f a0.Where a1).bind fun r1 =>
  bif (decide (r1 < 0)) then (
  some (-1))
  else (
  (laws_szIntS.f a0.Show r1).bind fun r3 =>
  bif (decide (r3 < 0)) then (
  some (-1))
  else (
  some r3))

def laws_szRow.f (a0 : Row) (a1 : Int) : Option Int :=
  (laws_szIntS.f a0.Cells a1).bind fun r1 =>
  bif (decide (r1 < 0)) then (
  some (-1))
  else (
  some r1)

def laws_szRowS.l0 (a0 : List Row) : Nat → Int → Int → Option Int
  | 0, _, _ => none
  | k + 1, z5, z6 =>
    bif (decide (z6 < (lenI a0))) then (
    (getO a0 z6).bind fun x8 =>
    (laws_szRow.f x8 z5).bind fun r9 =>
    bif (decide (r9 < 0)) then (
    some (-1))
    else (
    laws_szRowS.l0 a0 k r9 (w64 (z6 + 1))))
    else (
    some z5)
def laws_szRowS.f (a0 : List Row) (a1 : Int) : Option Int :=
  bif (decide ((w64 (a1 - (lenI a0))) < 0)) then (
  some (-1))
  else (
  laws_szRowS.l0 a0 (((lenI a0) - 0).toNat + 1) (w64 (a1 - (lenI a0))) 0)

def laws_szKidS.f (a0 : List Kid) (a1 : Int) : Option Int :=
  bif (decide ((w64 (a1 - (lenI a0))) < 0)) then (
  some (-1))
  else (
  some (w64 (a1 - (lenI a0))))

def laws_szView.f (a0 : View) (a1 : Int) : Option Int :=
  (laws_szQuery.f a0.Q a1).bind fun r1 =>
  bif (decide (r1 < 0)) then (
  some (-1))
  else (
  (laws_szRowS.f a0.Rows r1).bind fun r3 =>
  bif (decide (r3 < 0)) then (
  some (-1))
  else (
  (laws_szKidS.f a0.Kids r3).bind fun r5 =>
  bif (decide (r5 < 0)) then (
  some (-1))
  else (
  some r5)))

def laws_toIntS.l0 (a0 : List Int) : Nat → (List Int) → Int → Option ((List Int))
  | 0, _, _ => none
  | k + 1, z5, z6 =>
    bif (decide (z6 < (lenI a0))) then (
    (getO a0 z6).bind fun x8 =>
    (getO z5 z6).bind fun x9 =>
    (some (setI z5 z6 x8)).bind fun l10 =>
    laws_toIntS.l0 a0 k l10 (w64 (z6 + 1)))
    else (
    some z5)
def laws_toIntS.f (a0 : List Int) : Option ((List Int)) :=
  (mkO 8 (lenI a0) 0).bind fun l1 =>
  laws_toIntS.l0 a0 (((lenI a0) - 0).toNat + 1) l1 0

def laws_toRow.f (a0 : Row) : Option Row :=
  (laws_toIntS.f a0.Cells).bind fun r1 =>
  some (Row.mk a0.Id r1)

def laws_toRowS.l0 (a0 : List Row) : Nat → (List Row) → Int → Option ((List Row))
  | 0, _, _ => none
  | k + 1, z5, z6 =>
    bif (decide (z6 < (lenI a0))) then (
    (getO a0 z6).bind fun x8 =>
    (laws_toRow.f x8).bind fun r9 =>
    (getO z5 z6).bind fun x10 =>
    (some (setI z5 z6 r9)).bind fun l11 =>
    laws_toRowS.l0 a0 k l11 (w64 (z6 + 1)))
    else (
    some z5)
def laws_toRowS.f (a0 : List Row) : Option ((List Row)) :=
  (mkO 32 (lenI a0) (Row.mk 0 [])).bind fun l1 =>
  laws_toRowS.l0 a0 (((lenI a0) - 0).toNat + 1) l1 0

def laws_toKid.f (a0 : Kid) : Option Kid :=
  some a0

def laws_toKidS.l0 (a0 : List Kid) : Nat → (List Kid) → Int → Option ((List Kid))
  | 0, _, _ => none
  | k + 1, z5, z6 =>
    bif (decide (z6 < (lenI a0))) then (
    (getO a0 z6).bind fun x8 =>
    (laws_toKid.f x8).bind fun r9 =>
    (getO z5 z6).bind fun x10 =>
    (some (setI z5 z6 r9)).bind fun l11 =>
    laws_toKidS.l0 a0 k l11 (w64 (z6 + 1)))
    else (
    some z5)
def laws_toKidS.f (a0 : List Kid) : Option ((List Kid)) :=
  (mkO 16 (lenI a0) (Kid.mk 0 0)).bind fun l1 =>
  laws_toKidS.l0 a0 (((lenI a0) - 0).toNat + 1) l1 0

def laws_toCond.f (a0 : Cond) : Option Cond :=
  some a0

def laws_toCondS.l0 (a0 : List Cond) : Nat → (List Cond) → Int → Option ((List Cond))
  | 0, _, _ => none
  | k + 1, z5, z6 =>
    bif (decide (z6 < (lenI a0))) then (
    (getO a0 z6).bind fun x8 =>
    (laws_toCond.f x8).bind fun r9 =>
    (getO z5 z6).bind fun x10 =>
    (some (setI z5 z6 r9)).bind fun l11 =>
    laws_toCondS.l0 a0 k l11 (w64 (z6 + 1)))
    else (
    some z5)
def laws_toCondS.f (a0 : List Cond) : Option ((List Cond)) :=
  (mkO 24 (lenI a0) (Cond.mk 0 0 0)).bind fun l1 =>
  laws_toCondS.l0 a0 (((lenI a0) - 0).toNat + 1) l1 0

def laws_toQuery.f (a0 : Query) : Option Query :=
  (laws_toCondS.f a0.Where).bind fun r1 =>
  (laws_toIntS.f a0.Show).bind fun r2 =>
  some (Query.mk a0.Table r1 a0.Order a0.Down a0.First r2 a0.Kids a0.KidTable a0.KidCol)

def laws_toView.f (a0 : View) : Option View :=
  (laws_toQuery.f a0.Q).bind fun r1 =>
  (laws_toRowS.f a0.Rows).bind fun r2 =>
  (laws_toKidS.f a0.Kids).bind fun r3 =>
  some (View.mk r1 r2 r3)

def laws_eqIntS.l0 (a0 : List Int) (a1 : List Int) : Nat → Int → Option Bool
  | 0, _ => none
  | k + 1, z5 =>
    bif (decide (z5 < (lenI a0))) then (
    (getO a0 z5).bind fun x7 =>
    (getO a1 z5).bind fun x8 =>
    bif (decide (x7 ≠ x8)) then (
    some false)
    else (
    laws_eqIntS.l0 a0 a1 k (w64 (z5 + 1))))
    else (
    some true)
def laws_eqIntS.f (a0 : List Int) (a1 : List Int) : Option Bool :=
  bif (decide ((lenI a0) ≠ (lenI a1))) then (
  some false)
  else (
  laws_eqIntS.l0 a0 a1 (((lenI a0) - 0).toNat + 1) 0)

def laws_eqRow.f (a0 : Row) (a1 : Row) : Option Bool :=
  bif (decide (a0.Id ≠ a1.Id)) then (
  some false)
  else (
  (laws_eqIntS.f a0.Cells a1.Cells).bind fun r2 =>
  bif (bo3 r2 false true) then (
  some false)
  else (
  some true))

def laws_eqRowS.l0 (a0 : List Row) (a1 : List Row) : Nat → Int → Option Bool
  | 0, _ => none
  | k + 1, z5 =>
    bif (decide (z5 < (lenI a0))) then (
    (getO a0 z5).bind fun x7 =>
    (getO a1 z5).bind fun x8 =>
    (laws_eqRow.f x7 x8).bind fun r9 =>
    bif (bo3 r9 false true) then (
    some false)
    else (
    laws_eqRowS.l0 a0 a1 k (w64 (z5 + 1))))
    else (
    some true)
def laws_eqRowS.f (a0 : List Row) (a1 : List Row) : Option Bool :=
  bif (decide ((lenI a0) ≠ (lenI a1))) then (
  some false)
  else (
  laws_eqRowS.l0 a0 a1 (((lenI a0) - 0).toNat + 1) 0)

def laws_eqKid.f (a0 : Kid) (a1 : Kid) : Option Bool :=
  bif (decide (a0.Id ≠ a1.Id)) then (
  some false)
  else (
  bif (decide (a0.N ≠ a1.N)) then (
  some false)
  else (
  some true))

def laws_eqKidS.l0 (a0 : List Kid) (a1 : List Kid) : Nat → Int → Option Bool
  | 0, _ => none
  | k + 1, z5 =>
    bif (decide (z5 < (lenI a0))) then (
    (getO a0 z5).bind fun x7 =>
    (getO a1 z5).bind fun x8 =>
    (laws_eqKid.f x7 x8).bind fun r9 =>
    bif (bo3 r9 false true) then (
    some false)
    else (
    laws_eqKidS.l0 a0 a1 k (w64 (z5 + 1))))
    else (
    some true)
def laws_eqKidS.f (a0 : List Kid) (a1 : List Kid) : Option Bool :=
  bif (decide ((lenI a0) ≠ (lenI a1))) then (
  some false)
  else (
  laws_eqKidS.l0 a0 a1 (((lenI a0) - 0).toNat + 1) 0)

def laws_eqCond.f (a0 : Cond) (a1 : Cond) : Option Bool :=
  bif (decide (a0.Col ≠ a1.Col)) then (
  some false)
  else (
  bif (decide (a0.Op ≠ a1.Op)) then (
  some false)
  else (
  bif (decide (a0.V ≠ a1.V)) then (
  some false)
  else (
  some true)))

def laws_eqCondS.l0 (a0 : List Cond) (a1 : List Cond) : Nat → Int → Option Bool
  | 0, _ => none
  | k + 1, z5 =>
    bif (decide (z5 < (lenI a0))) then (
    (getO a0 z5).bind fun x7 =>
    (getO a1 z5).bind fun x8 =>
    (laws_eqCond.f x7 x8).bind fun r9 =>
    bif (bo3 r9 false true) then (
    some false)
    else (
    laws_eqCondS.l0 a0 a1 k (w64 (z5 + 1))))
    else (
    some true)
def laws_eqCondS.f (a0 : List Cond) (a1 : List Cond) : Option Bool :=
  bif (decide ((lenI a0) ≠ (lenI a1))) then (
  some false)
  else (
  laws_eqCondS.l0 a0 a1 (((lenI a0) - 0).toNat + 1) 0)

def laws_eqQuery.f (a0 : Query) (a1 : Query) : Option Bool :=
  bif (decide (a0.Table ≠ a1.Table)) then (
  some false)
  else (
  (laws_eqCondS.f a0.Where a1.Where).bind fun r2 =>
  bif (bo3 r2 false true) then (
  some false)
  else (
  bif (decide (a0.Order ≠ a1.Order)) then (
  some false)
  else (
  bif (bo3 a0.Down (bo3 a1.Down false true) a1.Down) then (
  some false)
  else (
  bif (decide (a0.First ≠ a1.First)) then (
  some false)
  else (
  (laws_eqIntS.f a0.Show a1.Show).bind fun r7 =>
  bif (bo3 r7 false true) then (
  some false)
  else (
  bif (bo3 a0.Kids (bo3 a1.Kids false true) a1.Kids) then (
  some false)
  else (
  bif (decide (a0.KidTable ≠ a1.KidTable)) then (
  some false)
  else (
  bif (decide (a0.KidCol ≠ a1.KidCol)) then (
  some false)
  else (
  some true)))))))))

def laws_eqView.f (a0 : View) (a1 : View) : Option Bool :=
  (laws_eqQuery.f a0.Q a1.Q).bind fun r1 =>
  bif (bo3 r1 false true) then (
  some false)
  else (
  (laws_eqRowS.f a0.Rows a1.Rows).bind fun r3 =>
  bif (bo3 r3 false true) then (
  some false)
  else (
  (laws_eqKidS.f a0.Kids a1.Kids).bind fun r5 =>
  bif (bo3 r5 false true) then (
  some false)
  else (
  some true)))

def laws_szChange.f (a0 : Change) (a1 : Int) : Option Int :=
  (laws_szRow.f a0.Old a1).bind fun r1 =>
  bif (decide (r1 < 0)) then (
  some (-1))
  else (
  (laws_szRow.f a0.New r1).bind fun r3 =>
  bif (decide (r3 < 0)) then (
  some (-1))
  else (
  some r3))

def laws_szChangeS.l0 (a0 : List Change) : Nat → Int → Int → Option Int
  | 0, _, _ => none
  | k + 1, z5, z6 =>
    bif (decide (z6 < (lenI a0))) then (
    (getO a0 z6).bind fun x8 =>
    (laws_szChange.f x8 z5).bind fun r9 =>
    bif (decide (r9 < 0)) then (
    some (-1))
    else (
    laws_szChangeS.l0 a0 k r9 (w64 (z6 + 1))))
    else (
    some z5)
def laws_szChangeS.f (a0 : List Change) (a1 : Int) : Option Int :=
  bif (decide ((w64 (a1 - (lenI a0))) < 0)) then (
  some (-1))
  else (
  laws_szChangeS.l0 a0 (((lenI a0) - 0).toNat + 1) (w64 (a1 - (lenI a0))) 0)

def laws_toChange.f (a0 : Change) : Option Change :=
  (laws_toRow.f a0.Old).bind fun r1 =>
  (laws_toRow.f a0.New).bind fun r2 =>
  some (Change.mk a0.Table a0.Had a0.Has r1 r2)

def laws_toChangeS.l0 (a0 : List Change) : Nat → (List Change) → Int → Option ((List Change))
  | 0, _, _ => none
  | k + 1, z5, z6 =>
    bif (decide (z6 < (lenI a0))) then (
    (getO a0 z6).bind fun x8 =>
    (laws_toChange.f x8).bind fun r9 =>
    (getO z5 z6).bind fun x10 =>
    (some (setI z5 z6 r9)).bind fun l11 =>
    laws_toChangeS.l0 a0 k l11 (w64 (z6 + 1)))
    else (
    some z5)
def laws_toChangeS.f (a0 : List Change) : Option ((List Change)) :=
  (mkO 80 (lenI a0) (Change.mk 0 false false (Row.mk 0 []) (Row.mk 0 []))).bind fun l1 =>
  laws_toChangeS.l0 a0 (((lenI a0) - 0).toNat + 1) l1 0

def laws_eqChange.f (a0 : Change) (a1 : Change) : Option Bool :=
  bif (decide (a0.Table ≠ a1.Table)) then (
  some false)
  else (
  bif (bo3 a0.Had (bo3 a1.Had false true) a1.Had) then (
  some false)
  else (
  bif (bo3 a0.Has (bo3 a1.Has false true) a1.Has) then (
  some false)
  else (
  (laws_eqRow.f a0.Old a1.Old).bind fun r4 =>
  bif (bo3 r4 false true) then (
  some false)
  else (
  (laws_eqRow.f a0.New a1.New).bind fun r6 =>
  bif (bo3 r6 false true) then (
  some false)
  else (
  some true)))))

def laws_eqChangeS.l0 (a0 : List Change) (a1 : List Change) : Nat → Int → Option Bool
  | 0, _ => none
  | k + 1, z5 =>
    bif (decide (z5 < (lenI a0))) then (
    (getO a0 z5).bind fun x7 =>
    (getO a1 z5).bind fun x8 =>
    (laws_eqChange.f x7 x8).bind fun r9 =>
    bif (bo3 r9 false true) then (
    some false)
    else (
    laws_eqChangeS.l0 a0 a1 k (w64 (z5 + 1))))
    else (
    some true)
def laws_eqChangeS.f (a0 : List Change) (a1 : List Change) : Option Bool :=
  bif (decide ((lenI a0) ≠ (lenI a1))) then (
  some false)
  else (
  laws_eqChangeS.l0 a0 a1 (((lenI a0) - 0).toNat + 1) 0)

def laws_markIntS.l0  : Nat → (List Int) → Int → Int → Option ((List Int) × Int)
  | 0, _, _, _ => none
  | k + 1, z4, z5, z6 =>
    bif (decide (z6 < (lenI z4))) then (
    (getO z4 z6).bind fun x8 =>
    (some (setI z4 z6 z5)).bind fun l9 =>
    laws_markIntS.l0 k l9 (w64 (z5 + 1)) (w64 (z6 + 1)))
    else (
    some (z4, z5))
def laws_markIntS.f (a0 : List Int) (a1 : Int) : Option ((List Int) × Int) :=
  laws_markIntS.l0 (((lenI a0) - 0).toNat + 1) a0 a1 0

def laws_markChangeS.l0  : Nat → (List Change) → Int → Int → Option ((List Change) × Int)
  | 0, _, _, _ => none
  | k + 1, z4, z5, z6 =>
    bif (decide (z6 < (lenI z4))) then (
    (getO z4 z6).bind fun x8 =>
    (some (setI z4 z6 (Change.mk z5 x8.Had x8.Has x8.Old x8.New))).bind fun l9 =>
    (getO l9 z6).bind fun x10 =>
    (some (setI l9 z6 (Change.mk x10.Table (decide ((Int.tmod (w64 (z5 + 1)) 3) = 0)) x10.Has x10.Old x10.New))).bind fun l11 =>
    (getO l11 z6).bind fun x12 =>
    (some (setI l11 z6 (Change.mk x12.Table x12.Had (decide ((Int.tmod (w64 ((w64 (z5 + 1)) + 1)) 3) = 0)) x12.Old x12.New))).bind fun l13 =>
    (getO l13 z6).bind fun x14 =>
    (some (setI l13 z6 (Change.mk x14.Table x14.Had x14.Has (Row.mk (w64 ((w64 ((w64 (z5 + 1)) + 1)) + 1)) x14.Old.Cells) x14.New))).bind fun l15 =>
    (getO l15 z6).bind fun x16 =>
    (laws_markIntS.f x16.Old.Cells (w64 ((w64 ((w64 ((w64 (z5 + 1)) + 1)) + 1)) + 1))).bind fun r17 =>
    (some (setI l15 z6 (Change.mk x16.Table x16.Had x16.Has (Row.mk x16.Old.Id r17.1) x16.New))).bind fun l18 =>
    (getO l18 z6).bind fun x19 =>
    (some (setI l18 z6 (Change.mk x19.Table x19.Had x19.Has x19.Old (Row.mk r17.2 x19.New.Cells)))).bind fun l20 =>
    (getO l20 z6).bind fun x21 =>
    (laws_markIntS.f x21.New.Cells (w64 (r17.2 + 1))).bind fun r22 =>
    (some (setI l20 z6 (Change.mk x21.Table x21.Had x21.Has x21.Old (Row.mk x21.New.Id r22.1)))).bind fun l23 =>
    laws_markChangeS.l0 k l23 r22.2 (w64 (z6 + 1)))
    else (
    some (z4, z5))
def laws_markChangeS.f (a0 : List Change) (a1 : Int) : Option ((List Change) × Int) :=
  laws_markChangeS.l0 (((lenI a0) - 0).toNat + 1) a0 a1 0

def laws_markCondS.l0  : Nat → (List Cond) → Int → Int → Option ((List Cond) × Int)
  | 0, _, _, _ => none
  | k + 1, z4, z5, z6 =>
    bif (decide (z6 < (lenI z4))) then (
    (getO z4 z6).bind fun x8 =>
    (some (setI z4 z6 (Cond.mk z5 x8.Op x8.V))).bind fun l9 =>
    (getO l9 z6).bind fun x10 =>
    (some (setI l9 z6 (Cond.mk x10.Col (w64 (z5 + 1)) x10.V))).bind fun l11 =>
    (getO l11 z6).bind fun x12 =>
    (some (setI l11 z6 (Cond.mk x12.Col x12.Op (w64 ((w64 (z5 + 1)) + 1))))).bind fun l13 =>
    laws_markCondS.l0 k l13 (w64 ((w64 ((w64 (z5 + 1)) + 1)) + 1)) (w64 (z6 + 1)))
    else (
    some (z4, z5))
def laws_markCondS.f (a0 : List Cond) (a1 : Int) : Option ((List Cond) × Int) :=
  laws_markCondS.l0 (((lenI a0) - 0).toNat + 1) a0 a1 0

def laws_markQuery.f (a0 : Query) (a1 : Int) : Option (Query × Int) :=
  (laws_markCondS.f a0.Where a1).bind fun r1 =>
  (laws_markIntS.f a0.Show r1.2).bind fun r2 =>
  some ((Query.mk a0.Table r1.1 a0.Order a0.Down a0.First r2.1 a0.Kids a0.KidTable a0.KidCol), r2.2)

def laws_markRowS.l0  : Nat → (List Row) → Int → Int → Option ((List Row) × Int)
  | 0, _, _, _ => none
  | k + 1, z4, z5, z6 =>
    bif (decide (z6 < (lenI z4))) then (
    (getO z4 z6).bind fun x8 =>
    (some (setI z4 z6 (Row.mk z5 x8.Cells))).bind fun l9 =>
    (getO l9 z6).bind fun x10 =>
    (laws_markIntS.f x10.Cells (w64 (z5 + 1))).bind fun r11 =>
    (some (setI l9 z6 (Row.mk x10.Id r11.1))).bind fun l12 =>
    laws_markRowS.l0 k l12 r11.2 (w64 (z6 + 1)))
    else (
    some (z4, z5))
def laws_markRowS.f (a0 : List Row) (a1 : Int) : Option ((List Row) × Int) :=
  laws_markRowS.l0 (((lenI a0) - 0).toNat + 1) a0 a1 0

def laws_markKidS.l0  : Nat → (List Kid) → Int → Int → Option ((List Kid) × Int)
  | 0, _, _, _ => none
  | k + 1, z4, z5, z6 =>
    bif (decide (z6 < (lenI z4))) then (
    (getO z4 z6).bind fun x8 =>
    (some (setI z4 z6 (Kid.mk z5 x8.N))).bind fun l9 =>
    (getO l9 z6).bind fun x10 =>
    (some (setI l9 z6 (Kid.mk x10.Id (w64 (z5 + 1))))).bind fun l11 =>
    laws_markKidS.l0 k l11 (w64 ((w64 (z5 + 1)) + 1)) (w64 (z6 + 1)))
    else (
    some (z4, z5))
def laws_markKidS.f (a0 : List Kid) (a1 : Int) : Option ((List Kid) × Int) :=
  laws_markKidS.l0 (((lenI a0) - 0).toNat + 1) a0 a1 0

def laws_markView.f (a0 : View) (a1 : Int) : Option (View × Int) :=
  (laws_markQuery.f a0.Q a1).bind fun r1 =>
  (laws_markRowS.f a0.Rows r1.2).bind fun r2 =>
  (laws_markKidS.f a0.Kids r2.2).bind fun r3 =>
  some ((View.mk (Query.mk a0.Q.Table r1.1.Where a0.Q.Order a0.Q.Down a0.Q.First r1.1.Show a0.Q.Kids a0.Q.KidTable a0.Q.KidCol) r2.1 r3.1), r3.2)

def laws_heldCondS.l0 (a0 : List Cond) : Nat → Int → Int → Option Int
  | 0, _, _ => none
  | k + 1, z4, z5 =>
    bif (decide (z5 < (lenI a0))) then (
    (getO a0 z5).bind fun x7 =>
    bif (decide (x7.Col ≠ z4)) then (
    some (-1))
    else (
    bif (decide (x7.Op ≠ (w64 (z4 + 1)))) then (
    some (-1))
    else (
    bif (decide (x7.V ≠ (w64 ((w64 (z4 + 1)) + 1)))) then (
    some (-1))
    else (
    laws_heldCondS.l0 a0 k (w64 ((w64 ((w64 (z4 + 1)) + 1)) + 1)) (w64 (z5 + 1))))))
    else (
    some z4)
def laws_heldCondS.f (a0 : List Cond) (a1 : Int) : Option Int :=
  laws_heldCondS.l0 a0 (((lenI a0) - 0).toNat + 1) a1 0

def laws_heldIntS.l0 (a0 : List Int) : Nat → Int → Int → Option Int
  | 0, _, _ => none
  | k + 1, z4, z5 =>
    bif (decide (z5 < (lenI a0))) then (
    (getO a0 z5).bind fun x7 =>
    bif (decide (x7 ≠ z4)) then (
    some (-1))
    else (
    laws_heldIntS.l0 a0 k (w64 (z4 + 1)) (w64 (z5 + 1))))
    else (
    some z4)
def laws_heldIntS.f (a0 : List Int) (a1 : Int) : Option Int :=
  laws_heldIntS.l0 a0 (((lenI a0) - 0).toNat + 1) a1 0

def laws_heldQuery.f (a0 : Query) (a1 : Int) : Option Int :=
  (laws_heldCondS.f a0.Where a1).bind fun r1 =>
  bif (decide (r1 < 0)) then (
  some (-1))
  else (
  (laws_heldIntS.f a0.Show r1).bind fun r3 =>
  bif (decide (r3 < 0)) then (
  some (-1))
  else (
  some r3))

def laws_heldRowS.l0 (a0 : List Row) : Nat → Int → Int → Option Int
  | 0, _, _ => none
  | k + 1, z4, z5 =>
    bif (decide (z5 < (lenI a0))) then (
    (getO a0 z5).bind fun x7 =>
    bif (decide (x7.Id ≠ z4)) then (
    some (-1))
    else (
    (laws_heldIntS.f x7.Cells (w64 (z4 + 1))).bind fun r9 =>
    bif (decide (r9 < 0)) then (
    some (-1))
    else (
    laws_heldRowS.l0 a0 k r9 (w64 (z5 + 1)))))
    else (
    some z4)
def laws_heldRowS.f (a0 : List Row) (a1 : Int) : Option Int :=
  laws_heldRowS.l0 a0 (((lenI a0) - 0).toNat + 1) a1 0

def laws_heldKidS.l0 (a0 : List Kid) : Nat → Int → Int → Option Int
  | 0, _, _ => none
  | k + 1, z4, z5 =>
    bif (decide (z5 < (lenI a0))) then (
    (getO a0 z5).bind fun x7 =>
    bif (decide (x7.Id ≠ z4)) then (
    some (-1))
    else (
    bif (decide (x7.N ≠ (w64 (z4 + 1)))) then (
    some (-1))
    else (
    laws_heldKidS.l0 a0 k (w64 ((w64 (z4 + 1)) + 1)) (w64 (z5 + 1)))))
    else (
    some z4)
def laws_heldKidS.f (a0 : List Kid) (a1 : Int) : Option Int :=
  laws_heldKidS.l0 a0 (((lenI a0) - 0).toNat + 1) a1 0

def laws_heldView.f (a0 : View) (a1 : Int) : Option Int :=
  (laws_heldQuery.f a0.Q a1).bind fun r1 =>
  bif (decide (r1 < 0)) then (
  some (-1))
  else (
  (laws_heldRowS.f a0.Rows r1).bind fun r3 =>
  bif (decide (r3 < 0)) then (
  some (-1))
  else (
  (laws_heldKidS.f a0.Kids r3).bind fun r5 =>
  bif (decide (r5 < 0)) then (
  some (-1))
  else (
  some r5)))

def spec_l6Copy.f (a0 : Row) : Option Row :=
  (appO 8 [] a0.Cells).bind fun l1 =>
  some (Row.mk a0.Id l1)

def spec_l6Rows.l0 (a0 : List Row) : Nat → (List Row) → Int → Option ((List Row))
  | 0, _, _ => none
  | k + 1, z4, z5 =>
    bif (decide (z5 < (lenI a0))) then (
    (getO a0 z5).bind fun x7 =>
    (spec_l6Copy.f x7).bind fun r8 =>
    (some [r8]).bind fun l9 =>
    (appO 32 z4 l9).bind fun l10 =>
    spec_l6Rows.l0 a0 k l10 (w64 (z5 + 1)))
    else (
    some z4)
def spec_l6Rows.f (a0 : List Row) : Option ((List Row)) :=
  spec_l6Rows.l0 a0 (((lenI a0) - 0).toNat + 1) [] 0

def spec_l9Copy.f (a0 : Query) : Option Query :=
  (appO 24 [] a0.Where).bind fun l1 =>
  (appO 8 [] a0.Show).bind fun l2 =>
  some (Query.mk a0.Table l1 a0.Order a0.Down a0.First l2 a0.Kids a0.KidTable a0.KidCol)

def spec_l13Copy.f (a0 : View) : Option View :=
  (spec_l9Copy.f a0.Q).bind fun r1 =>
  (spec_l6Rows.f a0.Rows).bind fun r2 =>
  (appO 16 [] a0.Kids).bind fun l3 =>
  some (View.mk r1 r2 l3)

def spec_l1In.f (a0 : Int) (a1 : Int) (a2 : Int) : Option Bool :=
  some (bo3 (decide (a1 ≤ a0)) (decide (a0 ≤ a2)) false)

def spec_l9Holds.f (a0 : Cond) (a1 : Row) : Option Bool :=
  (spec_l1In.f a0.Col 0 (w64 ((lenI a1.Cells) - 1))).bind fun r1 =>
  bif (bo3 r1 false true) then (
  some false)
  else (
  (getO a1.Cells a0.Col).bind fun x3 =>
  bif (decide (a0.Op = 1)) then (
  some (decide (x3 = a0.V)))
  else (
  bif (decide (a0.Op = 2)) then (
  some (decide (x3 < a0.V)))
  else (
  bif (decide (a0.Op = 3)) then (
  some (decide (a0.V < x3)))
  else (
  bif (decide (a0.Op = 4)) then (
  some (decide (x3 ≠ a0.V)))
  else (
  some false)))))

def spec_Matches.l0 (a0 : Query) (a1 : Row) : Nat → Int → Option Bool
  | 0, _ => none
  | k + 1, z13 =>
    bif (decide (z13 < (lenI a0.Where))) then (
    (getO a0.Where z13).bind fun x15 =>
    (spec_l9Holds.f x15 a1).bind fun r16 =>
    bif (bo3 r16 false true) then (
    some false)
    else (
    spec_Matches.l0 a0 a1 k (w64 (z13 + 1))))
    else (
    some true)
def spec_Matches.f (a0 : Query) (a1 : Row) : Option Bool :=
  spec_Matches.l0 a0 a1 (((lenI a0.Where) - 0).toNat + 1) 0

def spec_RowAt.l0 (a0 : List Row) (a1 : Int) : Nat → Int → Option Int
  | 0, _ => none
  | k + 1, z4 =>
    bif (decide (z4 < (lenI a0))) then (
    (getO a0 z4).bind fun x6 =>
    bif (decide (x6.Id = a1)) then (
    some z4)
    else (
    spec_RowAt.l0 a0 a1 k (w64 (z4 + 1))))
    else (
    some (-1))
def spec_RowAt.f (a0 : List Row) (a1 : Int) : Option Int :=
  spec_RowAt.l0 a0 a1 (((lenI a0) - 0).toNat + 1) 0

def spec_RowDrop.l0 (a0 : List Row) (r1 : Int) : Nat → (List Row) → Int → Option ((List Row))
  | 0, _, _ => none
  | k + 1, z6, z7 =>
    bif (decide (z7 < (lenI a0))) then (
    bif (decide (z7 ≠ r1)) then (
    (getO a0 z7).bind fun x10 =>
    (spec_l6Copy.f x10).bind fun r11 =>
    (some [r11]).bind fun l12 =>
    (appO 32 z6 l12).bind fun l13 =>
    spec_RowDrop.l0 a0 r1 k l13 (w64 (z7 + 1)))
    else (
    spec_RowDrop.l0 a0 r1 k z6 (w64 (z7 + 1))))
    else (
    some z6)
def spec_RowDrop.f (a0 : List Row) (a1 : Int) : Option ((List Row)) :=
  (spec_RowAt.f a0 a1).bind fun r1 =>
  spec_RowDrop.l0 a0 r1 (((lenI a0) - 0).toNat + 1) [] 0

def spec_l9Cell.f (a0 : Row) (a1 : Int) : Option Int :=
  (spec_l1In.f a1 0 (w64 ((lenI a0.Cells) - 1))).bind fun r1 =>
  bif (bo3 r1 false true) then (
  some 0)
  else (
  (getO a0.Cells a1).bind fun x3 =>
  some x3)

def spec_Ahead.f (a0 : Query) (a1 : Row) (a2 : Row) : Option Bool :=
  bif (decide (a0.Order ≠ 0)) then (
  (spec_l9Cell.f a1 (w64 (a0.Order - 1))).bind fun r2 =>
  (spec_l9Cell.f a2 (w64 (a0.Order - 1))).bind fun r3 =>
  bif (decide (r2 ≠ r3)) then (
  some (bo3 (decide (r2 < r3)) (bo3 a0.Down false true) a0.Down))
  else (
  some (decide (a1.Id < a2.Id))))
  else (
  some (decide (a1.Id < a2.Id)))

def spec_l11Put.l0 (a0 : Query) (a1 : List Row) (a2 : Row) (K4 : (List Row) → Bool → Int → Option ((List Row))) : Nat → (List Row) → Bool → Int → Option ((List Row))
  | 0, _, _, _ => none
  | k + 1, z20, z21, z22 =>
    bif (decide (z22 < (lenI a1))) then (
    (gd (bo3 z21 false true) (getO a1 z22)).bind fun x24 =>
    (gd (bo3 z21 false true) (spec_Ahead.f a0 a2 x24)).bind fun r25 =>
    bif (bo3 (bo3 z21 false true) r25 false) then (
    (spec_l6Copy.f a2).bind fun r36 =>
    (some [r36]).bind fun l37 =>
    (appO 32 z20 l37).bind fun l38 =>
    (getO a1 z22).bind fun x39 =>
    (ltO z22).bind fun u40 =>
    (some [x39]).bind fun l41 =>
    (appO 32 l38 l41).bind fun l42 =>
    spec_l11Put.l0 a0 a1 a2 K4 k l42 true (w64 (z22 + 1)))
    else (
    (getO a1 z22).bind fun x43 =>
    (ltO z22).bind fun u44 =>
    (some [x43]).bind fun l45 =>
    (appO 32 z20 l45).bind fun l46 =>
    spec_l11Put.l0 a0 a1 a2 K4 k l46 z21 (w64 (z22 + 1))))
    else (
    K4 z20 z21 z22)
def spec_l11Put.f (a0 : Query) (a1 : List Row) (a2 : Row) : Option ((List Row)) :=
  joinK (fun (y1 : List Row) (y2 : Bool) (y3 : Int) =>
  bif (bo3 y2 false true) then (
  (spec_l6Copy.f a2).bind fun r48 =>
  (some [r48]).bind fun l49 =>
  (appO 32 y1 l49).bind fun l50 =>
  some l50)
  else (
  some y1)) (fun K4 =>
  spec_l11Put.l0 a0 a1 a2 K4 (((lenI a1) - 0).toNat + 1) [] false 0)

def spec_KidPut.l0 (a0 : List Kid) (a1 : Int) (a2 : Int) (K3 : (List Kid) → Bool → Option ((List Kid))) : Nat → (List Kid) → Bool → Int → Option ((List Kid))
  | 0, _, _, _ => none
  | k + 1, z10, z11, z12 =>
    bif (decide (z12 < (lenI a0))) then (
    (getO a0 z12).bind fun x14 =>
    bif (bo3 (bo3 z11 false true) (decide (a1 ≤ x14.Id)) false) then (
    joinK (fun (y22 : Int) =>
    joinK (fun (y25 : List Kid) =>
    bif (decide (x14.Id = a1)) then (
    spec_KidPut.l0 a0 a1 a2 K3 k y25 true (w64 (z12 + 1)))
    else (
    (some [x14]).bind fun l31 =>
    (appO 16 y25 l31).bind fun l32 =>
    spec_KidPut.l0 a0 a1 a2 K3 k l32 true (w64 (z12 + 1)))) (fun K26 =>
    bif (decide (0 < y22)) then (
    (some [(Kid.mk a1 y22)]).bind fun l28 =>
    (appO 16 z10 l28).bind fun l29 =>
    K26 l29)
    else (
    K26 z10))) (fun K23 =>
    bif (decide (x14.Id = a1)) then (
    K23 (w64 (x14.N + a2)))
    else (
    K23 a2)))
    else (
    (some [x14]).bind fun l33 =>
    (appO 16 z10 l33).bind fun l34 =>
    spec_KidPut.l0 a0 a1 a2 K3 k l34 z11 (w64 (z12 + 1))))
    else (
    K3 z10 z11)
def spec_KidPut.f (a0 : List Kid) (a1 : Int) (a2 : Int) : Option ((List Kid)) :=
  joinK (fun (y1 : List Kid) (y2 : Bool) =>
  bif (bo3 (bo3 y2 false true) (decide (0 < a2)) false) then (
  (some [(Kid.mk a1 a2)]).bind fun l40 =>
  (appO 16 y1 l40).bind fun l41 =>
  some l41)
  else (
  some y1)) (fun K3 =>
  spec_KidPut.l0 a0 a1 a2 K3 (((lenI a0) - 0).toNat + 1) [] false 0)

def spec_ViewChange.f (a0 : View) (a1 : Change) : Option View :=
  (spec_l13Copy.f a0).bind fun r1 =>
  joinK (fun (y2 : List Row) =>
  bif (bo3 a0.Q.Kids (decide (a1.Table = a0.Q.KidTable)) false) then (
  joinK (fun (y28 : List Kid) =>
  bif a1.Has then (
  (spec_l9Cell.f a1.New a0.Q.KidCol).bind fun r34 =>
  (spec_KidPut.f y28 r34 1).bind fun r35 =>
  some (View.mk r1.Q y2 r35))
  else (
  some (View.mk r1.Q y2 y28))) (fun K29 =>
  bif a1.Had then (
  (spec_l9Cell.f a1.Old a0.Q.KidCol).bind fun r31 =>
  (spec_KidPut.f r1.Kids r31 (-1)).bind fun r32 =>
  K29 r32)
  else (
  K29 r1.Kids)))
  else (
  some (View.mk r1.Q y2 r1.Kids))) (fun K3 =>
  bif (decide (a1.Table = a0.Q.Table)) then (
  joinK (fun (y5 : List Row) =>
  (gd a1.Has (spec_Matches.f a0.Q a1.New)).bind fun r9 =>
  bif (bo3 a1.Has r9 false) then (
  (spec_l11Put.f a0.Q y5 a1.New).bind fun r18 =>
  K3 r18)
  else (
  K3 y5)) (fun K6 =>
  bif a1.Had then (
  (spec_RowDrop.f r1.Rows a1.Old.Id).bind fun r8 =>
  K6 r8)
  else (
  K6 r1.Rows)))
  else (
  K3 r1.Rows))

def spec_ViewChanges.l0 (a1 : List Change) : Nat → Int → (List Cond) → Int → Bool → Int → (List Int) → Bool → Int → Int → (List Row) → (List Kid) → Int → Option View
  | 0, _, _, _, _, _, _, _, _, _, _, _, _ => none
  | k + 1, z22, z23, z24, z25, z26, z27, z28, z29, z30, z31, z32, z33 =>
    bif (decide (z33 < (lenI a1))) then (
    (getO a1 z33).bind fun x35 =>
    (spec_ViewChange.f (View.mk (Query.mk z22 z23 z24 z25 z26 z27 z28 z29 z30) z31 z32) x35).bind fun r36 =>
    spec_ViewChanges.l0 a1 k r36.Q.Table r36.Q.Where r36.Q.Order r36.Q.Down r36.Q.First r36.Q.Show r36.Q.Kids r36.Q.KidTable r36.Q.KidCol r36.Rows r36.Kids (w64 (z33 + 1)))
    else (
    some (View.mk (Query.mk z22 z23 z24 z25 z26 z27 z28 z29 z30) z31 z32))
def spec_ViewChanges.f (a0 : View) (a1 : List Change) : Option View :=
  (spec_l13Copy.f a0).bind fun r1 =>
  spec_ViewChanges.l0 a1 (((lenI a1) - 0).toNat + 1) r1.Q.Table r1.Q.Where r1.Q.Order r1.Q.Down r1.Q.First r1.Q.Show r1.Q.Kids r1.Q.KidTable r1.Q.KidCol r1.Rows r1.Kids 0

def impl_copyInts.f (a0 : List Int) : Option ((List Int)) :=
  (appO 8 [] a0).bind fun l1 =>
  some l1

def impl_copyRow.f (a0 : Row) : Option Row :=
  (impl_copyInts.f a0.Cells).bind fun r1 =>
  some (Row.mk a0.Id r1)

def impl_copyRows.l0 (a0 : List Row) : Nat → (List Row) → Int → Option ((List Row))
  | 0, _, _ => none
  | k + 1, z5, z6 =>
    bif (decide (z6 < (lenI a0))) then (
    (getO a0 z6).bind fun x8 =>
    (impl_copyRow.f x8).bind fun r9 =>
    (some [r9]).bind fun l10 =>
    (appO 32 z5 l10).bind fun l11 =>
    impl_copyRows.l0 a0 k l11 (w64 (z6 + 1)))
    else (
    some z5)
def impl_copyRows.f (a0 : List Row) : Option ((List Row)) :=
  impl_copyRows.l0 a0 (((lenI a0) - 0).toNat + 1) [] 0

def impl_copyQuery.f (a0 : Query) : Option Query :=
  (appO 24 [] a0.Where).bind fun l1 =>
  (impl_copyInts.f a0.Show).bind fun r2 =>
  some (Query.mk a0.Table l1 a0.Order a0.Down a0.First r2 a0.Kids a0.KidTable a0.KidCol)

def impl_copyView.f (a0 : View) : Option View :=
  (impl_copyQuery.f a0.Q).bind fun r1 =>
  (impl_copyRows.f a0.Rows).bind fun r2 =>
  (appO 16 [] a0.Kids).bind fun l3 =>
  some (View.mk r1 r2 l3)

def impl_within.f (a0 : Int) (a1 : Int) (a2 : Int) : Option Bool :=
  some (bo3 (decide (a1 ≤ a0)) (decide (a0 ≤ a2)) false)

def impl_holds.f (a0 : Cond) (a1 : Row) : Option Bool :=
  (impl_within.f a0.Col 0 (w64 ((lenI a1.Cells) - 1))).bind fun r1 =>
  bif (bo3 r1 false true) then (
  some false)
  else (
  (getO a1.Cells a0.Col).bind fun x3 =>
  bif (decide (a0.Op = 1)) then (
  some (decide (x3 = a0.V)))
  else (
  bif (decide (a0.Op = 2)) then (
  some (decide (x3 < a0.V)))
  else (
  bif (decide (a0.Op = 3)) then (
  some (decide (a0.V < x3)))
  else (
  some (bo3 (decide (a0.Op = 4)) (decide (x3 ≠ a0.V)) false)))))

def impl_Matches.l0 (a0 : Query) (a1 : Row) : Nat → Int → Option Bool
  | 0, _ => none
  | k + 1, z6 =>
    bif (decide (z6 < (lenI a0.Where))) then (
    (getO a0.Where z6).bind fun x8 =>
    (impl_holds.f x8 a1).bind fun r9 =>
    bif (bo3 r9 false true) then (
    some false)
    else (
    impl_Matches.l0 a0 a1 k (w64 (z6 + 1))))
    else (
    some true)
def impl_Matches.f (a0 : Query) (a1 : Row) : Option Bool :=
  impl_Matches.l0 a0 a1 (((lenI a0.Where) - 0).toNat + 1) 0

def impl_RowAt_1.f (a0 : Row) (a1 : Int) : Option Bool :=
  some (decide (a0.Id = a1))

def slices_IndexFunc_impl_Row__impl_RowAt_1.l0 (a0 : List Row) (a1c0 : Int) : Nat → Int → Option Int
  | 0, _ => none
  | k + 1, z5 =>
    bif (decide (z5 < (lenI a0))) then (
    (getO a0 z5).bind fun x7 =>
    (impl_RowAt_1.f x7 a1c0).bind fun r8 =>
    bif r8 then (
    some z5)
    else (
    slices_IndexFunc_impl_Row__impl_RowAt_1.l0 a0 a1c0 k (w64 (z5 + 1))))
    else (
    some (-1))
def slices_IndexFunc_impl_Row__impl_RowAt_1.f (a0 : List Row) (a1c0 : Int) : Option Int :=
  slices_IndexFunc_impl_Row__impl_RowAt_1.l0 a0 a1c0 (((lenI a0) - 0).toNat + 1) 0

def impl_RowAt.f (a0 : List Row) (a1 : Int) : Option Int :=
  (slices_IndexFunc_impl_Row__impl_RowAt_1.f a0 a1).bind fun r1 =>
  some r1

def slices_Delete_impl_Row.f (a0 : List Row) (a1 : Int) (a2 : Int) : Option (List Row) := delO a0 a1 a2

def impl_RowDrop.f (a0 : List Row) (a1 : Int) : Option ((List Row)) :=
  (impl_copyRows.f a0).bind fun r1 =>
  (impl_RowAt.f a0 a1).bind fun r2 =>
  bif (decide (0 ≤ r2)) then (
  (slices_Delete_impl_Row.f r1 r2 (w64 (r2 + 1))).bind fun r4 =>
  some r4)
  else (
  some r1)

def impl_cellOf.f (a0 : Row) (a1 : Int) : Option Int :=
  (impl_within.f a1 0 (w64 ((lenI a0.Cells) - 1))).bind fun r1 =>
  bif (bo3 r1 false true) then (
  some 0)
  else (
  (getO a0.Cells a1).bind fun x3 =>
  some x3)

def impl_Ahead.f (a0 : Query) (a1 : Row) (a2 : Row) : Option Bool :=
  bif (decide (a0.Order = 0)) then (
  some (decide (a1.Id < a2.Id)))
  else (
  (impl_cellOf.f a1 (w64 (a0.Order - 1))).bind fun r2 =>
  (impl_cellOf.f a2 (w64 (a0.Order - 1))).bind fun r3 =>
  bif (decide (r2 = r3)) then (
  some (decide (a1.Id < a2.Id)))
  else (
  bif a0.Down then (
  some (decide (r3 < r2)))
  else (
  some (decide (r2 < r3)))))

def impl_rowPut_1.f (a0 : Row) (a1 : Query) (a2 : Row) : Option Bool :=
  (impl_Ahead.f a1 a2 a0).bind fun r1 =>
  some r1

def slices_IndexFunc_impl_Row__impl_rowPut_1.l0 (a0 : List Row) (a1c0 : Query) (a1c1 : Row) : Nat → Int → Option Int
  | 0, _ => none
  | k + 1, z15 =>
    bif (decide (z15 < (lenI a0))) then (
    (getO a0 z15).bind fun x17 =>
    (impl_rowPut_1.f x17 a1c0 a1c1).bind fun r18 =>
    bif r18 then (
    some z15)
    else (
    slices_IndexFunc_impl_Row__impl_rowPut_1.l0 a0 a1c0 a1c1 k (w64 (z15 + 1))))
    else (
    some (-1))
def slices_IndexFunc_impl_Row__impl_rowPut_1.f (a0 : List Row) (a1c0 : Query) (a1c1 : Row) : Option Int :=
  slices_IndexFunc_impl_Row__impl_rowPut_1.l0 a0 a1c0 a1c1 (((lenI a0) - 0).toNat + 1) 0

def slices_Insert_impl_Row.f (a0 : List Row) (a1 : Int) (a2 : List Row) : Option (List Row) := insO 32 a0 a1 a2

def impl_rowPut.f (a0 : Query) (a1 : List Row) (a2 : Row) : Option ((List Row)) :=
  (slices_IndexFunc_impl_Row__impl_rowPut_1.f a1 a0 a2).bind fun r1 =>
  joinK (fun (y2 : Int) =>
  (impl_copyRows.f a1).bind fun r5 =>
  (impl_copyRow.f a2).bind fun r6 =>
  (some [r6]).bind fun l7 =>
  (slices_Insert_impl_Row.f r5 y2 l7).bind fun r8 =>
  some r8) (fun K3 =>
  bif (decide (r1 < 0)) then (
  K3 (lenI a1))
  else (
  K3 r1))

def slices_Insert_impl_Kid.f (a0 : List Kid) (a1 : Int) (a2 : List Kid) : Option (List Kid) := insO 16 a0 a1 a2

def slices_Delete_impl_Kid.f (a0 : List Kid) (a1 : Int) (a2 : Int) : Option (List Kid) := delO a0 a1 a2

def impl_KidPut.l0 (a1 : Int) (l1 : List Kid) (K3 : Int → Option ((List Kid))) : Nat → Int → Option ((List Kid))
  | 0, _ => none
  | k + 1, z8 =>
    (gd (decide (z8 < (lenI l1))) (getO l1 z8)).bind fun x9 =>
    bif (bo3 (decide (z8 < (lenI l1))) (decide (x9.Id < a1)) false) then (
    impl_KidPut.l0 a1 l1 K3 k (w64 (z8 + 1)))
    else (
    K3 z8)
def impl_KidPut.f (a0 : List Kid) (a1 : Int) (a2 : Int) : Option ((List Kid)) :=
  (appO 16 [] a0).bind fun l1 =>
  joinK (fun (y2 : Int) =>
  (gd (bo3 (decide (y2 = (lenI l1))) false true) (getO l1 y2)).bind fun x20 =>
  bif (bo3 (decide (y2 = (lenI l1))) true (decide (x20.Id ≠ a1))) then (
  bif (decide (a2 ≤ 0)) then (
  some l1)
  else (
  (some [(Kid.mk a1 a2)]).bind fun l32 =>
  (slices_Insert_impl_Kid.f l1 y2 l32).bind fun r33 =>
  some r33))
  else (
  (getO l1 y2).bind fun x34 =>
  (some (setI l1 y2 (Kid.mk x34.Id (w64 (x34.N + a2))))).bind fun l35 =>
  (getO l35 y2).bind fun x36 =>
  bif (decide (x36.N ≤ 0)) then (
  (slices_Delete_impl_Kid.f l35 y2 (w64 (y2 + 1))).bind fun r38 =>
  some r38)
  else (
  some l35))) (fun K3 =>
  impl_KidPut.l0 a1 l1 K3 (((lenI l1) - 0).toNat + 1) 0)

def impl_ViewChange.f (a0 : View) (a1 : Change) : Option View :=
  (impl_copyView.f a0).bind fun r1 =>
  joinK (fun (y2 : List Row) =>
  bif (bo3 a0.Q.Kids (decide (a1.Table = a0.Q.KidTable)) false) then (
  joinK (fun (y28 : List Kid) =>
  bif a1.Has then (
  (impl_cellOf.f a1.New a0.Q.KidCol).bind fun r34 =>
  (impl_KidPut.f y28 r34 1).bind fun r35 =>
  some (View.mk r1.Q y2 r35))
  else (
  some (View.mk r1.Q y2 y28))) (fun K29 =>
  bif a1.Had then (
  (impl_cellOf.f a1.Old a0.Q.KidCol).bind fun r31 =>
  (impl_KidPut.f r1.Kids r31 (-1)).bind fun r32 =>
  K29 r32)
  else (
  K29 r1.Kids)))
  else (
  some (View.mk r1.Q y2 r1.Kids))) (fun K3 =>
  bif (decide (a1.Table = a0.Q.Table)) then (
  joinK (fun (y5 : List Row) =>
  (gd a1.Has (impl_Matches.f a0.Q a1.New)).bind fun r9 =>
  bif (bo3 a1.Has r9 false) then (
  (impl_rowPut.f a0.Q y5 a1.New).bind fun r18 =>
  K3 r18)
  else (
  K3 y5)) (fun K6 =>
  bif a1.Had then (
  (impl_RowDrop.f r1.Rows a1.Old.Id).bind fun r8 =>
  K6 r8)
  else (
  K6 r1.Rows)))
  else (
  K3 r1.Rows))

def impl_ViewChanges.l0 (a1 : List Change) : Nat → Int → (List Cond) → Int → Bool → Int → (List Int) → Bool → Int → Int → (List Row) → (List Kid) → Int → Option View
  | 0, _, _, _, _, _, _, _, _, _, _, _, _ => none
  | k + 1, z23, z24, z25, z26, z27, z28, z29, z30, z31, z32, z33, z34 =>
    bif (decide (z34 < (lenI a1))) then (
    (getO a1 z34).bind fun x36 =>
    (impl_ViewChange.f (View.mk (Query.mk z23 z24 z25 z26 z27 z28 z29 z30 z31) z32 z33) x36).bind fun r37 =>
    impl_ViewChanges.l0 a1 k r37.Q.Table r37.Q.Where r37.Q.Order r37.Q.Down r37.Q.First r37.Q.Show r37.Q.Kids r37.Q.KidTable r37.Q.KidCol r37.Rows r37.Kids (w64 (z34 + 1)))
    else (
    some (View.mk (Query.mk z23 z24 z25 z26 z27 z28 z29 z30 z31) z32 z33))
def impl_ViewChanges.f (a0 : View) (a1 : List Change) : Option View :=
  (impl_copyView.f a0).bind fun r1 =>
  impl_ViewChanges.l0 a1 (((lenI a1) - 0).toNat + 1) r1.Q.Table r1.Q.Where r1.Q.Order r1.Q.Down r1.Q.First r1.Q.Show r1.Q.Kids r1.Q.KidTable r1.Q.KidCol r1.Rows r1.Kids 0

def laws_FnExactViewChanges.f (a0 : View) (a1 : List Change) : Option Bool :=
  (laws_szView.f a0 1048576).bind fun r1 =>
  bif (decide (r1 < 0)) then (
  some true)
  else (
  (laws_szChangeS.f a1 r1).bind fun r3 =>
  bif (decide (r3 < 0)) then (
  some true)
  else (
  (laws_toView.f a0).bind fun r5 =>
  (laws_toChangeS.f a1).bind fun r6 =>
  (spec_ViewChanges.f r5 r6).bind fun r7 =>
  (laws_toView.f a0).bind fun r8 =>
  (laws_toChangeS.f a1).bind fun r9 =>
  (impl_ViewChanges.f r8 r9).bind fun r10 =>
  (laws_eqView.f r10 r7).bind fun r11 =>
  bif (bo3 r11 false true) then (
  some false)
  else (
  (laws_toView.f a0).bind fun r13 =>
  (laws_eqView.f r8 r13).bind fun r14 =>
  bif (bo3 r14 false true) then (
  some false)
  else (
  (laws_toChangeS.f a1).bind fun r16 =>
  (laws_eqChangeS.f r9 r16).bind fun r17 =>
  bif (bo3 r17 false true) then (
  some false)
  else (
  (laws_markView.f r8 1).bind fun r19 =>
  (laws_markChangeS.f r9 r19.2).bind fun r20 =>
  (gd (bo3 (decide (r20.2 < 0)) false true) (laws_eqView.f r10 r7)).bind fun r21 =>
  bif (bo3 (decide (r20.2 < 0)) true (bo3 r21 false true)) then (
  some false)
  else (
  (laws_markView.f r10 1).bind fun r29 =>
  (laws_heldView.f (View.mk (Query.mk r10.Q.Table r29.1.Q.Where r10.Q.Order r10.Q.Down r10.Q.First r29.1.Q.Show r10.Q.Kids r10.Q.KidTable r10.Q.KidCol) r29.1.Rows r29.1.Kids) 1).bind fun r30 =>
  bif (decide (r30 < 0)) then (
  some false)
  else (
  bif (decide (r30 ≠ r29.2)) then (
  some false)
  else (
  (laws_toView.f a0).bind fun r33 =>
  (laws_toChangeS.f a1).bind fun r34 =>
  (impl_ViewChanges.f r33 r34).bind fun r35 =>
  (laws_eqView.f r35 r7).bind fun r36 =>
  bif (bo3 r36 false true) then (
  some false)
  else (
  (laws_heldView.f (View.mk (Query.mk r10.Q.Table r29.1.Q.Where r10.Q.Order r10.Q.Down r10.Q.First r29.1.Q.Show r10.Q.Kids r10.Q.KidTable r10.Q.KidCol) r29.1.Rows r29.1.Kids) 1).bind fun r38 =>
  bif (decide (r38 < 0)) then (
  some false)
  else (
  bif (decide (r38 ≠ r29.2)) then (
  some false)
  else (
  some true)))))))))))

end Go.Proofs.Ytibmfkomdhnhbaa.L
