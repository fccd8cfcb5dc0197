/- The pure functions of the program. -/
import Derived.Test.YtplgbjbpimbcbaaSl30
namespace Go.Proofs.Ytplgbjbpimbcbaa.L
open Go
set_option linter.unusedVariables false
structure Cond where
  Col : Int
  Op : Int
  V : Int
  deriving Inhabited, DecidableEq
structure Query where
  Table : Int
  Where : List Cond
  Order : Int
  Down : Bool
  First : Int
  Show : List Int
  Kids : Bool
  KidTable : Int
  KidCol : Int
  deriving Inhabited, DecidableEq
structure Row where
  Id : Int
  Cells : List Int
  deriving Inhabited, DecidableEq
structure Kid where
  Id : Int
  N : Int
  deriving Inhabited, DecidableEq
structure View where
  Q : Query
  Rows : List Row
  Kids : List Kid
  deriving Inhabited, DecidableEq

def laws_szCondS.f (a0 : List Cond) (a1 : Int) : Option Int :=
  bif (decide ((w64 (a1 - (lenI a0))) < 0)) then (
  some (-1))
  else (
  some (w64 (a1 - (lenI a0))))

def laws_szIntS.f (a0 : List Int) (a1 : Int) : Option Int :=
  bif (decide ((w64 (a1 - (lenI a0))) < 0)) then (
  some (-1))
  else (
  some (w64 (a1 - (lenI a0))))

def laws_szQuery.f (a0 : Query) (a1 : Int) : Option Int :=
  (laws_szCondS.f a0.Where a1).bind fun r1 =>
  bif (decide (r1 < 0)) then (
  some (-1))
  else (
  (laws_szIntS.f a0.Show r1).bind fun r3 =>
  bif (decide (r3 < 0)) then (
  some (-1))
  else (
  some r3))

def laws_szKidS.f (a0 : List Kid) (a1 : Int) : Option Int :=
  bif (decide ((w64 (a1 - (lenI a0))) < 0)) then (
  some (-1))
  else (
  some (w64 (a1 - (lenI a0))))

def laws_szRow.f (a0 : Row) (a1 : Int) : Option Int :=
  (laws_szIntS.f a0.Cells a1).bind fun r1 =>
  bif (decide (r1 < 0)) then (
  some (-1))
  else (
  some r1)

def laws_szRowS.l0 (a0 : List Row) : Nat → Int → Int → Option Int
  | 0, _, _ => none
  | k + 1, z5, z6 =>
    bif (decide (z6 < (lenI a0))) then (
    (getO a0 z6).bind fun x8 =>
    (laws_szRow.f x8 z5).bind fun r9 =>
    bif (decide (r9 < 0)) then (
    some (-1))
    else (
    laws_szRowS.l0 a0 k r9 (w64 (z6 + 1))))
    else (
    some z5)
def laws_szRowS.f (a0 : List Row) (a1 : Int) : Option Int :=
  bif (decide ((w64 (a1 - (lenI a0))) < 0)) then (
  some (-1))
  else (
  laws_szRowS.l0 a0 (((lenI a0) - 0).toNat + 1) (w64 (a1 - (lenI a0))) 0)

def laws_szView.f (a0 : View) (a1 : Int) : Option Int :=
  (laws_szQuery.f a0.Q a1).bind fun r1 =>
  bif (decide (r1 < 0)) then (
  some (-1))
  else (
  (laws_szRowS.f a0.Rows r1).bind fun r3 =>
  bif (decide (r3 < 0)) then (
  some (-1))
  else (
  (laws_szKidS.f a0.Kids r3).bind fun r5 =>
  bif (decide (r5 < 0)) then (
  some (-1))
  else (
  some r5)))

def laws_toCond.f (a0 : Cond) : Option Cond :=
  some a0

def laws_toCondS.l0 (a0 : List Cond) : Nat → (List Cond) → Int → Option ((List Cond))
  | 0, _, _ => none
  | k + 1, z5, z6 =>
    bif (decide (z6 < (lenI a0))) then (
    (getO a0 z6).bind fun x8 =>
    (laws_toCond.f x8).bind fun r9 =>
    (getO z5 z6).bind fun x10 =>
    (some (setI z5 z6 r9)).bind fun l11 =>
    laws_toCondS.l0 a0 k l11 (w64 (z6 + 1)))
    else (
    some z5)
def laws_toCondS.f (a0 : List Cond) : Option ((List Cond)) :=
  (mkO 24 (lenI a0) (Cond.mk 0 0 0)).bind fun l1 =>
  laws_toCondS.l0 a0 (((lenI a0) - 0).toNat + 1) l1 0

def laws_toIntS.l0 (a0 : List Int) : Nat → (List Int) → Int → Option ((List Int))
  | 0, _, _ => none
  | k + 1, z5, z6 =>
    bif (decide (z6 < (lenI a0))) then (
    (getO a0 z6).bind fun x8 =>
    (getO z5 z6).bind fun x9 =>
    (some (setI z5 z6 x8)).bind fun l10 =>
    laws_toIntS.l0 a0 k l10 (w64 (z6 + 1)))
    else (
    some z5)
def laws_toIntS.f (a0 : List Int) : Option ((List Int)) :=
  (mkO 8 (lenI a0) 0).bind fun l1 =>
  laws_toIntS.l0 a0 (((lenI a0) - 0).toNat + 1) l1 0

def laws_toQuery.f (a0 : Query) : Option Query :=
  (laws_toCondS.f a0.Where).bind fun r1 =>
  (laws_toIntS.f a0.Show).bind fun r2 =>
  some (Query.mk a0.Table r1 a0.Order a0.Down a0.First r2 a0.Kids a0.KidTable a0.KidCol)

def laws_toKid.f (a0 : Kid) : Option Kid :=
  some a0

def laws_toKidS.l0 (a0 : List Kid) : Nat → (List Kid) → Int → Option ((List Kid))
  | 0, _, _ => none
  | k + 1, z5, z6 =>
    bif (decide (z6 < (lenI a0))) then (
    (getO a0 z6).bind fun x8 =>
    (laws_toKid.f x8).bind fun r9 =>
    (getO z5 z6).bind fun x10 =>
    (some (setI z5 z6 r9)).bind fun l11 =>
    laws_toKidS.l0 a0 k l11 (w64 (z6 + 1)))
    else (
    some z5)
def laws_toKidS.f (a0 : List Kid) : Option ((List Kid)) :=
  (mkO 16 (lenI a0) (Kid.mk 0 0)).bind fun l1 =>
  laws_toKidS.l0 a0 (((lenI a0) - 0).toNat + 1) l1 0

def laws_toRow.f (a0 : Row) : Option Row :=
  (laws_toIntS.f a0.Cells).bind fun r1 =>
  some (Row.mk a0.Id r1)

def laws_toRowS.l0 (a0 : List Row) : Nat → (List Row) → Int → Option ((List Row))
  | 0, _, _ => none
  | k + 1, z5, z6 =>
    bif (decide (z6 < (lenI a0))) then (
    (getO a0 z6).bind fun x8 =>
    (laws_toRow.f x8).bind fun r9 =>
    (getO z5 z6).bind fun x10 =>
    (some (setI z5 z6 r9)).bind fun l11 =>
    laws_toRowS.l0 a0 k l11 (w64 (z6 + 1)))
    else (
    some z5)
def laws_toRowS.f (a0 : List Row) : Option ((List Row)) :=
  (mkO 32 (lenI a0) (Row.mk 0 [])).bind fun l1 =>
  laws_toRowS.l0 a0 (((lenI a0) - 0).toNat + 1) l1 0

def laws_toView.f (a0 : View) : Option View :=
  (laws_toQuery.f a0.Q).bind fun r1 =>
  (laws_toRowS.f a0.Rows).bind fun r2 =>
  (laws_toKidS.f a0.Kids).bind fun r3 =>
  some (View.mk r1 r2 r3)

def laws_eqCond.f (a0 : Cond) (a1 : Cond) : Option Bool :=
  bif (decide (a0.Col ≠ a1.Col)) then (
  some false)
  else (
  bif (decide (a0.Op ≠ a1.Op)) then (
  some false)
  else (
  bif (decide (a0.V ≠ a1.V)) then (
  some false)
  else (
  some true)))

def laws_eqCondS.l0 (a0 : List Cond) (a1 : List Cond) : Nat → Int → Option Bool
  | 0, _ => none
  | k + 1, z5 =>
    bif (decide (z5 < (lenI a0))) then (
    (getO a0 z5).bind fun x7 =>
    (getO a1 z5).bind fun x8 =>
    (laws_eqCond.f x7 x8).bind fun r9 =>
    bif (bo3 r9 false true) then (
    some false)
    else (
    laws_eqCondS.l0 a0 a1 k (w64 (z5 + 1))))
    else (
    some true)
def laws_eqCondS.f (a0 : List Cond) (a1 : List Cond) : Option Bool :=
  bif (decide ((lenI a0) ≠ (lenI a1))) then (
  some false)
  else (
  laws_eqCondS.l0 a0 a1 (((lenI a0) - 0).toNat + 1) 0)

def laws_eqIntS.l0 (a0 : List Int) (a1 : List Int) : Nat → Int → Option Bool
  | 0, _ => none
  | k + 1, z5 =>
    bif (decide (z5 < (lenI a0))) then (
    (getO a0 z5).bind fun x7 =>
    (getO a1 z5).bind fun x8 =>
    bif (decide (x7 ≠ x8)) then (
    some false)
    else (
    laws_eqIntS.l0 a0 a1 k (w64 (z5 + 1))))
    else (
    some true)
def laws_eqIntS.f (a0 : List Int) (a1 : List Int) : Option Bool :=
  bif (decide ((lenI a0) ≠ (lenI a1))) then (
  some false)
  else (
  laws_eqIntS.l0 a0 a1 (((lenI a0) - 0).toNat + 1) 0)

def laws_eqQuery.f (a0 : Query) (a1 : Query) : Option Bool :=
  bif (decide (a0.Table ≠ a1.Table)) then (
  some false)
  else (
  (laws_eqCondS.f a0.Where a1.Where).bind fun r2 =>
  bif (bo3 r2 false true) then (
  some false)
  else (
  bif (decide (a0.Order ≠ a1.Order)) then (
  some false)
  else (
  bif (bo3 a0.Down (bo3 a1.Down false true) a1.Down) then (
  some false)
  else (
  bif (decide (a0.First ≠ a1.First)) then (
  some false)
  else (
  (laws_eqIntS.f a0.Show a1.Show).bind fun r7 =>
  bif (bo3 r7 false true) then (
  some false)
  else (
  bif (bo3 a0.Kids (bo3 a1.Kids false true) a1.Kids) then (
  some false)
  else (
  bif (decide (a0.KidTable ≠ a1.KidTable)) then (
  some false)
  else (
  bif (decide (a0.KidCol ≠ a1.KidCol)) then (
  some false)
  else (
  some true)))))))))

def laws_eqKid.f (a0 : Kid) (a1 : Kid) : Option Bool :=
  bif (decide (a0.Id ≠ a1.Id)) then (
  some false)
  else (
  bif (decide (a0.N ≠ a1.N)) then (
  some false)
  else (
  some true))

def laws_eqKidS.l0 (a0 : List Kid) (a1 : List Kid) : Nat → Int → Option Bool
  | 0, _ => none
  | k + 1, z5 =>
    bif (decide (z5 < (lenI a0))) then (
    (getO a0 z5).bind fun x7 =>
    (getO a1 z5).bind fun x8 =>
    (laws_eqKid.f x7 x8).bind fun r9 =>
    bif (bo3 r9 false true) then (
    some false)
    else (
    laws_eqKidS.l0 a0 a1 k (w64 (z5 + 1))))
    else (
    some true)
def laws_eqKidS.f (a0 : List Kid) (a1 : List Kid) : Option Bool :=
  bif (decide ((lenI a0) ≠ (lenI a1))) then (
  some false)
  else (
  laws_eqKidS.l0 a0 a1 (((lenI a0) - 0).toNat + 1) 0)

def laws_eqRow.f (a0 : Row) (a1 : Row) : Option Bool :=
  bif (decide (a0.Id ≠ a1.Id)) then (
  some false)
  else (
  (laws_eqIntS.f a0.Cells a1.Cells).bind fun r2 =>
  bif (bo3 r2 false true) then (
  some false)
  else (
  some true))

def laws_eqRowS.l0 (a0 : List Row) (a1 : List Row) : Nat → Int → Option Bool
  | 0, _ => none
  | k + 1, z5 =>
    bif (decide (z5 < (lenI a0))) then (
    (getO a0 z5).bind fun x7 =>
    (getO a1 z5).bind fun x8 =>
    (laws_eqRow.f x7 x8).bind fun r9 =>
    bif (bo3 r9 false true) then (
    some false)
    else (
    laws_eqRowS.l0 a0 a1 k (w64 (z5 + 1))))
    else (
    some true)
def laws_eqRowS.f (a0 : List Row) (a1 : List Row) : Option Bool :=
  bif (decide ((lenI a0) ≠ (lenI a1))) then (
  some false)
  else (
  laws_eqRowS.l0 a0 a1 (((lenI a0) - 0).toNat + 1) 0)

def laws_eqView.f (a0 : View) (a1 : View) : Option Bool :=
  (laws_eqQuery.f a0.Q a1.Q).bind fun r1 =>
  bif (bo3 r1 false true) then (
  some false)
  else (
  (laws_eqRowS.f a0.Rows a1.Rows).bind fun r3 =>
  bif (bo3 r3 false true) then (
  some false)
  else (
  (laws_eqKidS.f a0.Kids a1.Kids).bind fun r5 =>
  bif (bo3 r5 false true) then (
  some false)
  else (
  some true)))

def spec_RowSame.l0 (a0 : Row) (a1 : Row) : Nat → Int → Option Bool
  | 0, _ => none
  | k + 1, z16 =>
    bif (decide (z16 < (lenI a0.Cells))) then (
    (getO a0.Cells z16).bind fun x18 =>
    (getO a1.Cells z16).bind fun x19 =>
    bif (decide (x18 ≠ x19)) then (
    some false)
    else (
    spec_RowSame.l0 a0 a1 k (w64 (z16 + 1))))
    else (
    some true)
def spec_RowSame.f (a0 : Row) (a1 : Row) : Option Bool :=
  bif (bo3 (decide (a0.Id ≠ a1.Id)) true (decide ((lenI a0.Cells) ≠ (lenI a1.Cells)))) then (
  some false)
  else (
  spec_RowSame.l0 a0 a1 (((lenI a0.Cells) - 0).toNat + 1) 0)

def spec_l9Conds.l0 (a0 : List Cond) (a1 : List Cond) : Nat → Int → Option Bool
  | 0, _ => none
  | k + 1, z4 =>
    bif (bo3 (decide (z4 < (lenI a0))) (decide (z4 < (lenI a1))) false) then (
    (getO a0 z4).bind fun x12 =>
    (getO a1 z4).bind fun x13 =>
    bif (bo3 (bo3 (decide (x12.Col = x13.Col)) (bo3 (decide (x12.Op = x13.Op)) (bo3 (decide (x12.V = x13.V)) true false) false) false) false true) then (
    some false)
    else (
    spec_l9Conds.l0 a0 a1 k (w64 (z4 + 1))))
    else (
    some (decide ((lenI a0) = (lenI a1))))
def spec_l9Conds.f (a0 : List Cond) (a1 : List Cond) : Option Bool :=
  spec_l9Conds.l0 a0 a1 (((lenI a0) - 0).toNat + 1) 0

def spec_l9Ints.l0 (a0 : List Int) (a1 : List Int) : Nat → Int → Option Bool
  | 0, _ => none
  | k + 1, z4 =>
    bif (bo3 (decide (z4 < (lenI a0))) (decide (z4 < (lenI a1))) false) then (
    (getO a0 z4).bind fun x12 =>
    (getO a1 z4).bind fun x13 =>
    bif (decide (x12 ≠ x13)) then (
    some false)
    else (
    spec_l9Ints.l0 a0 a1 k (w64 (z4 + 1))))
    else (
    some (decide ((lenI a0) = (lenI a1))))
def spec_l9Ints.f (a0 : List Int) (a1 : List Int) : Option Bool :=
  spec_l9Ints.l0 a0 a1 (((lenI a0) - 0).toNat + 1) 0

def spec_QuerySame.f (a0 : Query) (a1 : Query) : Option Bool :=
  (gd (decide (a0.Table = a1.Table)) (spec_l9Conds.f a0.Where a1.Where)).bind fun r1 =>
  (gd (bo3 (bo3 (bo3 (bo3 (decide (a0.Table = a1.Table)) r1 false) (decide (a0.Order = a1.Order)) false) (bo3 a0.Down a1.Down (bo3 a1.Down false true)) false) (decide (a0.First = a1.First)) false) (spec_l9Ints.f a0.Show a1.Show)).bind fun r2 =>
  some (bo3 (bo3 (bo3 (bo3 (bo3 (bo3 (bo3 (bo3 (decide (a0.Table = a1.Table)) r1 false) (decide (a0.Order = a1.Order)) false) (bo3 a0.Down a1.Down (bo3 a1.Down false true)) false) (decide (a0.First = a1.First)) false) r2 false) (bo3 a0.Kids a1.Kids (bo3 a1.Kids false true)) false) (decide (a0.KidTable = a1.KidTable)) false) (decide (a0.KidCol = a1.KidCol)) false)

def spec_ViewSame.l0 (a0 : View) (a1 : View) (K22 : Unit → Option Bool) : Nat → Int → Option Bool
  | 0, _ => none
  | k + 1, z46 =>
    bif (decide (z46 < (lenI a0.Rows))) then (
    (getO a0.Rows z46).bind fun x48 =>
    (getO a1.Rows z46).bind fun x49 =>
    (spec_RowSame.f x48 x49).bind fun r50 =>
    bif (bo3 r50 false true) then (
    some false)
    else (
    spec_ViewSame.l0 a0 a1 K22 k (w64 (z46 + 1))))
    else (
    K22 ())
def spec_ViewSame.l1 (a0 : View) (a1 : View) : Nat → Int → Option Bool
  | 0, _ => none
  | k + 1, z75 =>
    bif (decide (z75 < (lenI a0.Kids))) then (
    (getO a0.Kids z75).bind fun x77 =>
    (getO a1.Kids z75).bind fun x78 =>
    bif (bo3 (bo3 (decide (x77.Id = x78.Id)) (bo3 (decide (x77.N = x78.N)) true false) false) false true) then (
    some false)
    else (
    spec_ViewSame.l1 a0 a1 k (w64 (z75 + 1))))
    else (
    some true)
def spec_ViewSame.f (a0 : View) (a1 : View) : Option Bool :=
  (spec_QuerySame.f a0.Q a1.Q).bind fun r1 =>
  bif (bo3 (bo3 (bo3 r1 false true) true (decide ((lenI a0.Rows) ≠ (lenI a1.Rows)))) true (decide ((lenI a0.Kids) ≠ (lenI a1.Kids)))) then (
  some false)
  else (
  joinK (fun (y21 : Unit) =>
  spec_ViewSame.l1 a0 a1 (((lenI a0.Kids) - 0).toNat + 1) 0) (fun K22 =>
  spec_ViewSame.l0 a0 a1 K22 (((lenI a0.Rows) - 0).toNat + 1) 0))

def slices_Equal_int.l0 (a0 : List Int) (a1 : List Int) : Nat → Int → Option Bool
  | 0, _ => none
  | k + 1, z6 =>
    bif (decide (z6 < (lenI a0))) then (
    (getO a0 z6).bind fun x8 =>
    (getO a1 z6).bind fun x9 =>
    bif (decide (x8 ≠ x9)) then (
    some false)
    else (
    slices_Equal_int.l0 a0 a1 k (w64 (z6 + 1))))
    else (
    some true)
def slices_Equal_int.f (a0 : List Int) (a1 : List Int) : Option Bool :=
  bif (decide ((lenI a0) ≠ (lenI a1))) then (
  some false)
  else (
  slices_Equal_int.l0 a0 a1 (((lenI a0) - 0).toNat + 1) 0)

def impl_RowSame.f (a0 : Row) (a1 : Row) : Option Bool :=
  (gd (decide (a0.Id = a1.Id)) (slices_Equal_int.f a0.Cells a1.Cells)).bind fun r1 =>
  some (bo3 (decide (a0.Id = a1.Id)) r1 false)

def slices_EqualFunc_impl_Row__impl_RowSame.l0 (a0 : List Row) (a1 : List Row) : Nat → Int → Option Bool
  | 0, _ => none
  | k + 1, z6 =>
    bif (decide (z6 < (lenI a0))) then (
    (getO a0 z6).bind fun x8 =>
    (getO a1 z6).bind fun x9 =>
    (impl_RowSame.f x8 x9).bind fun r10 =>
    bif (bo3 r10 false true) then (
    some false)
    else (
    slices_EqualFunc_impl_Row__impl_RowSame.l0 a0 a1 k (w64 (z6 + 1))))
    else (
    some true)
def slices_EqualFunc_impl_Row__impl_RowSame.f (a0 : List Row) (a1 : List Row) : Option Bool :=
  bif (decide ((lenI a0) ≠ (lenI a1))) then (
  some false)
  else (
  slices_EqualFunc_impl_Row__impl_RowSame.l0 a0 a1 (((lenI a0) - 0).toNat + 1) 0)

def slices_Equal_impl_Kid.l0 (a0 : List Kid) (a1 : List Kid) : Nat → Int → Option Bool
  | 0, _ => none
  | k + 1, z6 =>
    bif (decide (z6 < (lenI a0))) then (
    (getO a0 z6).bind fun x8 =>
    (getO a1 z6).bind fun x9 =>
    bif (bo3 (bo3 (decide (x8.Id = x9.Id)) (bo3 (decide (x8.N = x9.N)) true false) false) false true) then (
    some false)
    else (
    slices_Equal_impl_Kid.l0 a0 a1 k (w64 (z6 + 1))))
    else (
    some true)
def slices_Equal_impl_Kid.f (a0 : List Kid) (a1 : List Kid) : Option Bool :=
  bif (decide ((lenI a0) ≠ (lenI a1))) then (
  some false)
  else (
  slices_Equal_impl_Kid.l0 a0 a1 (((lenI a0) - 0).toNat + 1) 0)

def slices_Equal_impl_Cond.l0 (a0 : List Cond) (a1 : List Cond) : Nat → Int → Option Bool
  | 0, _ => none
  | k + 1, z6 =>
    bif (decide (z6 < (lenI a0))) then (
    (getO a0 z6).bind fun x8 =>
    (getO a1 z6).bind fun x9 =>
    bif (bo3 (bo3 (decide (x8.Col = x9.Col)) (bo3 (decide (x8.Op = x9.Op)) (bo3 (decide (x8.V = x9.V)) true false) false) false) false true) then (
    some false)
    else (
    slices_Equal_impl_Cond.l0 a0 a1 k (w64 (z6 + 1))))
    else (
    some true)
def slices_Equal_impl_Cond.f (a0 : List Cond) (a1 : List Cond) : Option Bool :=
  bif (decide ((lenI a0) ≠ (lenI a1))) then (
  some false)
  else (
  slices_Equal_impl_Cond.l0 a0 a1 (((lenI a0) - 0).toNat + 1) 0)

def impl_QuerySame.f (a0 : Query) (a1 : Query) : Option Bool :=
  (gd (bo3 (bo3 (bo3 (bo3 (decide (a0.Table = a1.Table)) (decide (a0.Order = a1.Order)) false) (bo3 a0.Down a1.Down (bo3 a1.Down false true)) false) (decide (a0.First = a1.First)) false) (bo3 (bo3 (bo3 a0.Kids a1.Kids (bo3 a1.Kids false true)) (decide (a0.KidTable = a1.KidTable)) false) (decide (a0.KidCol = a1.KidCol)) false) false) (slices_Equal_impl_Cond.f a0.Where a1.Where)).bind fun r36 =>
  (gd (bo3 (bo3 (bo3 (bo3 (bo3 (decide (a0.Table = a1.Table)) (decide (a0.Order = a1.Order)) false) (bo3 a0.Down a1.Down (bo3 a1.Down false true)) false) (decide (a0.First = a1.First)) false) (bo3 (bo3 (bo3 a0.Kids a1.Kids (bo3 a1.Kids false true)) (decide (a0.KidTable = a1.KidTable)) false) (decide (a0.KidCol = a1.KidCol)) false) false) r36 false) (slices_Equal_int.f a0.Show a1.Show)).bind fun r37 =>
  some (bo3 (bo3 (bo3 (bo3 (bo3 (bo3 (decide (a0.Table = a1.Table)) (decide (a0.Order = a1.Order)) false) (bo3 a0.Down a1.Down (bo3 a1.Down false true)) false) (decide (a0.First = a1.First)) false) (bo3 (bo3 (bo3 a0.Kids a1.Kids (bo3 a1.Kids false true)) (decide (a0.KidTable = a1.KidTable)) false) (decide (a0.KidCol = a1.KidCol)) false) false) r36 false) r37 false)

def impl_ViewSame.f (a0 : View) (a1 : View) : Option Bool :=
  (impl_QuerySame.f a0.Q a1.Q).bind fun r1 =>
  (gd r1 (slices_EqualFunc_impl_Row__impl_RowSame.f a0.Rows a1.Rows)).bind fun r2 =>
  (gd (bo3 r1 r2 false) (slices_Equal_impl_Kid.f a0.Kids a1.Kids)).bind fun r3 =>
  some (bo3 (bo3 r1 r2 false) r3 false)

def laws_FnExactViewSame.f (a0 : View) (a1 : View) : Option Bool :=
  (laws_szView.f a0 1048576).bind fun r1 =>
  bif (decide (r1 < 0)) then (
  some true)
  else (
  (laws_szView.f a1 r1).bind fun r3 =>
  bif (decide (r3 < 0)) then (
  some true)
  else (
  (laws_toView.f a0).bind fun r5 =>
  (laws_toView.f a1).bind fun r6 =>
  (spec_ViewSame.f r5 r6).bind fun r7 =>
  (laws_toView.f a0).bind fun r8 =>
  (laws_toView.f a1).bind fun r9 =>
  (impl_ViewSame.f r8 r9).bind fun r10 =>
  bif (bo3 r10 (bo3 r7 false true) r7) then (
  some false)
  else (
  (laws_toView.f a0).bind fun r12 =>
  (laws_eqView.f r8 r12).bind fun r13 =>
  bif (bo3 r13 false true) then (
  some false)
  else (
  (laws_toView.f a1).bind fun r15 =>
  (laws_eqView.f r9 r15).bind fun r16 =>
  bif (bo3 r16 false true) then (
  some false)
  else (
  some true)))))

end Go.Proofs.Ytplgbjbpimbcbaa.L
