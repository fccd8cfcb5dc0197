/- The pure functions of the program. -/
import Derived.Test.YtplgbjbpimbcbaaSl29
namespace Go.Proofs.Ytplgbjbpimbcbaa.L
open Go
set_option linter.unusedVariables false
structure Cond where
  Col : Int
  Op : Int
  V : Int
  deriving Inhabited, DecidableEq
structure Query where
  Table : Int
  Where : List Cond
  Order : Int
  Down : Bool
  First : Int
  Show : List Int
  Kids : Bool
  KidTable : Int
  KidCol : Int
  deriving Inhabited, DecidableEq
structure Row where
  Id : Int
  Cells : List Int
  deriving Inhabited, DecidableEq

def laws_szCondS.f (a0 : List Cond) (a1 : Int) : Option Int :=
  bif (decide ((w64 (a1 - (lenI a0))) < 0)) then (
  some (-1))
  else (
  some (w64 (a1 - (lenI a0))))

def laws_szIntS.f (a0 : List Int) (a1 : Int) : Option Int :=
  bif (decide ((w64 (a1 - (lenI a0))) < 0)) then (
  some (-1))
  else (
  some (w64 (a1 - (lenI a0))))

def laws_szQuery.f (a0 : Query) (a1 : Int) : Option Int :=
  (laws_szCondS.f a0.Where a1).bind fun r1 =>
  bif (decide (r1 < 0)) then (
  some (-1))
  else (
  (laws_szIntS.f a0.Show r1).bind fun r3 =>
  bif (decide (r3 < 0)) then (
  some (-1))
  else (
  some r3))

def laws_szRow.f (a0 : Row) (a1 : Int) : Option Int :=
  (laws_szIntS.f a0.Cells a1).bind fun r1 =>
  bif (decide (r1 < 0)) then (
  some (-1))
  else (
  some r1)

def laws_toCond.f (a0 : Cond) : Option Cond :=
  some a0

def laws_toCondS.l0 (a0 : List Cond) : Nat → (List Cond) → Int → Option ((List Cond))
  | 0, _, _ => none
  | k + 1, z5, z6 =>
    bif (decide (z6 < (lenI a0))) then (
    (getO a0 z6).bind fun x8 =>
    (laws_toCond.f x8).bind fun r9 =>
    (getO z5 z6).bind fun x10 =>
    (some (setI z5 z6 r9)).bind fun l11 =>
    laws_toCondS.l0 a0 k l11 (w64 (z6 + 1)))
    else (
    some z5)
def laws_toCondS.f (a0 : List Cond) : Option ((List Cond)) :=
  (mkO 24 (lenI a0) (Cond.mk 0 0 0)).bind fun l1 =>
  laws_toCondS.l0 a0 (((lenI a0) - 0).toNat + 1) l1 0

def laws_toIntS.l0 (a0 : List Int) : Nat → (List Int) → Int → Option ((List Int))
  | 0, _, _ => none
  | k + 1, z5, z6 =>
    bif (decide (z6 < (lenI a0))) then (
    (getO a0 z6).bind fun x8 =>
    (getO z5 z6).bind fun x9 =>
    (some (setI z5 z6 x8)).bind fun l10 =>
    laws_toIntS.l0 a0 k l10 (w64 (z6 + 1)))
    else (
    some z5)
def laws_toIntS.f (a0 : List Int) : Option ((List Int)) :=
  (mkO 8 (lenI a0) 0).bind fun l1 =>
  laws_toIntS.l0 a0 (((lenI a0) - 0).toNat + 1) l1 0

def laws_toQuery.f (a0 : Query) : Option Query :=
  (laws_toCondS.f a0.Where).bind fun r1 =>
  (laws_toIntS.f a0.Show).bind fun r2 =>
  some (Query.mk a0.Table r1 a0.Order a0.Down a0.First r2 a0.Kids a0.KidTable a0.KidCol)

def laws_toRow.f (a0 : Row) : Option Row :=
  (laws_toIntS.f a0.Cells).bind fun r1 =>
  some (Row.mk a0.Id r1)

def spec_l1In.f (a0 : Int) (a1 : Int) (a2 : Int) : Option Bool :=
  some (bo3 (decide (a1 ≤ a0)) (decide (a0 ≤ a2)) false)

def spec_l9Cell.f (a0 : Row) (a1 : Int) : Option Int :=
  (spec_l1In.f a1 0 (w64 ((lenI a0.Cells) - 1))).bind fun r1 =>
  bif (bo3 r1 false true) then (
  some 0)
  else (
  (getO a0.Cells a1).bind fun x3 =>
  some x3)

def spec_Ahead.f (a0 : Query) (a1 : Row) (a2 : Row) : Option Bool :=
  bif (decide (a0.Order ≠ 0)) then (
  (spec_l9Cell.f a1 (w64 (a0.Order - 1))).bind fun r2 =>
  (spec_l9Cell.f a2 (w64 (a0.Order - 1))).bind fun r3 =>
  bif (decide (r2 ≠ r3)) then (
  some (bo3 (decide (r2 < r3)) (bo3 a0.Down false true) a0.Down))
  else (
  some (decide (a1.Id < a2.Id))))
  else (
  some (decide (a1.Id < a2.Id)))

def impl_within.f (a0 : Int) (a1 : Int) (a2 : Int) : Option Bool :=
  some (bo3 (decide (a1 ≤ a0)) (decide (a0 ≤ a2)) false)

def impl_cellOf.f (a0 : Row) (a1 : Int) : Option Int :=
  (impl_within.f a1 0 (w64 ((lenI a0.Cells) - 1))).bind fun r1 =>
  bif (bo3 r1 false true) then (
  some 0)
  else (
  (getO a0.Cells a1).bind fun x3 =>
  some x3)

def impl_Ahead.f (a0 : Query) (a1 : Row) (a2 : Row) : Option Bool :=
  bif (decide (a0.Order = 0)) then (
  some (decide (a1.Id < a2.Id)))
  else (
  (impl_cellOf.f a1 (w64 (a0.Order - 1))).bind fun r2 =>
  (impl_cellOf.f a2 (w64 (a0.Order - 1))).bind fun r3 =>
  bif (decide (r2 = r3)) then (
  some (decide (a1.Id < a2.Id)))
  else (
  bif a0.Down then (
  some (decide (r3 < r2)))
  else (
  some (decide (r2 < r3)))))

def laws_eqCond.f (a0 : Cond) (a1 : Cond) : Option Bool :=
  bif (decide (a0.Col ≠ a1.Col)) then (
  some false)
  else (
  bif (decide (a0.Op ≠ a1.Op)) then (
  some false)
  else (
  bif (decide (a0.V ≠ a1.V)) then (
  some false)
  else (
  some true)))

def laws_eqCondS.l0 (a0 : List Cond) (a1 : List Cond) : Nat → Int → Option Bool
  | 0, _ => none
  | k + 1, z5 =>
    bif (decide (z5 < (lenI a0))) then (
    (getO a0 z5).bind fun x7 =>
    (getO a1 z5).bind fun x8 =>
    (laws_eqCond.f x7 x8).bind fun r9 =>
    bif (bo3 r9 false true) then (
    some false)
    else (
    laws_eqCondS.l0 a0 a1 k (w64 (z5 + 1))))
    else (
    some true)
def laws_eqCondS.f (a0 : List Cond) (a1 : List Cond) : Option Bool :=
  bif (decide ((lenI a0) ≠ (lenI a1))) then (
  some false)
  else (
  laws_eqCondS.l0 a0 a1 (((lenI a0) - 0).toNat + 1) 0)

def laws_eqIntS.l0 (a0 : List Int) (a1 : List Int) : Nat → Int → Option Bool
  | 0, _ => none
  | k + 1, z5 =>
    bif (decide (z5 < (lenI a0))) then (
    (getO a0 z5).bind fun x7 =>
    (getO a1 z5).bind fun x8 =>
    bif (decide (x7 ≠ x8)) then (
    some false)
    else (
    laws_eqIntS.l0 a0 a1 k (w64 (z5 + 1))))
    else (
    some true)
def laws_eqIntS.f (a0 : List Int) (a1 : List Int) : Option Bool :=
  bif (decide ((lenI a0) ≠ (lenI a1))) then (
  some false)
  else (
  laws_eqIntS.l0 a0 a1 (((lenI a0) - 0).toNat + 1) 0)

def laws_eqQuery.f (a0 : Query) (a1 : Query) : Option Bool :=
  bif (decide (a0.Table ≠ a1.Table)) then (
  some false)
  else (
  (laws_eqCondS.f a0.Where a1.Where).bind fun r2 =>
  bif (bo3 r2 false true) then (
  some false)
  else (
  bif (decide (a0.Order ≠ a1.Order)) then (
  some false)
  else (
  bif (bo3 a0.Down (bo3 a1.Down false true) a1.Down) then (
  some false)
  else (
  bif (decide (a0.First ≠ a1.First)) then (
  some false)
  else (
  (laws_eqIntS.f a0.Show a1.Show).bind fun r7 =>
  bif (bo3 r7 false true) then (
  some false)
  else (
  bif (bo3 a0.Kids (bo3 a1.Kids false true) a1.Kids) then (
  some false)
  else (
  bif (decide (a0.KidTable ≠ a1.KidTable)) then (
  some false)
  else (
  bif (decide (a0.KidCol ≠ a1.KidCol)) then (
  some false)
  else (
  some true)))))))))

def laws_eqRow.f (a0 : Row) (a1 : Row) : Option Bool :=
  bif (decide (a0.Id ≠ a1.Id)) then (
  some false)
  else (
  (laws_eqIntS.f a0.Cells a1.Cells).bind fun r2 =>
  bif (bo3 r2 false true) then (
  some false)
  else (
  some true))

def laws_FnExactAhead.f (a0 : Query) (a1 : Row) (a2 : Row) : Option Bool :=
  (laws_szQuery.f a0 1048576).bind fun r1 =>
  bif (decide (r1 < 0)) then (
  some true)
  else (
  (laws_szRow.f a1 r1).bind fun r3 =>
  bif (decide (r3 < 0)) then (
  some true)
  else (
  (laws_szRow.f a2 r3).bind fun r5 =>
  bif (decide (r5 < 0)) then (
  some true)
  else (
  (laws_toQuery.f a0).bind fun r7 =>
  (laws_toRow.f a1).bind fun r8 =>
  (laws_toRow.f a2).bind fun r9 =>
  (spec_Ahead.f r7 r8 r9).bind fun r10 =>
  (laws_toQuery.f a0).bind fun r11 =>
  (laws_toRow.f a1).bind fun r12 =>
  (laws_toRow.f a2).bind fun r13 =>
  (impl_Ahead.f r11 r12 r13).bind fun r14 =>
  bif (bo3 r14 (bo3 r10 false true) r10) then (
  some false)
  else (
  (laws_toQuery.f a0).bind fun r16 =>
  (laws_eqQuery.f r11 r16).bind fun r17 =>
  bif (bo3 r17 false true) then (
  some false)
  else (
  (laws_toRow.f a1).bind fun r19 =>
  (laws_eqRow.f r12 r19).bind fun r20 =>
  bif (bo3 r20 false true) then (
  some false)
  else (
  (laws_toRow.f a2).bind fun r22 =>
  (laws_eqRow.f r13 r22).bind fun r23 =>
  bif (bo3 r23 false true) then (
  some false)
  else (
  some true)))))))

end Go.Proofs.Ytplgbjbpimbcbaa.L
