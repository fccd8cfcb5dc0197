/- The pure functions of the program. -/
import Derived.Test.YtgicjbeaomjdgaaSl45
namespace Go.Proofs.Ytgicjbeaomjdgaa.L
open Go
set_option linter.unusedVariables false
structure Schema where
  Cols : List Int
  deriving Inhabited, DecidableEq
structure Row where
  Id : Int
  Cells : List Int
  deriving Inhabited, DecidableEq
structure Store where
  Schema : Schema
  Version : Int
  Tables : List (List Row)
  deriving Inhabited, DecidableEq
structure Cond where
  Col : Int
  Op : Int
  V : Int
  deriving Inhabited, DecidableEq
structure Query where
  Table : Int
  Where : List Cond
  Order : Int
  Down : Bool
  First : Int
  Show : List Int
  Kids : Bool
  KidTable : Int
  KidCol : Int
  deriving Inhabited, DecidableEq
structure Kid where
  Id : Int
  N : Int
  deriving Inhabited, DecidableEq
structure View where
  Q : Query
  Rows : List Row
  Kids : List Kid
  deriving Inhabited, DecidableEq

def laws_eqIntS.l0 (a0 : List Int) (a1 : List Int) : Nat → Int → Option Bool
  | 0, _ => none
  | k + 1, z5 =>
    bif (decide (z5 < (lenI a0))) then (
    (getO a0 z5).bind fun x7 =>
    (getO a1 z5).bind fun x8 =>
    bif (decide (x7 ≠ x8)) then (
    some false)
    else (
    laws_eqIntS.l0 a0 a1 k (w64 (z5 + 1))))
    else (
    some true)
def laws_eqIntS.f (a0 : List Int) (a1 : List Int) : Option Bool :=
  bif (decide ((lenI a0) ≠ (lenI a1))) then (
  some false)
  else (
  laws_eqIntS.l0 a0 a1 (((lenI a0) - 0).toNat + 1) 0)

def laws_eqSchema.f (a0 : Schema) (a1 : Schema) : Option Bool :=
  (laws_eqIntS.f a0.Cols a1.Cols).bind fun r1 =>
  bif (bo3 r1 false true) then (
  some false)
  else (
  some true)

def laws_eqRow.f (a0 : Row) (a1 : Row) : Option Bool :=
  bif (decide (a0.Id ≠ a1.Id)) then (
  some false)
  else (
  (laws_eqIntS.f a0.Cells a1.Cells).bind fun r2 =>
  bif (bo3 r2 false true) then (
  some false)
  else (
  some true))

def laws_eqRowS.l0 (a0 : List Row) (a1 : List Row) : Nat → Int → Option Bool
  | 0, _ => none
  | k + 1, z5 =>
    bif (decide (z5 < (lenI a0))) then (
    (getO a0 z5).bind fun x7 =>
    (getO a1 z5).bind fun x8 =>
    (laws_eqRow.f x7 x8).bind fun r9 =>
    bif (bo3 r9 false true) then (
    some false)
    else (
    laws_eqRowS.l0 a0 a1 k (w64 (z5 + 1))))
    else (
    some true)
def laws_eqRowS.f (a0 : List Row) (a1 : List Row) : Option Bool :=
  bif (decide ((lenI a0) ≠ (lenI a1))) then (
  some false)
  else (
  laws_eqRowS.l0 a0 a1 (((lenI a0) - 0).toNat + 1) 0)

def laws_eqRowSS.l0 (a0 : List (List Row)) (a1 : List (List Row)) : Nat → Int → Option Bool
  | 0, _ => none
  | k + 1, z5 =>
    bif (decide (z5 < (lenI a0))) then (
    (getO a0 z5).bind fun x7 =>
    (getO a1 z5).bind fun x8 =>
    (laws_eqRowS.f x7 x8).bind fun r9 =>
    bif (bo3 r9 false true) then (
    some false)
    else (
    laws_eqRowSS.l0 a0 a1 k (w64 (z5 + 1))))
    else (
    some true)
def laws_eqRowSS.f (a0 : List (List Row)) (a1 : List (List Row)) : Option Bool :=
  bif (decide ((lenI a0) ≠ (lenI a1))) then (
  some false)
  else (
  laws_eqRowSS.l0 a0 a1 (((lenI a0) - 0).toNat + 1) 0)

def laws_eqStore.f (a0 : Store) (a1 : Store) : Option Bool :=
  (laws_eqSchema.f a0.Schema a1.Schema).bind fun r1 =>
  bif (bo3 r1 false true) then (
  some false)
  else (
  bif (decide (a0.Version ≠ a1.Version)) then (
  some false)
  else (
  (laws_eqRowSS.f a0.Tables a1.Tables).bind fun r4 =>
  bif (bo3 r4 false true) then (
  some false)
  else (
  some true)))

def laws_eqCond.f (a0 : Cond) (a1 : Cond) : Option Bool :=
  bif (decide (a0.Col ≠ a1.Col)) then (
  some false)
  else (
  bif (decide (a0.Op ≠ a1.Op)) then (
  some false)
  else (
  bif (decide (a0.V ≠ a1.V)) then (
  some false)
  else (
  some true)))

def laws_eqCondS.l0 (a0 : List Cond) (a1 : List Cond) : Nat → Int → Option Bool
  | 0, _ => none
  | k + 1, z5 =>
    bif (decide (z5 < (lenI a0))) then (
    (getO a0 z5).bind fun x7 =>
    (getO a1 z5).bind fun x8 =>
    (laws_eqCond.f x7 x8).bind fun r9 =>
    bif (bo3 r9 false true) then (
    some false)
    else (
    laws_eqCondS.l0 a0 a1 k (w64 (z5 + 1))))
    else (
    some true)
def laws_eqCondS.f (a0 : List Cond) (a1 : List Cond) : Option Bool :=
  bif (decide ((lenI a0) ≠ (lenI a1))) then (
  some false)
  else (
  laws_eqCondS.l0 a0 a1 (((lenI a0) - 0).toNat + 1) 0)

def laws_eqQuery.f (a0 : Query) (a1 : Query) : Option Bool :=
  bif (decide (a0.Table ≠ a1.Table)) then (
  some false)
  else (
  (laws_eqCondS.f a0.Where a1.Where).bind fun r2 =>
  bif (bo3 r2 false true) then (
  some false)
  else (
  bif (decide (a0.Order ≠ a1.Order)) then (
  some false)
  else (
  bif (bo3 a0.Down (bo3 a1.Down false true) a1.Down) then (
  some false)
  else (
  bif (decide (a0.First ≠ a1.First)) then (
  some false)
  else (
  (laws_eqIntS.f a0.Show a1.Show).bind fun r7 =>
  bif (bo3 r7 false true) then (
  some false)
  else (
  bif (bo3 a0.Kids (bo3 a1.Kids false true) a1.Kids) then (
  some false)
  else (
  bif (decide (a0.KidTable ≠ a1.KidTable)) then (
  some false)
  else (
  bif (decide (a0.KidCol ≠ a1.KidCol)) then (
  some false)
  else (
  some true)))))))))

def laws_markIntS.l0  : Nat → (List Int) → Int → Int → Option ((List Int) × Int)
  | 0, _, _, _ => none
  | k + 1, z4, z5, z6 =>
    bif (decide (z6 < (lenI z4))) then (
    (getO z4 z6).bind fun x8 =>
    (some (setI z4 z6 z5)).bind fun l9 =>
    laws_markIntS.l0 k l9 (w64 (z5 + 1)) (w64 (z6 + 1)))
    else (
    some (z4, z5))
def laws_markIntS.f (a0 : List Int) (a1 : Int) : Option ((List Int) × Int) :=
  laws_markIntS.l0 (((lenI a0) - 0).toNat + 1) a0 a1 0

def laws_markSchema.f (a0 : Schema) (a1 : Int) : Option (Schema × Int) :=
  (laws_markIntS.f a0.Cols a1).bind fun r1 =>
  some ((Schema.mk r1.1), r1.2)

def laws_markRowS.l0  : Nat → (List Row) → Int → Int → Option ((List Row) × Int)
  | 0, _, _, _ => none
  | k + 1, z4, z5, z6 =>
    bif (decide (z6 < (lenI z4))) then (
    (getO z4 z6).bind fun x8 =>
    (some (setI z4 z6 (Row.mk z5 x8.Cells))).bind fun l9 =>
    (getO l9 z6).bind fun x10 =>
    (laws_markIntS.f x10.Cells (w64 (z5 + 1))).bind fun r11 =>
    (some (setI l9 z6 (Row.mk x10.Id r11.1))).bind fun l12 =>
    laws_markRowS.l0 k l12 r11.2 (w64 (z6 + 1)))
    else (
    some (z4, z5))
def laws_markRowS.f (a0 : List Row) (a1 : Int) : Option ((List Row) × Int) :=
  laws_markRowS.l0 (((lenI a0) - 0).toNat + 1) a0 a1 0

def laws_markRowSS.l0  : Nat → (List (List Row)) → Int → Int → Option ((List (List Row)) × Int)
  | 0, _, _, _ => none
  | k + 1, z4, z5, z6 =>
    bif (decide (z6 < (lenI z4))) then (
    (getO z4 z6).bind fun x8 =>
    (laws_markRowS.f x8 z5).bind fun r9 =>
    (some (setI z4 z6 r9.1)).bind fun l10 =>
    laws_markRowSS.l0 k l10 r9.2 (w64 (z6 + 1)))
    else (
    some (z4, z5))
def laws_markRowSS.f (a0 : List (List Row)) (a1 : Int) : Option ((List (List Row)) × Int) :=
  laws_markRowSS.l0 (((lenI a0) - 0).toNat + 1) a0 a1 0

def laws_markStore.f (a0 : Store) (a1 : Int) : Option (Store × Int) :=
  (laws_markSchema.f a0.Schema a1).bind fun r1 =>
  (laws_markRowSS.f a0.Tables r1.2).bind fun r2 =>
  some ((Store.mk r1.1 a0.Version r2.1), r2.2)

def laws_markCondS.l0  : Nat → (List Cond) → Int → Int → Option ((List Cond) × Int)
  | 0, _, _, _ => none
  | k + 1, z4, z5, z6 =>
    bif (decide (z6 < (lenI z4))) then (
    (getO z4 z6).bind fun x8 =>
    (some (setI z4 z6 (Cond.mk z5 x8.Op x8.V))).bind fun l9 =>
    (getO l9 z6).bind fun x10 =>
    (some (setI l9 z6 (Cond.mk x10.Col (w64 (z5 + 1)) x10.V))).bind fun l11 =>
    (getO l11 z6).bind fun x12 =>
    (some (setI l11 z6 (Cond.mk x12.Col x12.Op (w64 ((w64 (z5 + 1)) + 1))))).bind fun l13 =>
    laws_markCondS.l0 k l13 (w64 ((w64 ((w64 (z5 + 1)) + 1)) + 1)) (w64 (z6 + 1)))
    else (
    some (z4, z5))
def laws_markCondS.f (a0 : List Cond) (a1 : Int) : Option ((List Cond) × Int) :=
  laws_markCondS.l0 (((lenI a0) - 0).toNat + 1) a0 a1 0

def laws_markQuery.f (a0 : Query) (a1 : Int) : Option (Query × Int) :=
  (laws_markCondS.f a0.Where a1).bind fun r1 =>
  (laws_markIntS.f a0.Show r1.2).bind fun r2 =>
  some ((Query.mk a0.Table r1.1 a0.Order a0.Down a0.First r2.1 a0.Kids a0.KidTable a0.KidCol), r2.2)

def spec_l1In.f (a0 : Int) (a1 : Int) (a2 : Int) : Option Bool :=
  some (bo3 (decide (a1 ≤ a0)) (decide (a0 ≤ a2)) false)

def spec_SchemaOk.l0 (a0 : Schema) (K2 : Unit → Option Bool) : Nat → Int → Option Bool
  | 0, _ => none
  | k + 1, z5 =>
    bif (decide (z5 < (lenI a0.Cols))) then (
    (getO a0.Cols z5).bind fun x7 =>
    (spec_l1In.f x7 1 4).bind fun r8 =>
    bif (bo3 r8 false true) then (
    some false)
    else (
    spec_SchemaOk.l0 a0 K2 k (w64 (z5 + 1))))
    else (
    K2 ())
def spec_SchemaOk.f (a0 : Schema) : Option Bool :=
  joinK (fun (y1 : Unit) =>
  (spec_l1In.f (lenI a0.Cols) 1 3).bind fun r10 =>
  some r10) (fun K2 =>
  spec_SchemaOk.l0 a0 K2 (((lenI a0.Cols) - 0).toNat + 1) 0)

def spec_RowOk.l0 (a2 : Row) : Nat → Int → Option Bool
  | 0, _ => none
  | k + 1, z35 =>
    bif (decide (z35 < (lenI a2.Cells))) then (
    (getO a2.Cells z35).bind fun x37 =>
    (spec_l1In.f x37 (-1000000000) 1000000000).bind fun r38 =>
    bif (bo3 r38 false true) then (
    some false)
    else (
    spec_RowOk.l0 a2 k (w64 (z35 + 1))))
    else (
    some true)
def spec_RowOk.f (a0 : Schema) (a1 : Int) (a2 : Row) : Option Bool :=
  (spec_SchemaOk.f a0).bind fun r1 =>
  (gd (bo3 (bo3 r1 false true) false true) (spec_l1In.f a1 0 (w64 ((lenI a0.Cols) - 1)))).bind fun r2 =>
  (gd (bo3 (bo3 (bo3 r1 false true) true (bo3 r2 false true)) false true) (spec_l1In.f a2.Id 1 999)).bind fun r3 =>
  (gd (bo3 (bo3 (bo3 (bo3 r1 false true) true (bo3 r2 false true)) true (bo3 r3 false true)) false true) (getO a0.Cols a1)).bind fun x4 =>
  bif (bo3 (bo3 (bo3 (bo3 r1 false true) true (bo3 r2 false true)) true (bo3 r3 false true)) true (decide ((lenI a2.Cells) ≠ x4))) then (
  some false)
  else (
  spec_RowOk.l0 a2 (((lenI a2.Cells) - 0).toNat + 1) 0)

def spec_RowsOk.l0 (a0 : Schema) (a1 : Int) (a2 : List Row) (K2 : Unit → Option Bool) : Nat → Int → Option Bool
  | 0, _ => none
  | k + 1, z7 =>
    bif (decide (z7 < (lenI a2))) then (
    (getO a2 z7).bind fun x9 =>
    (spec_RowOk.f a0 a1 x9).bind fun r10 =>
    (gd (bo3 (bo3 (bo3 r10 false true) false true) (decide (0 < z7)) false) (getO a2 (w64 (z7 - 1)))).bind fun x11 =>
    bif (bo3 (bo3 r10 false true) true (bo3 (decide (0 < z7)) (decide (x9.Id ≤ x11.Id)) false)) then (
    some false)
    else (
    spec_RowsOk.l0 a0 a1 a2 K2 k (w64 (z7 + 1))))
    else (
    K2 ())
def spec_RowsOk.f (a0 : Schema) (a1 : Int) (a2 : List Row) : Option Bool :=
  joinK (fun (y1 : Unit) =>
  (spec_SchemaOk.f a0).bind fun r33 =>
  (gd r33 (spec_l1In.f a1 0 (w64 ((lenI a0.Cols) - 1)))).bind fun r34 =>
  some (bo3 (bo3 r33 r34 false) (decide ((lenI a2) ≤ 24)) false)) (fun K2 =>
  spec_RowsOk.l0 a0 a1 a2 K2 (((lenI a2) - 0).toNat + 1) 0)

def spec_StoreOk.l0 (a0 : Store) : Nat → Int → Option Bool
  | 0, _ => none
  | k + 1, z24 =>
    bif (decide (z24 < (lenI a0.Tables))) then (
    (getO a0.Tables z24).bind fun x26 =>
    (spec_RowsOk.f a0.Schema z24 x26).bind fun r27 =>
    bif (bo3 r27 false true) then (
    some false)
    else (
    spec_StoreOk.l0 a0 k (w64 (z24 + 1))))
    else (
    some true)
def spec_StoreOk.f (a0 : Store) : Option Bool :=
  (spec_SchemaOk.f a0.Schema).bind fun r1 =>
  (gd (bo3 (bo3 r1 false true) false true) (spec_l1In.f a0.Version 0 100000)).bind fun r2 =>
  bif (bo3 (bo3 (bo3 r1 false true) true (bo3 r2 false true)) true (decide ((lenI a0.Tables) ≠ (lenI a0.Schema.Cols)))) then (
  some false)
  else (
  spec_StoreOk.l0 a0 (((lenI a0.Tables) - 0).toNat + 1) 0)

def spec_QueryOk.l0 (a1 : Query) (x20 : Int) (K22 : Unit → Option Bool) : Nat → Int → Option Bool
  | 0, _ => none
  | k + 1, z35 =>
    bif (decide (z35 < (lenI a1.Where))) then (
    (getO a1.Where z35).bind fun x37 =>
    (spec_l1In.f x37.Col 0 (w64 (x20 - 1))).bind fun r38 =>
    (gd (bo3 (bo3 r38 false true) false true) (spec_l1In.f x37.Op 1 4)).bind fun r39 =>
    (gd (bo3 (bo3 (bo3 r38 false true) true (bo3 r39 false true)) false true) (spec_l1In.f x37.V (-1000000000) 1000000000)).bind fun r40 =>
    bif (bo3 (bo3 (bo3 r38 false true) true (bo3 r39 false true)) true (bo3 r40 false true)) then (
    some false)
    else (
    spec_QueryOk.l0 a1 x20 K22 k (w64 (z35 + 1))))
    else (
    K22 ())
def spec_QueryOk.l1 (a1 : Query) (x20 : Int) (K55 : Unit → Option Bool) : Nat → Int → Option Bool
  | 0, _ => none
  | k + 1, z68 =>
    bif (decide (z68 < (lenI a1.Show))) then (
    (getO a1.Show z68).bind fun x70 =>
    (spec_l1In.f x70 0 (w64 (x20 - 1))).bind fun r71 =>
    (gd (bo3 (bo3 (bo3 r71 false true) false true) (decide (0 < z68)) false) (getO a1.Show (w64 (z68 - 1)))).bind fun x72 =>
    bif (bo3 (bo3 r71 false true) true (bo3 (decide (0 < z68)) (decide (x70 ≤ x72)) false)) then (
    some false)
    else (
    spec_QueryOk.l1 a1 x20 K55 k (w64 (z68 + 1))))
    else (
    K55 ())
def spec_QueryOk.f (a0 : Schema) (a1 : Query) : Option Bool :=
  (spec_SchemaOk.f a0).bind fun r1 =>
  (gd (bo3 (bo3 r1 false true) false true) (spec_l1In.f a1.Table 0 (w64 ((lenI a0.Cols) - 1)))).bind fun r2 =>
  bif (bo3 (bo3 (bo3 r1 false true) true (bo3 r2 false true)) true (decide (3 < (lenI a1.Where)))) then (
  some false)
  else (
  (getO a0.Cols a1.Table).bind fun x20 =>
  joinK (fun (y21 : Unit) =>
  joinK (fun (y54 : Unit) =>
  (spec_l1In.f a1.Order 0 x20).bind fun r94 =>
  (gd (bo3 (bo3 r94 false true) false true) (spec_l1In.f a1.First 0 24)).bind fun r95 =>
  bif (bo3 (bo3 (bo3 r94 false true) true (bo3 r95 false true)) true (bo3 (decide (a1.Order = 0)) a1.Down false)) then (
  some false)
  else (
  bif (bo3 a1.Kids false true) then (
  some (bo3 (decide (a1.KidTable = 0)) (decide (a1.KidCol = 0)) false))
  else (
  (spec_l1In.f a1.KidTable 0 (w64 ((lenI a0.Cols) - 1))).bind fun r120 =>
  (gd r120 (getO a0.Cols a1.KidTable)).bind fun x121 =>
  (gd r120 (spec_l1In.f a1.KidCol 0 (w64 (x121 - 1)))).bind fun r122 =>
  some (bo3 r120 r122 false)))) (fun K55 =>
  spec_QueryOk.l1 a1 x20 K55 (((lenI a1.Show) - 0).toNat + 1) 0)) (fun K22 =>
  spec_QueryOk.l0 a1 x20 K22 (((lenI a1.Where) - 0).toNat + 1) 0))

def spec_l9Copy.f (a0 : Query) : Option Query :=
  (appO 24 [] a0.Where).bind fun l1 =>
  (appO 8 [] a0.Show).bind fun l2 =>
  some (Query.mk a0.Table l1 a0.Order a0.Down a0.First l2 a0.Kids a0.KidTable a0.KidCol)

def spec_KidPut.l0 (a0 : List Kid) (a1 : Int) (a2 : Int) (K3 : (List Kid) → Bool → Option ((List Kid))) : Nat → (List Kid) → Bool → Int → Option ((List Kid))
  | 0, _, _, _ => none
  | k + 1, z10, z11, z12 =>
    bif (decide (z12 < (lenI a0))) then (
    (getO a0 z12).bind fun x14 =>
    bif (bo3 (bo3 z11 false true) (decide (a1 ≤ x14.Id)) false) then (
    joinK (fun (y22 : Int) =>
    joinK (fun (y25 : List Kid) =>
    bif (decide (x14.Id = a1)) then (
    spec_KidPut.l0 a0 a1 a2 K3 k y25 true (w64 (z12 + 1)))
    else (
    (some [x14]).bind fun l31 =>
    (appO 16 y25 l31).bind fun l32 =>
    spec_KidPut.l0 a0 a1 a2 K3 k l32 true (w64 (z12 + 1)))) (fun K26 =>
    bif (decide (0 < y22)) then (
    (some [(Kid.mk a1 y22)]).bind fun l28 =>
    (appO 16 z10 l28).bind fun l29 =>
    K26 l29)
    else (
    K26 z10))) (fun K23 =>
    bif (decide (x14.Id = a1)) then (
    K23 (w64 (x14.N + a2)))
    else (
    K23 a2)))
    else (
    (some [x14]).bind fun l33 =>
    (appO 16 z10 l33).bind fun l34 =>
    spec_KidPut.l0 a0 a1 a2 K3 k l34 z11 (w64 (z12 + 1))))
    else (
    K3 z10 z11)
def spec_KidPut.f (a0 : List Kid) (a1 : Int) (a2 : Int) : Option ((List Kid)) :=
  joinK (fun (y1 : List Kid) (y2 : Bool) =>
  bif (bo3 (bo3 y2 false true) (decide (0 < a2)) false) then (
  (some [(Kid.mk a1 a2)]).bind fun l40 =>
  (appO 16 y1 l40).bind fun l41 =>
  some l41)
  else (
  some y1)) (fun K3 =>
  spec_KidPut.l0 a0 a1 a2 K3 (((lenI a0) - 0).toNat + 1) [] false 0)

def spec_l9Holds.f (a0 : Cond) (a1 : Row) : Option Bool :=
  (spec_l1In.f a0.Col 0 (w64 ((lenI a1.Cells) - 1))).bind fun r1 =>
  bif (bo3 r1 false true) then (
  some false)
  else (
  (getO a1.Cells a0.Col).bind fun x3 =>
  bif (decide (a0.Op = 1)) then (
  some (decide (x3 = a0.V)))
  else (
  bif (decide (a0.Op = 2)) then (
  some (decide (x3 < a0.V)))
  else (
  bif (decide (a0.Op = 3)) then (
  some (decide (a0.V < x3)))
  else (
  bif (decide (a0.Op = 4)) then (
  some (decide (x3 ≠ a0.V)))
  else (
  some false)))))

def spec_Matches.l0 (a0 : Query) (a1 : Row) : Nat → Int → Option Bool
  | 0, _ => none
  | k + 1, z13 =>
    bif (decide (z13 < (lenI a0.Where))) then (
    (getO a0.Where z13).bind fun x15 =>
    (spec_l9Holds.f x15 a1).bind fun r16 =>
    bif (bo3 r16 false true) then (
    some false)
    else (
    spec_Matches.l0 a0 a1 k (w64 (z13 + 1))))
    else (
    some true)
def spec_Matches.f (a0 : Query) (a1 : Row) : Option Bool :=
  spec_Matches.l0 a0 a1 (((lenI a0.Where) - 0).toNat + 1) 0

def spec_l9Cell.f (a0 : Row) (a1 : Int) : Option Int :=
  (spec_l1In.f a1 0 (w64 ((lenI a0.Cells) - 1))).bind fun r1 =>
  bif (bo3 r1 false true) then (
  some 0)
  else (
  (getO a0.Cells a1).bind fun x3 =>
  some x3)

def spec_Ahead.f (a0 : Query) (a1 : Row) (a2 : Row) : Option Bool :=
  bif (decide (a0.Order ≠ 0)) then (
  (spec_l9Cell.f a1 (w64 (a0.Order - 1))).bind fun r2 =>
  (spec_l9Cell.f a2 (w64 (a0.Order - 1))).bind fun r3 =>
  bif (decide (r2 ≠ r3)) then (
  some (bo3 (decide (r2 < r3)) (bo3 a0.Down false true) a0.Down))
  else (
  some (decide (a1.Id < a2.Id))))
  else (
  some (decide (a1.Id < a2.Id)))

def spec_l6Copy.f (a0 : Row) : Option Row :=
  (appO 8 [] a0.Cells).bind fun l1 =>
  some (Row.mk a0.Id l1)

def spec_l11Put.l0 (a0 : Query) (a1 : List Row) (a2 : Row) (K4 : (List Row) → Bool → Int → Option ((List Row))) : Nat → (List Row) → Bool → Int → Option ((List Row))
  | 0, _, _, _ => none
  | k + 1, z20, z21, z22 =>
    bif (decide (z22 < (lenI a1))) then (
    (gd (bo3 z21 false true) (getO a1 z22)).bind fun x24 =>
    (gd (bo3 z21 false true) (spec_Ahead.f a0 a2 x24)).bind fun r25 =>
    bif (bo3 (bo3 z21 false true) r25 false) then (
    (spec_l6Copy.f a2).bind fun r36 =>
    (some [r36]).bind fun l37 =>
    (appO 32 z20 l37).bind fun l38 =>
    (getO a1 z22).bind fun x39 =>
    (ltO z22).bind fun u40 =>
    (some [x39]).bind fun l41 =>
    (appO 32 l38 l41).bind fun l42 =>
    spec_l11Put.l0 a0 a1 a2 K4 k l42 true (w64 (z22 + 1)))
    else (
    (getO a1 z22).bind fun x43 =>
    (ltO z22).bind fun u44 =>
    (some [x43]).bind fun l45 =>
    (appO 32 z20 l45).bind fun l46 =>
    spec_l11Put.l0 a0 a1 a2 K4 k l46 z21 (w64 (z22 + 1))))
    else (
    K4 z20 z21 z22)
def spec_l11Put.f (a0 : Query) (a1 : List Row) (a2 : Row) : Option ((List Row)) :=
  joinK (fun (y1 : List Row) (y2 : Bool) (y3 : Int) =>
  bif (bo3 y2 false true) then (
  (spec_l6Copy.f a2).bind fun r48 =>
  (some [r48]).bind fun l49 =>
  (appO 32 y1 l49).bind fun l50 =>
  some l50)
  else (
  some y1)) (fun K4 =>
  spec_l11Put.l0 a0 a1 a2 K4 (((lenI a1) - 0).toNat + 1) [] false 0)

def spec_RowsFor.l0 (a1 : Query) (x11 : List Row) : Nat → (List Row) → Int → Option ((List Row))
  | 0, _, _ => none
  | k + 1, z24, z25 =>
    bif (decide (z25 < (lenI x11))) then (
    (getO x11 z25).bind fun x27 =>
    (spec_Matches.f a1 x27).bind fun r28 =>
    bif r28 then (
    (spec_l11Put.f a1 z24 x27).bind fun r30 =>
    spec_RowsFor.l0 a1 x11 k r30 (w64 (z25 + 1)))
    else (
    spec_RowsFor.l0 a1 x11 k z24 (w64 (z25 + 1))))
    else (
    some z24)
def spec_RowsFor.f (a0 : Store) (a1 : Query) : Option ((List Row)) :=
  (spec_StoreOk.f a0).bind fun r1 =>
  (gd (bo3 (bo3 r1 false true) false true) (spec_QueryOk.f a0.Schema a1)).bind fun r2 =>
  bif (bo3 (bo3 r1 false true) true (bo3 r2 false true)) then (
  some [])
  else (
  (getO a0.Tables a1.Table).bind fun x11 =>
  spec_RowsFor.l0 a1 x11 (((lenI x11) - 0).toNat + 1) [] 0)

def spec_ViewOf.l0 (a1 : Query) (r11 : Query) (r12 : (List Row)) (x13 : List Row) : Nat → (List Kid) → Int → Option (View × Bool)
  | 0, _, _ => none
  | k + 1, z71, z72 =>
    bif (bo3 (decide (z72 < (lenI x13))) a1.Kids false) then (
    (getO x13 z72).bind fun x78 =>
    (getO x78.Cells a1.KidCol).bind fun x79 =>
    (spec_KidPut.f z71 x79 1).bind fun r80 =>
    spec_ViewOf.l0 a1 r11 r12 x13 k r80 (w64 (z72 + 1)))
    else (
    some ((View.mk r11 r12 z71), true))
def spec_ViewOf.f (a0 : Store) (a1 : Query) : Option (View × Bool) :=
  (spec_StoreOk.f a0).bind fun r1 =>
  (gd (bo3 (bo3 r1 false true) false true) (spec_QueryOk.f a0.Schema a1)).bind fun r2 =>
  bif (bo3 (bo3 r1 false true) true (bo3 r2 false true)) then (
  some ((View.mk (Query.mk 0 [] 0 false 0 [] false 0 0) [] []), false))
  else (
  (spec_l9Copy.f a1).bind fun r11 =>
  (spec_RowsFor.f a0 a1).bind fun r12 =>
  (getO a0.Tables a1.KidTable).bind fun x13 =>
  spec_ViewOf.l0 a1 r11 r12 x13 (((lenI x13) - 0).toNat + 1) [] 0)

def impl_within.f (a0 : Int) (a1 : Int) (a2 : Int) : Option Bool :=
  some (bo3 (decide (a1 ≤ a0)) (decide (a0 ≤ a2)) false)

def impl_SchemaOk.l0 (a0 : Schema) (K2 : Unit → Option Bool) : Nat → Int → Option Bool
  | 0, _ => none
  | k + 1, z7 =>
    bif (decide (z7 < (lenI a0.Cols))) then (
    (getO a0.Cols z7).bind fun x9 =>
    (impl_within.f x9 1 4).bind fun r10 =>
    bif (bo3 r10 false true) then (
    some false)
    else (
    impl_SchemaOk.l0 a0 K2 k (w64 (z7 + 1))))
    else (
    K2 ())
def impl_SchemaOk.f (a0 : Schema) : Option Bool :=
  joinK (fun (y1 : Unit) =>
  (impl_within.f (lenI a0.Cols) 1 3).bind fun r12 =>
  some r12) (fun K2 =>
  impl_SchemaOk.l0 a0 K2 (((lenI a0.Cols) - 0).toNat + 1) 0)

def impl_isVersion.f (a0 : Int) : Option Bool :=
  (impl_within.f a0 0 100000).bind fun r1 =>
  some r1

def impl_hasTable.f (a0 : Schema) (a1 : Int) : Option Bool :=
  (impl_within.f a1 0 (w64 ((lenI a0.Cols) - 1))).bind fun r1 =>
  some r1

def impl_isNum.f (a0 : Int) : Option Bool :=
  (impl_within.f a0 (-1000000000) 1000000000).bind fun r1 =>
  some r1

def impl_RowOk.l0 (a2 : Row) (K2 : Unit → Option Bool) : Nat → Int → Option Bool
  | 0, _ => none
  | k + 1, z10 =>
    bif (decide (z10 < (lenI a2.Cells))) then (
    (getO a2.Cells z10).bind fun x12 =>
    (impl_isNum.f x12).bind fun r13 =>
    bif (bo3 r13 false true) then (
    some false)
    else (
    impl_RowOk.l0 a2 K2 k (w64 (z10 + 1))))
    else (
    K2 ())
def impl_RowOk.f (a0 : Schema) (a1 : Int) (a2 : Row) : Option Bool :=
  joinK (fun (y1 : Unit) =>
  (impl_SchemaOk.f a0).bind fun r15 =>
  (gd r15 (impl_hasTable.f a0 a1)).bind fun r16 =>
  (gd (bo3 r15 r16 false) (getO a0.Cols a1)).bind fun x17 =>
  (gd (bo3 (bo3 r15 r16 false) (decide ((lenI a2.Cells) = x17)) false) (impl_within.f a2.Id 1 999)).bind fun r18 =>
  some (bo3 (bo3 (bo3 r15 r16 false) (decide ((lenI a2.Cells) = x17)) false) r18 false)) (fun K2 =>
  impl_RowOk.l0 a2 K2 (((lenI a2.Cells) - 0).toNat + 1) 0)

def impl_RowsOk.l0 (a0 : Schema) (a1 : Int) (a2 : List Row) (K2 : Unit → Option Bool) : Nat → Int → Option Bool
  | 0, _ => none
  | k + 1, z9 =>
    bif (decide (z9 < (lenI a2))) then (
    (getO a2 z9).bind fun x11 =>
    (impl_RowOk.f a0 a1 x11).bind fun r12 =>
    (gd (bo3 (bo3 (bo3 r12 false true) false true) (decide (0 < z9)) false) (getO a2 (w64 (z9 - 1)))).bind fun x13 =>
    bif (bo3 (bo3 r12 false true) true (bo3 (decide (0 < z9)) (decide (x11.Id ≤ x13.Id)) false)) then (
    some false)
    else (
    impl_RowsOk.l0 a0 a1 a2 K2 k (w64 (z9 + 1))))
    else (
    K2 ())
def impl_RowsOk.f (a0 : Schema) (a1 : Int) (a2 : List Row) : Option Bool :=
  joinK (fun (y1 : Unit) =>
  (impl_SchemaOk.f a0).bind fun r32 =>
  (gd r32 (impl_hasTable.f a0 a1)).bind fun r33 =>
  some (bo3 (bo3 r32 r33 false) (decide ((lenI a2) ≤ 24)) false)) (fun K2 =>
  impl_RowsOk.l0 a0 a1 a2 K2 (((lenI a2) - 0).toNat + 1) 0)

def impl_StoreOk.l0 (a0 : Store) : Nat → Int → Option Bool
  | 0, _ => none
  | k + 1, z26 =>
    bif (decide (z26 < (lenI a0.Tables))) then (
    (getO a0.Tables z26).bind fun x28 =>
    (impl_RowsOk.f a0.Schema z26 x28).bind fun r29 =>
    bif (bo3 r29 false true) then (
    some false)
    else (
    impl_StoreOk.l0 a0 k (w64 (z26 + 1))))
    else (
    some true)
def impl_StoreOk.f (a0 : Store) : Option Bool :=
  (impl_SchemaOk.f a0.Schema).bind fun r1 =>
  (gd (bo3 (bo3 r1 false true) false true) (impl_isVersion.f a0.Version)).bind fun r2 =>
  bif (bo3 (bo3 (bo3 r1 false true) true (bo3 r2 false true)) true (decide ((lenI a0.Tables) ≠ (lenI a0.Schema.Cols)))) then (
  some false)
  else (
  impl_StoreOk.l0 a0 (((lenI a0.Tables) - 0).toNat + 1) 0)

def impl_kidsFit.f (a0 : Schema) (a1 : Query) : Option Bool :=
  bif (bo3 a1.Kids false true) then (
  some (bo3 (decide (a1.KidTable = 0)) (decide (a1.KidCol = 0)) false))
  else (
  (impl_hasTable.f a0 a1.KidTable).bind fun r7 =>
  (gd r7 (getO a0.Cols a1.KidTable)).bind fun x8 =>
  (gd r7 (impl_within.f a1.KidCol 0 (w64 (x8 - 1)))).bind fun r9 =>
  some (bo3 r7 r9 false))

def impl_QueryOk.l0 (a1 : Query) (x11 : Int) (K13 : Unit → Option Bool) : Nat → Int → Option Bool
  | 0, _ => none
  | k + 1, z28 =>
    bif (decide (z28 < (lenI a1.Where))) then (
    (getO a1.Where z28).bind fun x30 =>
    (impl_within.f x30.Col 0 (w64 (x11 - 1))).bind fun r31 =>
    (gd (bo3 (bo3 r31 false true) false true) (impl_within.f x30.Op 1 4)).bind fun r32 =>
    (gd (bo3 (bo3 (bo3 r31 false true) true (bo3 r32 false true)) false true) (impl_isNum.f x30.V)).bind fun r33 =>
    bif (bo3 (bo3 (bo3 r31 false true) true (bo3 r32 false true)) true (bo3 r33 false true)) then (
    some false)
    else (
    impl_QueryOk.l0 a1 x11 K13 k (w64 (z28 + 1))))
    else (
    K13 ())
def impl_QueryOk.l1 (a1 : Query) (x11 : Int) (K48 : Unit → Option Bool) : Nat → Int → Option Bool
  | 0, _ => none
  | k + 1, z63 =>
    bif (decide (z63 < (lenI a1.Show))) then (
    (getO a1.Show z63).bind fun x65 =>
    (impl_within.f x65 0 (w64 (x11 - 1))).bind fun r66 =>
    (gd (bo3 (bo3 (bo3 r66 false true) false true) (decide (0 < z63)) false) (getO a1.Show (w64 (z63 - 1)))).bind fun x67 =>
    bif (bo3 (bo3 r66 false true) true (bo3 (decide (0 < z63)) (decide (x65 ≤ x67)) false)) then (
    some false)
    else (
    impl_QueryOk.l1 a1 x11 K48 k (w64 (z63 + 1))))
    else (
    K48 ())
def impl_QueryOk.f (a0 : Schema) (a1 : Query) : Option Bool :=
  (impl_SchemaOk.f a0).bind fun r1 =>
  (gd (bo3 (bo3 r1 false true) false true) (impl_hasTable.f a0 a1.Table)).bind fun r2 =>
  bif (bo3 (bo3 r1 false true) true (bo3 r2 false true)) then (
  some false)
  else (
  (getO a0.Cols a1.Table).bind fun x11 =>
  joinK (fun (y12 : Unit) =>
  joinK (fun (y47 : Unit) =>
  (impl_within.f a1.Order 0 x11).bind fun r85 =>
  (gd (bo3 (decide ((lenI a1.Where) ≤ 3)) (bo3 r85 (bo3 (bo3 a1.Down false true) true (decide (0 < a1.Order))) false) false) (impl_within.f a1.First 0 24)).bind fun r98 =>
  (gd (bo3 (bo3 (decide ((lenI a1.Where) ≤ 3)) (bo3 r85 (bo3 (bo3 a1.Down false true) true (decide (0 < a1.Order))) false) false) r98 false) (impl_kidsFit.f a0 a1)).bind fun r99 =>
  some (bo3 (bo3 (bo3 (decide ((lenI a1.Where) ≤ 3)) (bo3 r85 (bo3 (bo3 a1.Down false true) true (decide (0 < a1.Order))) false) false) r98 false) r99 false)) (fun K48 =>
  impl_QueryOk.l1 a1 x11 K48 (((lenI a1.Show) - 0).toNat + 1) 0)) (fun K13 =>
  impl_QueryOk.l0 a1 x11 K13 (((lenI a1.Where) - 0).toNat + 1) 0))

def impl_holds.f (a0 : Cond) (a1 : Row) : Option Bool :=
  (impl_within.f a0.Col 0 (w64 ((lenI a1.Cells) - 1))).bind fun r1 =>
  bif (bo3 r1 false true) then (
  some false)
  else (
  (getO a1.Cells a0.Col).bind fun x3 =>
  bif (decide (a0.Op = 1)) then (
  some (decide (x3 = a0.V)))
  else (
  bif (decide (a0.Op = 2)) then (
  some (decide (x3 < a0.V)))
  else (
  bif (decide (a0.Op = 3)) then (
  some (decide (a0.V < x3)))
  else (
  some (bo3 (decide (a0.Op = 4)) (decide (x3 ≠ a0.V)) false)))))

def impl_Matches.l0 (a0 : Query) (a1 : Row) : Nat → Int → Option Bool
  | 0, _ => none
  | k + 1, z6 =>
    bif (decide (z6 < (lenI a0.Where))) then (
    (getO a0.Where z6).bind fun x8 =>
    (impl_holds.f x8 a1).bind fun r9 =>
    bif (bo3 r9 false true) then (
    some false)
    else (
    impl_Matches.l0 a0 a1 k (w64 (z6 + 1))))
    else (
    some true)
def impl_Matches.f (a0 : Query) (a1 : Row) : Option Bool :=
  impl_Matches.l0 a0 a1 (((lenI a0.Where) - 0).toNat + 1) 0

def impl_copyInts.f (a0 : List Int) : Option ((List Int)) :=
  (appO 8 [] a0).bind fun l1 =>
  some l1

def impl_copyRow.f (a0 : Row) : Option Row :=
  (impl_copyInts.f a0.Cells).bind fun r1 =>
  some (Row.mk a0.Id r1)

def impl_cellOf.f (a0 : Row) (a1 : Int) : Option Int :=
  (impl_within.f a1 0 (w64 ((lenI a0.Cells) - 1))).bind fun r1 =>
  bif (bo3 r1 false true) then (
  some 0)
  else (
  (getO a0.Cells a1).bind fun x3 =>
  some x3)

def impl_Ahead.f (a0 : Query) (a1 : Row) (a2 : Row) : Option Bool :=
  bif (decide (a0.Order = 0)) then (
  some (decide (a1.Id < a2.Id)))
  else (
  (impl_cellOf.f a1 (w64 (a0.Order - 1))).bind fun r2 =>
  (impl_cellOf.f a2 (w64 (a0.Order - 1))).bind fun r3 =>
  bif (decide (r2 = r3)) then (
  some (decide (a1.Id < a2.Id)))
  else (
  bif a0.Down then (
  some (decide (r3 < r2)))
  else (
  some (decide (r2 < r3)))))

def impl_RowsFor_1.f (a0 : Row) (a1 : Row) (a2 : Query) : Option Int :=
  (impl_Ahead.f a2 a0 a1).bind fun r1 =>
  bif r1 then (
  some (-1))
  else (
  some 1)

def slices_insertionSortCmpFunc_impl_Row__impl_RowsFor_1.l1 (a1 : Int) (a3c0 : Query) (K18 : (List Row) → Option ((List Row))) : Nat → (List Row) → Int → Option ((List Row))
  | 0, _, _ => none
  | k + 1, z33, z34 =>
    (gd (decide (a1 < z34)) (getO z33 z34)).bind fun x35 =>
    (gd (decide (a1 < z34)) (getO z33 (w64 (z34 - 1)))).bind fun x36 =>
    (gd (decide (a1 < z34)) (impl_RowsFor_1.f x35 x36 a3c0)).bind fun r37 =>
    bif (bo3 (decide (a1 < z34)) (decide (r37 < 0)) false) then (
    (getO z33 (w64 (z34 - 1))).bind fun x53 =>
    (getO z33 z34).bind fun x54 =>
    (neO (w64 (z34 - 1)) z34).bind fun u55 =>
    (some (setI (setI z33 z34 x53) (w64 (z34 - 1)) x54)).bind fun l56 =>
    slices_insertionSortCmpFunc_impl_Row__impl_RowsFor_1.l1 a1 a3c0 K18 k l56 (w64 (z34 - 1)))
    else (
    K18 z33)
def slices_insertionSortCmpFunc_impl_Row__impl_RowsFor_1.l0 (a1 : Int) (a2 : Int) (a3c0 : Query) : Nat → (List Row) → Int → Option ((List Row))
  | 0, _, _ => none
  | k + 1, z14, z15 =>
    bif (decide (z15 < a2)) then (
    joinK (fun (y17 : List Row) =>
    slices_insertionSortCmpFunc_impl_Row__impl_RowsFor_1.l0 a1 a2 a3c0 k y17 (w64 (z15 + 1))) (fun K18 =>
    slices_insertionSortCmpFunc_impl_Row__impl_RowsFor_1.l1 a1 a3c0 K18 ((z15 - a1).toNat + 1) z14 z15))
    else (
    some z14)
def slices_insertionSortCmpFunc_impl_Row__impl_RowsFor_1.f (a0 : List Row) (a1 : Int) (a2 : Int) (a3c0 : Query) : Option ((List Row)) :=
  slices_insertionSortCmpFunc_impl_Row__impl_RowsFor_1.l0 a1 a2 a3c0 ((a2 - (w64 (a1 + 1))).toNat + 1) a0 (w64 (a1 + 1))

def slices_swapRangeCmpFunc_impl_Row__impl_RowsFor_1.l0 (a1 : Int) (a2 : Int) (a3 : Int) : Nat → (List Row) → Int → Option ((List Row))
  | 0, _, _ => none
  | k + 1, z6, z7 =>
    bif (decide (z7 < a3)) then (
    (getO z6 (w64 (a2 + z7))).bind fun x9 =>
    (getO z6 (w64 (a1 + z7))).bind fun x10 =>
    (neO (w64 (a2 + z7)) (w64 (a1 + z7))).bind fun u11 =>
    (some (setI (setI z6 (w64 (a1 + z7)) x9) (w64 (a2 + z7)) x10)).bind fun l12 =>
    slices_swapRangeCmpFunc_impl_Row__impl_RowsFor_1.l0 a1 a2 a3 k l12 (w64 (z7 + 1)))
    else (
    some z6)
def slices_swapRangeCmpFunc_impl_Row__impl_RowsFor_1.f (a0 : List Row) (a1 : Int) (a2 : Int) (a3 : Int) (a4c0 : Query) : Option ((List Row)) :=
  slices_swapRangeCmpFunc_impl_Row__impl_RowsFor_1.l0 a1 a2 a3 ((a3 - 0).toNat + 1) a0 0

def slices_rotateCmpFunc_impl_Row__impl_RowsFor_1.l0 (a2 : Int) (a4c0 : Query) (K3 : (List Row) → Int → Option ((List Row))) : Nat → (List Row) → Int → Int → Option ((List Row))
  | 0, _, _, _ => none
  | k + 1, z17, z18, z19 =>
    bif (decide (z18 ≠ z19)) then (
    bif (decide (z19 < z18)) then (
    (slices_swapRangeCmpFunc_impl_Row__impl_RowsFor_1.f z17 (w64 (a2 - z18)) a2 z19 a4c0).bind fun r22 =>
    slices_rotateCmpFunc_impl_Row__impl_RowsFor_1.l0 a2 a4c0 K3 k r22 (w64 (z18 - z19)) z19)
    else (
    (slices_swapRangeCmpFunc_impl_Row__impl_RowsFor_1.f z17 (w64 (a2 - z18)) (w64 ((w64 (a2 + z19)) - z18)) z18 a4c0).bind fun r23 =>
    slices_rotateCmpFunc_impl_Row__impl_RowsFor_1.l0 a2 a4c0 K3 k r23 z18 (w64 (z19 - z18))))
    else (
    K3 z17 z18)
def slices_rotateCmpFunc_impl_Row__impl_RowsFor_1.f (a0 : List Row) (a1 : Int) (a2 : Int) (a3 : Int) (a4c0 : Query) : Option ((List Row)) :=
  joinK (fun (y1 : List Row) (y2 : Int) =>
  (slices_swapRangeCmpFunc_impl_Row__impl_RowsFor_1.f y1 (w64 (a2 - y2)) a2 y2 a4c0).bind fun r24 =>
  some r24) (fun K3 =>
  slices_rotateCmpFunc_impl_Row__impl_RowsFor_1.l0 a2 a4c0 K3 1000 a0 (w64 (a2 - a1)) (w64 (a3 - a2)))

def slices_symMergeCmpFunc_impl_Row__impl_RowsFor_1.l0 (a0 : List Row) (a1 : Int) (a4c0 : Query) (K5 : Int → Option ((List Row))) : Nat → Int → Int → Option ((List Row))
  | 0, _, _ => none
  | k + 1, z19, z20 =>
    bif (decide (z19 < z20)) then (
    (getO a0 (w64 (Ls.ar .shr .u64 (IntKind.wrap .u64 (w64 (z19 + z20))) 1))).bind fun x22 =>
    (getO a0 a1).bind fun x23 =>
    (impl_RowsFor_1.f x22 x23 a4c0).bind fun r24 =>
    bif (decide (r24 < 0)) then (
    slices_symMergeCmpFunc_impl_Row__impl_RowsFor_1.l0 a0 a1 a4c0 K5 k (w64 ((w64 (Ls.ar .shr .u64 (IntKind.wrap .u64 (w64 (z19 + z20))) 1)) + 1)) z20)
    else (
    slices_symMergeCmpFunc_impl_Row__impl_RowsFor_1.l0 a0 a1 a4c0 K5 k z19 (w64 (Ls.ar .shr .u64 (IntKind.wrap .u64 (w64 (z19 + z20))) 1))))
    else (
    K5 z19)
def slices_symMergeCmpFunc_impl_Row__impl_RowsFor_1.l1 (y4 : Int) : Nat → (List Row) → Int → Option ((List Row))
  | 0, _, _ => none
  | k + 1, z29, z30 =>
    bif (decide (z30 < (w64 (y4 - 1)))) then (
    (getO z29 (w64 (z30 + 1))).bind fun x32 =>
    (getO z29 z30).bind fun x33 =>
    (neO (w64 (z30 + 1)) z30).bind fun u34 =>
    (some (setI (setI z29 z30 x32) (w64 (z30 + 1)) x33)).bind fun l35 =>
    slices_symMergeCmpFunc_impl_Row__impl_RowsFor_1.l1 y4 k l35 (w64 (z30 + 1)))
    else (
    some z29)
def slices_symMergeCmpFunc_impl_Row__impl_RowsFor_1.l2 (a0 : List Row) (a2 : Int) (a4c0 : Query) (K40 : Int → Option ((List Row))) : Nat → Int → Int → Option ((List Row))
  | 0, _, _ => none
  | k + 1, z54, z55 =>
    bif (decide (z54 < z55)) then (
    (getO a0 a2).bind fun x57 =>
    (getO a0 (w64 (Ls.ar .shr .u64 (IntKind.wrap .u64 (w64 (z54 + z55))) 1))).bind fun x58 =>
    (impl_RowsFor_1.f x57 x58 a4c0).bind fun r59 =>
    bif (bo3 (decide (r59 < 0)) false true) then (
    slices_symMergeCmpFunc_impl_Row__impl_RowsFor_1.l2 a0 a2 a4c0 K40 k (w64 ((w64 (Ls.ar .shr .u64 (IntKind.wrap .u64 (w64 (z54 + z55))) 1)) + 1)) z55)
    else (
    slices_symMergeCmpFunc_impl_Row__impl_RowsFor_1.l2 a0 a2 a4c0 K40 k z54 (w64 (Ls.ar .shr .u64 (IntKind.wrap .u64 (w64 (z54 + z55))) 1))))
    else (
    K40 z54)
def slices_symMergeCmpFunc_impl_Row__impl_RowsFor_1.l3 (y39 : Int) : Nat → (List Row) → Int → Option ((List Row))
  | 0, _, _ => none
  | k + 1, z64, z65 =>
    bif (decide (y39 < z65)) then (
    (getO z64 (w64 (z65 - 1))).bind fun x67 =>
    (getO z64 z65).bind fun x68 =>
    (neO (w64 (z65 - 1)) z65).bind fun u69 =>
    (some (setI (setI z64 z65 x67) (w64 (z65 - 1)) x68)).bind fun l70 =>
    slices_symMergeCmpFunc_impl_Row__impl_RowsFor_1.l3 y39 k l70 (w64 (z65 - 1)))
    else (
    some z64)
def slices_symMergeCmpFunc_impl_Row__impl_RowsFor_1.l4 (a0 : List Row) (a4c0 : Query) (K78 : Int → Option ((List Row))) : Nat → Int → Int → Int → Option ((List Row))
  | 0, _, _, _ => none
  | k + 1, z97, z98, z99 =>
    bif (decide (z97 < z98)) then (
    (getO a0 (w64 (z99 - (w64 (Ls.ar .shr .u64 (IntKind.wrap .u64 (w64 (z97 + z98))) 1))))).bind fun x101 =>
    (getO a0 (w64 (Ls.ar .shr .u64 (IntKind.wrap .u64 (w64 (z97 + z98))) 1))).bind fun x102 =>
    (impl_RowsFor_1.f x101 x102 a4c0).bind fun r103 =>
    bif (bo3 (decide (r103 < 0)) false true) then (
    slices_symMergeCmpFunc_impl_Row__impl_RowsFor_1.l4 a0 a4c0 K78 k (w64 ((w64 (Ls.ar .shr .u64 (IntKind.wrap .u64 (w64 (z97 + z98))) 1)) + 1)) z98 z99)
    else (
    slices_symMergeCmpFunc_impl_Row__impl_RowsFor_1.l4 a0 a4c0 K78 k z97 (w64 (Ls.ar .shr .u64 (IntKind.wrap .u64 (w64 (z97 + z98))) 1)) z99))
    else (
    K78 z97)
def slices_symMergeCmpFunc_impl_Row__impl_RowsFor_1.b (self : (List Row) → Int → Int → Int → Query → Option ((List Row))) (a0 : List Row) (a1 : Int) (a2 : Int) (a3 : Int) (a4c0 : Query) : Option ((List Row)) :=
  joinK (fun (y1 : Unit) =>
  joinK (fun (y36 : Unit) =>
  joinK (fun (y71 : Int) (y72 : Int) (y73 : Int) (y74 : Int) =>
  joinK (fun (y77 : Int) =>
  joinK (fun (y105 : List Row) (y106 : Int) =>
  joinK (fun (y115 : List Row) =>
  bif (bo3 (decide (y71 < y106)) (decide (y106 < a3)) false) then (
  (self y115 y71 y106 a3 a4c0).bind fun r130 =>
  some r130)
  else (
  some y115)) (fun K116 =>
  bif (bo3 (decide (a1 < y77)) (decide (y77 < y71)) false) then (
  (self y105 a1 y77 y71 a4c0).bind fun r123 =>
  K116 r123)
  else (
  K116 y105))) (fun K107 =>
  bif (bo3 (decide (y77 < a2)) (decide (a2 < (w64 (y72 - y77)))) false) then (
  (slices_rotateCmpFunc_impl_Row__impl_RowsFor_1.f a0 y77 a2 (w64 (y72 - y77)) a4c0).bind fun r114 =>
  K107 r114 (w64 (y72 - y77)))
  else (
  K107 a0 (w64 (y72 - y77))))) (fun K78 =>
  slices_symMergeCmpFunc_impl_Row__impl_RowsFor_1.l4 a0 a4c0 K78 ((y74 - y73).toNat + 1) y73 y74 (w64 (y72 - 1)))) (fun K75 =>
  bif (decide ((w64 (Ls.ar .shr .u64 (IntKind.wrap .u64 (w64 (a1 + a3))) 1)) < a2)) then (
  K75 (w64 (Ls.ar .shr .u64 (IntKind.wrap .u64 (w64 (a1 + a3))) 1)) (w64 ((w64 (Ls.ar .shr .u64 (IntKind.wrap .u64 (w64 (a1 + a3))) 1)) + a2)) (w64 ((w64 ((w64 (Ls.ar .shr .u64 (IntKind.wrap .u64 (w64 (a1 + a3))) 1)) + a2)) - a3)) (w64 (Ls.ar .shr .u64 (IntKind.wrap .u64 (w64 (a1 + a3))) 1)))
  else (
  K75 (w64 (Ls.ar .shr .u64 (IntKind.wrap .u64 (w64 (a1 + a3))) 1)) (w64 ((w64 (Ls.ar .shr .u64 (IntKind.wrap .u64 (w64 (a1 + a3))) 1)) + a2)) a1 a2))) (fun K37 =>
  bif (decide ((w64 (a3 - a2)) = 1)) then (
  joinK (fun (y39 : Int) =>
  slices_symMergeCmpFunc_impl_Row__impl_RowsFor_1.l3 y39 ((a2 - y39).toNat + 1) a0 a2) (fun K40 =>
  slices_symMergeCmpFunc_impl_Row__impl_RowsFor_1.l2 a0 a2 a4c0 K40 ((a2 - a1).toNat + 1) a1 a2))
  else (
  K37 ()))) (fun K2 =>
  bif (decide ((w64 (a2 - a1)) = 1)) then (
  joinK (fun (y4 : Int) =>
  slices_symMergeCmpFunc_impl_Row__impl_RowsFor_1.l1 y4 (((w64 (y4 - 1)) - a1).toNat + 1) a0 a1) (fun K5 =>
  slices_symMergeCmpFunc_impl_Row__impl_RowsFor_1.l0 a0 a1 a4c0 K5 ((a3 - a2).toNat + 1) a2 a3))
  else (
  K2 ()))
def slices_symMergeCmpFunc_impl_Row__impl_RowsFor_1.g : Nat → (List Row) → Int → Int → Int → Query → Option ((List Row))
  | 0 => fun _ _ _ _ _ => none
  | k + 1 => slices_symMergeCmpFunc_impl_Row__impl_RowsFor_1.b (slices_symMergeCmpFunc_impl_Row__impl_RowsFor_1.g k)
def slices_symMergeCmpFunc_impl_Row__impl_RowsFor_1.f (a0 : List Row) (a1 : Int) (a2 : Int) (a3 : Int) (a4c0 : Query) : Option ((List Row)) := slices_symMergeCmpFunc_impl_Row__impl_RowsFor_1.g 1000 a0 a1 a2 a3 a4c0

def slices_stableCmpFunc_impl_Row__impl_RowsFor_1.l0 (a1 : Int) (a2c0 : Query) (K3 : (List Row) → Int → Option ((List Row))) : Nat → (List Row) → Int → Int → Option ((List Row))
  | 0, _, _, _ => none
  | k + 1, z18, z19, z20 =>
    bif (decide (z20 ≤ a1)) then (
    (slices_insertionSortCmpFunc_impl_Row__impl_RowsFor_1.f z18 z19 z20 a2c0).bind fun r22 =>
    slices_stableCmpFunc_impl_Row__impl_RowsFor_1.l0 a1 a2c0 K3 k r22 z20 (w64 (z20 + 20)))
    else (
    K3 z18 z19)
def slices_stableCmpFunc_impl_Row__impl_RowsFor_1.l2 (a1 : Int) (a2c0 : Query) (z37 : Int) (K41 : (List Row) → Int → Option ((List Row))) : Nat → (List Row) → Int → Int → Option ((List Row))
  | 0, _, _, _ => none
  | k + 1, z56, z57, z58 =>
    bif (decide (z58 ≤ a1)) then (
    (slices_symMergeCmpFunc_impl_Row__impl_RowsFor_1.f z56 z57 (w64 (z57 + z37)) z58 a2c0).bind fun r60 =>
    slices_stableCmpFunc_impl_Row__impl_RowsFor_1.l2 a1 a2c0 z37 K41 k r60 z58 (w64 (z58 + (w64 (2 * z37)))))
    else (
    K41 z56 z57)
def slices_stableCmpFunc_impl_Row__impl_RowsFor_1.l1 (a1 : Int) (a2c0 : Query) : Nat → (List Row) → Int → Option ((List Row))
  | 0, _, _ => none
  | k + 1, z36, z37 =>
    bif (decide (z37 < a1)) then (
    joinK (fun (y39 : List Row) (y40 : Int) =>
    bif (decide ((w64 (y40 + z37)) < a1)) then (
    (slices_symMergeCmpFunc_impl_Row__impl_RowsFor_1.f y39 y40 (w64 (y40 + z37)) a1 a2c0).bind fun r62 =>
    slices_stableCmpFunc_impl_Row__impl_RowsFor_1.l1 a1 a2c0 k r62 (w64 (z37 * 2)))
    else (
    slices_stableCmpFunc_impl_Row__impl_RowsFor_1.l1 a1 a2c0 k y39 (w64 (z37 * 2)))) (fun K41 =>
    slices_stableCmpFunc_impl_Row__impl_RowsFor_1.l2 a1 a2c0 z37 K41 ((a1 - (w64 (2 * z37))).toNat + 2) z36 0 (w64 (2 * z37))))
    else (
    some z36)
def slices_stableCmpFunc_impl_Row__impl_RowsFor_1.f (a0 : List Row) (a1 : Int) (a2c0 : Query) : Option ((List Row)) :=
  joinK (fun (y1 : List Row) (y2 : Int) =>
  (slices_insertionSortCmpFunc_impl_Row__impl_RowsFor_1.f y1 y2 a1 a2c0).bind fun r23 =>
  slices_stableCmpFunc_impl_Row__impl_RowsFor_1.l1 a1 a2c0 ((a1 - 20).toNat + 1) r23 20) (fun K3 =>
  slices_stableCmpFunc_impl_Row__impl_RowsFor_1.l0 a1 a2c0 K3 ((a1 - 20).toNat + 2) a0 0 20)

def slices_SortStableFunc_impl_Row__impl_RowsFor_1.f (a0 : List Row) (a1c0 : Query) : Option ((List Row)) :=
  (slices_stableCmpFunc_impl_Row__impl_RowsFor_1.f a0 (lenI a0) a1c0).bind fun r1 =>
  some r1

def impl_RowsFor.l0 (a1 : Query) (x13 : List Row) (K12 : (List Row) → Option ((List Row))) : Nat → (List Row) → Int → Option ((List Row))
  | 0, _, _ => none
  | k + 1, z27, z28 =>
    bif (decide (z28 < (lenI x13))) then (
    (getO x13 z28).bind fun x30 =>
    (impl_Matches.f a1 x30).bind fun r31 =>
    bif r31 then (
    (impl_copyRow.f x30).bind fun r33 =>
    (some [r33]).bind fun l34 =>
    (appO 32 z27 l34).bind fun l35 =>
    impl_RowsFor.l0 a1 x13 K12 k l35 (w64 (z28 + 1)))
    else (
    impl_RowsFor.l0 a1 x13 K12 k z27 (w64 (z28 + 1))))
    else (
    K12 z27)
def impl_RowsFor.f (a0 : Store) (a1 : Query) : Option ((List Row)) :=
  (impl_StoreOk.f a0).bind fun r1 =>
  (gd (bo3 (bo3 r1 false true) false true) (impl_QueryOk.f a0.Schema a1)).bind fun r2 =>
  bif (bo3 (bo3 r1 false true) true (bo3 r2 false true)) then (
  some [])
  else (
  joinK (fun (y11 : List Row) =>
  (slices_SortStableFunc_impl_Row__impl_RowsFor_1.f y11 a1).bind fun r36 =>
  some r36) (fun K12 =>
  (getO a0.Tables a1.Table).bind fun x13 =>
  impl_RowsFor.l0 a1 x13 K12 (((lenI x13) - 0).toNat + 1) [] 0))

def impl_copyQuery.f (a0 : Query) : Option Query :=
  (appO 24 [] a0.Where).bind fun l1 =>
  (impl_copyInts.f a0.Show).bind fun r2 =>
  some (Query.mk a0.Table l1 a0.Order a0.Down a0.First r2 a0.Kids a0.KidTable a0.KidCol)

def slices_Insert_impl_Kid.f (a0 : List Kid) (a1 : Int) (a2 : List Kid) : Option (List Kid) := insO 16 a0 a1 a2

def slices_Delete_impl_Kid.f (a0 : List Kid) (a1 : Int) (a2 : Int) : Option (List Kid) := delO a0 a1 a2

def impl_KidPut.l0 (a1 : Int) (l1 : List Kid) (K3 : Int → Option ((List Kid))) : Nat → Int → Option ((List Kid))
  | 0, _ => none
  | k + 1, z8 =>
    (gd (decide (z8 < (lenI l1))) (getO l1 z8)).bind fun x9 =>
    bif (bo3 (decide (z8 < (lenI l1))) (decide (x9.Id < a1)) false) then (
    impl_KidPut.l0 a1 l1 K3 k (w64 (z8 + 1)))
    else (
    K3 z8)
def impl_KidPut.f (a0 : List Kid) (a1 : Int) (a2 : Int) : Option ((List Kid)) :=
  (appO 16 [] a0).bind fun l1 =>
  joinK (fun (y2 : Int) =>
  (gd (bo3 (decide (y2 = (lenI l1))) false true) (getO l1 y2)).bind fun x20 =>
  bif (bo3 (decide (y2 = (lenI l1))) true (decide (x20.Id ≠ a1))) then (
  bif (decide (a2 ≤ 0)) then (
  some l1)
  else (
  (some [(Kid.mk a1 a2)]).bind fun l32 =>
  (slices_Insert_impl_Kid.f l1 y2 l32).bind fun r33 =>
  some r33))
  else (
  (getO l1 y2).bind fun x34 =>
  (some (setI l1 y2 (Kid.mk x34.Id (w64 (x34.N + a2))))).bind fun l35 =>
  (getO l35 y2).bind fun x36 =>
  bif (decide (x36.N ≤ 0)) then (
  (slices_Delete_impl_Kid.f l35 y2 (w64 (y2 + 1))).bind fun r38 =>
  some r38)
  else (
  some l35))) (fun K3 =>
  impl_KidPut.l0 a1 l1 K3 (((lenI l1) - 0).toNat + 1) 0)

def impl_ViewOf.l0 (a1 : Query) (r11 : Query) (r12 : (List Row)) (x14 : List Row) : Nat → (List Kid) → Int → Option (View × Bool)
  | 0, _, _ => none
  | k + 1, z74, z75 =>
    bif (decide (z75 < (lenI x14))) then (
    (getO x14 z75).bind fun x77 =>
    (getO x77.Cells a1.KidCol).bind fun x78 =>
    (impl_KidPut.f z74 x78 1).bind fun r79 =>
    impl_ViewOf.l0 a1 r11 r12 x14 k r79 (w64 (z75 + 1)))
    else (
    some ((View.mk r11 r12 z74), true))
def impl_ViewOf.f (a0 : Store) (a1 : Query) : Option (View × Bool) :=
  (impl_StoreOk.f a0).bind fun r1 =>
  (gd (bo3 (bo3 r1 false true) false true) (impl_QueryOk.f a0.Schema a1)).bind fun r2 =>
  bif (bo3 (bo3 r1 false true) true (bo3 r2 false true)) then (
  some ((View.mk (Query.mk 0 [] 0 false 0 [] false 0 0) [] []), false))
  else (
  (impl_copyQuery.f a1).bind fun r11 =>
  (impl_RowsFor.f a0 a1).bind fun r12 =>
  bif a1.Kids then (
  (getO a0.Tables a1.KidTable).bind fun x14 =>
  impl_ViewOf.l0 a1 r11 r12 x14 (((lenI x14) - 0).toNat + 1) [] 0)
  else (
  some ((View.mk r11 r12 []), true)))

def laws_eqKid.f (a0 : Kid) (a1 : Kid) : Option Bool :=
  bif (decide (a0.Id ≠ a1.Id)) then (
  some false)
  else (
  bif (decide (a0.N ≠ a1.N)) then (
  some false)
  else (
  some true))

def laws_eqKidS.l0 (a0 : List Kid) (a1 : List Kid) : Nat → Int → Option Bool
  | 0, _ => none
  | k + 1, z5 =>
    bif (decide (z5 < (lenI a0))) then (
    (getO a0 z5).bind fun x7 =>
    (getO a1 z5).bind fun x8 =>
    (laws_eqKid.f x7 x8).bind fun r9 =>
    bif (bo3 r9 false true) then (
    some false)
    else (
    laws_eqKidS.l0 a0 a1 k (w64 (z5 + 1))))
    else (
    some true)
def laws_eqKidS.f (a0 : List Kid) (a1 : List Kid) : Option Bool :=
  bif (decide ((lenI a0) ≠ (lenI a1))) then (
  some false)
  else (
  laws_eqKidS.l0 a0 a1 (((lenI a0) - 0).toNat + 1) 0)

def laws_eqView.f (a0 : View) (a1 : View) : Option Bool :=
  (laws_eqQuery.f a0.Q a1.Q).bind fun r1 =>
  bif (bo3 r1 false true) then (
  some false)
  else (
  (laws_eqRowS.f a0.Rows a1.Rows).bind fun r3 =>
  bif (bo3 r3 false true) then (
  some false)
  else (
  (laws_eqKidS.f a0.Kids a1.Kids).bind fun r5 =>
  bif (bo3 r5 false true) then (
  some false)
  else (
  some true)))

def laws_markKidS.l0  : Nat → (List Kid) → Int → Int → Option ((List Kid) × Int)
  | 0, _, _, _ => none
  | k + 1, z4, z5, z6 =>
    bif (decide (z6 < (lenI z4))) then (
    (getO z4 z6).bind fun x8 =>
    (some (setI z4 z6 (Kid.mk z5 x8.N))).bind fun l9 =>
    (getO l9 z6).bind fun x10 =>
    (some (setI l9 z6 (Kid.mk x10.Id (w64 (z5 + 1))))).bind fun l11 =>
    laws_markKidS.l0 k l11 (w64 ((w64 (z5 + 1)) + 1)) (w64 (z6 + 1)))
    else (
    some (z4, z5))
def laws_markKidS.f (a0 : List Kid) (a1 : Int) : Option ((List Kid) × Int) :=
  laws_markKidS.l0 (((lenI a0) - 0).toNat + 1) a0 a1 0

def laws_markView.f (a0 : View) (a1 : Int) : Option (View × Int) :=
  (laws_markQuery.f a0.Q a1).bind fun r1 =>
  (laws_markRowS.f a0.Rows r1.2).bind fun r2 =>
  (laws_markKidS.f a0.Kids r2.2).bind fun r3 =>
  some ((View.mk (Query.mk a0.Q.Table r1.1.Where a0.Q.Order a0.Q.Down a0.Q.First r1.1.Show a0.Q.Kids a0.Q.KidTable a0.Q.KidCol) r2.1 r3.1), r3.2)

def laws_heldIntS.l0 (a0 : List Int) : Nat → Int → Int → Option Int
  | 0, _, _ => none
  | k + 1, z4, z5 =>
    bif (decide (z5 < (lenI a0))) then (
    (getO a0 z5).bind fun x7 =>
    bif (decide (x7 ≠ z4)) then (
    some (-1))
    else (
    laws_heldIntS.l0 a0 k (w64 (z4 + 1)) (w64 (z5 + 1))))
    else (
    some z4)
def laws_heldIntS.f (a0 : List Int) (a1 : Int) : Option Int :=
  laws_heldIntS.l0 a0 (((lenI a0) - 0).toNat + 1) a1 0

def laws_heldRowS.l0 (a0 : List Row) : Nat → Int → Int → Option Int
  | 0, _, _ => none
  | k + 1, z4, z5 =>
    bif (decide (z5 < (lenI a0))) then (
    (getO a0 z5).bind fun x7 =>
    bif (decide (x7.Id ≠ z4)) then (
    some (-1))
    else (
    (laws_heldIntS.f x7.Cells (w64 (z4 + 1))).bind fun r9 =>
    bif (decide (r9 < 0)) then (
    some (-1))
    else (
    laws_heldRowS.l0 a0 k r9 (w64 (z5 + 1)))))
    else (
    some z4)
def laws_heldRowS.f (a0 : List Row) (a1 : Int) : Option Int :=
  laws_heldRowS.l0 a0 (((lenI a0) - 0).toNat + 1) a1 0

def laws_heldCondS.l0 (a0 : List Cond) : Nat → Int → Int → Option Int
  | 0, _, _ => none
  | k + 1, z4, z5 =>
    bif (decide (z5 < (lenI a0))) then (
    (getO a0 z5).bind fun x7 =>
    bif (decide (x7.Col ≠ z4)) then (
    some (-1))
    else (
    bif (decide (x7.Op ≠ (w64 (z4 + 1)))) then (
    some (-1))
    else (
    bif (decide (x7.V ≠ (w64 ((w64 (z4 + 1)) + 1)))) then (
    some (-1))
    else (
    laws_heldCondS.l0 a0 k (w64 ((w64 ((w64 (z4 + 1)) + 1)) + 1)) (w64 (z5 + 1))))))
    else (
    some z4)
def laws_heldCondS.f (a0 : List Cond) (a1 : Int) : Option Int :=
  laws_heldCondS.l0 a0 (((lenI a0) - 0).toNat + 1) a1 0

def laws_heldQuery.f (a0 : Query) (a1 : Int) : Option Int :=
  (laws_heldCondS.f a0.Where a1).bind fun r1 =>
  bif (decide (r1 < 0)) then (
  some (-1))
  else (
  (laws_heldIntS.f a0.Show r1).bind fun r3 =>
  bif (decide (r3 < 0)) then (
  some (-1))
  else (
  some r3))

def laws_heldKidS.l0 (a0 : List Kid) : Nat → Int → Int → Option Int
  | 0, _, _ => none
  | k + 1, z4, z5 =>
    bif (decide (z5 < (lenI a0))) then (
    (getO a0 z5).bind fun x7 =>
    bif (decide (x7.Id ≠ z4)) then (
    some (-1))
    else (
    bif (decide (x7.N ≠ (w64 (z4 + 1)))) then (
    some (-1))
    else (
    laws_heldKidS.l0 a0 k (w64 ((w64 (z4 + 1)) + 1)) (w64 (z5 + 1)))))
    else (
    some z4)
def laws_heldKidS.f (a0 : List Kid) (a1 : Int) : Option Int :=
  laws_heldKidS.l0 a0 (((lenI a0) - 0).toNat + 1) a1 0

def laws_heldView.f (a0 : View) (a1 : Int) : Option Int :=
  (laws_heldQuery.f a0.Q a1).bind fun r1 =>
  bif (decide (r1 < 0)) then (
  some (-1))
  else (
  (laws_heldRowS.f a0.Rows r1).bind fun r3 =>
  bif (decide (r3 < 0)) then (
  some (-1))
  else (
  (laws_heldKidS.f a0.Kids r3).bind fun r5 =>
  bif (decide (r5 < 0)) then (
  some (-1))
  else (
  some r5)))

def laws_szIntS.f (a0 : List Int) (a1 : Int) : Option Int :=
  bif (decide ((w64 (a1 - (lenI a0))) < 0)) then (
  some (-1))
  else (
  some (w64 (a1 - (lenI a0))))

def laws_szSchema.f (a0 : Schema) (a1 : Int) : Option Int :=
  (laws_szIntS.f a0.Cols a1).bind fun r1 =>
  bif (decide (r1 < 0)) then (
  some (-1))
  else (
  some r1)

def laws_szRow.f (a0 : Row) (a1 : Int) : Option Int :=
  (laws_szIntS.f a0.Cells a1).bind fun r1 =>
  bif (decide (r1 < 0)) then (
  some (-1))
  else (
  some r1)

def laws_szRowS.l0 (a0 : List Row) : Nat → Int → Int → Option Int
  | 0, _, _ => none
  | k + 1, z5, z6 =>
    bif (decide (z6 < (lenI a0))) then (
    (getO a0 z6).bind fun x8 =>
    (laws_szRow.f x8 z5).bind fun r9 =>
    bif (decide (r9 < 0)) then (
    some (-1))
    else (
    laws_szRowS.l0 a0 k r9 (w64 (z6 + 1))))
    else (
    some z5)
def laws_szRowS.f (a0 : List Row) (a1 : Int) : Option Int :=
  bif (decide ((w64 (a1 - (lenI a0))) < 0)) then (
  some (-1))
  else (
  laws_szRowS.l0 a0 (((lenI a0) - 0).toNat + 1) (w64 (a1 - (lenI a0))) 0)

def laws_szRowSS.l0 (a0 : List (List Row)) : Nat → Int → Int → Option Int
  | 0, _, _ => none
  | k + 1, z5, z6 =>
    bif (decide (z6 < (lenI a0))) then (
    (getO a0 z6).bind fun x8 =>
    (laws_szRowS.f x8 z5).bind fun r9 =>
    bif (decide (r9 < 0)) then (
    some (-1))
    else (
    laws_szRowSS.l0 a0 k r9 (w64 (z6 + 1))))
    else (
    some z5)
def laws_szRowSS.f (a0 : List (List Row)) (a1 : Int) : Option Int :=
  bif (decide ((w64 (a1 - (lenI a0))) < 0)) then (
  some (-1))
  else (
  laws_szRowSS.l0 a0 (((lenI a0) - 0).toNat + 1) (w64 (a1 - (lenI a0))) 0)

def laws_szStore.f (a0 : Store) (a1 : Int) : Option Int :=
  (laws_szSchema.f a0.Schema a1).bind fun r1 =>
  bif (decide (r1 < 0)) then (
  some (-1))
  else (
  (laws_szRowSS.f a0.Tables r1).bind fun r3 =>
  bif (decide (r3 < 0)) then (
  some (-1))
  else (
  some r3))

def laws_szCondS.f (a0 : List Cond) (a1 : Int) : Option Int :=
  bif (decide ((w64 (a1 - (lenI a0))) < 0)) then (
  some (-1))
  else (
  some (w64 (a1 - (lenI a0))))

def laws_szQuery.f (a0 : Query) (a1 : Int) : Option Int :=
  (laws_szCondS.f a0.Where a1).bind fun r1 =>
  bif (decide (r1 < 0)) then (
  some (-1))
  else (
  (laws_szIntS.f a0.Show r1).bind fun r3 =>
  bif (decide (r3 < 0)) then (
  some (-1))
  else (
  some r3))

def laws_toIntS.l0 (a0 : List Int) : Nat → (List Int) → Int → Option ((List Int))
  | 0, _, _ => none
  | k + 1, z5, z6 =>
    bif (decide (z6 < (lenI a0))) then (
    (getO a0 z6).bind fun x8 =>
    (getO z5 z6).bind fun x9 =>
    (some (setI z5 z6 x8)).bind fun l10 =>
    laws_toIntS.l0 a0 k l10 (w64 (z6 + 1)))
    else (
    some z5)
def laws_toIntS.f (a0 : List Int) : Option ((List Int)) :=
  (mkO 8 (lenI a0) 0).bind fun l1 =>
  laws_toIntS.l0 a0 (((lenI a0) - 0).toNat + 1) l1 0

def laws_toSchema.f (a0 : Schema) : Option Schema :=
  (laws_toIntS.f a0.Cols).bind fun r1 =>
  some (Schema.mk r1)

def laws_toRow.f (a0 : Row) : Option Row :=
  (laws_toIntS.f a0.Cells).bind fun r1 =>
  some (Row.mk a0.Id r1)

def laws_toRowS.l0 (a0 : List Row) : Nat → (List Row) → Int → Option ((List Row))
  | 0, _, _ => none
  | k + 1, z5, z6 =>
    bif (decide (z6 < (lenI a0))) then (
    (getO a0 z6).bind fun x8 =>
    (laws_toRow.f x8).bind fun r9 =>
    (getO z5 z6).bind fun x10 =>
    (some (setI z5 z6 r9)).bind fun l11 =>
    laws_toRowS.l0 a0 k l11 (w64 (z6 + 1)))
    else (
    some z5)
def laws_toRowS.f (a0 : List Row) : Option ((List Row)) :=
  (mkO 32 (lenI a0) (Row.mk 0 [])).bind fun l1 =>
  laws_toRowS.l0 a0 (((lenI a0) - 0).toNat + 1) l1 0

def laws_toRowSS.l0 (a0 : List (List Row)) : Nat → (List (List Row)) → Int → Option ((List (List Row)))
  | 0, _, _ => none
  | k + 1, z5, z6 =>
    bif (decide (z6 < (lenI a0))) then (
    (getO a0 z6).bind fun x8 =>
    (laws_toRowS.f x8).bind fun r9 =>
    (getO z5 z6).bind fun x10 =>
    (some (setI z5 z6 r9)).bind fun l11 =>
    laws_toRowSS.l0 a0 k l11 (w64 (z6 + 1)))
    else (
    some z5)
def laws_toRowSS.f (a0 : List (List Row)) : Option ((List (List Row))) :=
  (mkO 24 (lenI a0) []).bind fun l1 =>
  laws_toRowSS.l0 a0 (((lenI a0) - 0).toNat + 1) l1 0

def laws_toStore.f (a0 : Store) : Option Store :=
  (laws_toSchema.f a0.Schema).bind fun r1 =>
  (laws_toRowSS.f a0.Tables).bind fun r2 =>
  some (Store.mk r1 a0.Version r2)

def laws_toCond.f (a0 : Cond) : Option Cond :=
  some a0

def laws_toCondS.l0 (a0 : List Cond) : Nat → (List Cond) → Int → Option ((List Cond))
  | 0, _, _ => none
  | k + 1, z5, z6 =>
    bif (decide (z6 < (lenI a0))) then (
    (getO a0 z6).bind fun x8 =>
    (laws_toCond.f x8).bind fun r9 =>
    (getO z5 z6).bind fun x10 =>
    (some (setI z5 z6 r9)).bind fun l11 =>
    laws_toCondS.l0 a0 k l11 (w64 (z6 + 1)))
    else (
    some z5)
def laws_toCondS.f (a0 : List Cond) : Option ((List Cond)) :=
  (mkO 24 (lenI a0) (Cond.mk 0 0 0)).bind fun l1 =>
  laws_toCondS.l0 a0 (((lenI a0) - 0).toNat + 1) l1 0

def laws_toQuery.f (a0 : Query) : Option Query :=
  (laws_toCondS.f a0.Where).bind fun r1 =>
  (laws_toIntS.f a0.Show).bind fun r2 =>
  some (Query.mk a0.Table r1 a0.Order a0.Down a0.First r2 a0.Kids a0.KidTable a0.KidCol)

def laws_FnExactViewOf.f (a0 : Store) (a1 : Query) : Option Bool :=
  (laws_szStore.f a0 1048576).bind fun r1 =>
  bif (decide (r1 < 0)) then (
  some true)
  else (
  (laws_szQuery.f a1 r1).bind fun r3 =>
  bif (decide (r3 < 0)) then (
  some true)
  else (
  (laws_toStore.f a0).bind fun r5 =>
  (laws_toQuery.f a1).bind fun r6 =>
  (spec_ViewOf.f r5 r6).bind fun r7 =>
  (laws_toStore.f a0).bind fun r8 =>
  (laws_toQuery.f a1).bind fun r9 =>
  (impl_ViewOf.f r8 r9).bind fun r10 =>
  (laws_eqView.f r10.1 r7.1).bind fun r11 =>
  bif (bo3 (bo3 r11 false true) true (bo3 r10.2 (bo3 r7.2 false true) r7.2)) then (
  some false)
  else (
  (laws_toStore.f a0).bind fun r18 =>
  (laws_eqStore.f r8 r18).bind fun r19 =>
  bif (bo3 r19 false true) then (
  some false)
  else (
  (laws_toQuery.f a1).bind fun r21 =>
  (laws_eqQuery.f r9 r21).bind fun r22 =>
  bif (bo3 r22 false true) then (
  some false)
  else (
  (laws_markStore.f r8 1).bind fun r24 =>
  (laws_markQuery.f r9 r24.2).bind fun r25 =>
  (gd (bo3 (decide (r25.2 < 0)) false true) (laws_eqView.f r10.1 r7.1)).bind fun r26 =>
  bif (bo3 (bo3 (decide (r25.2 < 0)) true (bo3 r26 false true)) true (bo3 r10.2 (bo3 r7.2 false true) r7.2)) then (
  some false)
  else (
  (laws_markView.f r10.1 1).bind fun r39 =>
  (laws_heldView.f (View.mk (Query.mk r10.1.Q.Table r39.1.Q.Where r10.1.Q.Order r10.1.Q.Down r10.1.Q.First r39.1.Q.Show r10.1.Q.Kids r10.1.Q.KidTable r10.1.Q.KidCol) r39.1.Rows r39.1.Kids) 1).bind fun r40 =>
  bif (decide (r40 < 0)) then (
  some false)
  else (
  bif (decide (r40 ≠ r39.2)) then (
  some false)
  else (
  (laws_toStore.f a0).bind fun r43 =>
  (laws_toQuery.f a1).bind fun r44 =>
  (impl_ViewOf.f r43 r44).bind fun r45 =>
  (laws_eqView.f r45.1 r7.1).bind fun r46 =>
  bif (bo3 (bo3 r46 false true) true (bo3 r45.2 (bo3 r7.2 false true) r7.2)) then (
  some false)
  else (
  (laws_heldView.f (View.mk (Query.mk r10.1.Q.Table r39.1.Q.Where r10.1.Q.Order r10.1.Q.Down r10.1.Q.First r39.1.Q.Show r10.1.Q.Kids r10.1.Q.KidTable r10.1.Q.KidCol) r39.1.Rows r39.1.Kids) 1).bind fun r53 =>
  bif (decide (r53 < 0)) then (
  some false)
  else (
  bif (decide (r53 ≠ r39.2)) then (
  some false)
  else (
  some true)))))))))))

end Go.Proofs.Ytgicjbeaomjdgaa.L
