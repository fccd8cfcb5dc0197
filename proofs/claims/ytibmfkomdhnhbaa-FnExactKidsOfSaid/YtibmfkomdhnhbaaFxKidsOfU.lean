/- The pure functions of the program. -/
import Derived.Test.YtibmfkomdhnhbaaSl30
namespace Go.Proofs.Ytibmfkomdhnhbaa.L
open Go
set_option linter.unusedVariables false
structure Schema where
  Cols : List Int
  deriving Inhabited, DecidableEq
structure Row where
  Id : Int
  Cells : List Int
  deriving Inhabited, DecidableEq
structure Store where
  Schema : Schema
  Version : Int
  Tables : List (List Row)
  deriving Inhabited, DecidableEq
structure Cond where
  Col : Int
  Op : Int
  V : Int
  deriving Inhabited, DecidableEq
structure Query where
  Table : Int
  Where : List Cond
  Order : Int
  Down : Bool
  First : Int
  Show : List Int
  Kids : Bool
  KidTable : Int
  KidCol : Int
  deriving Inhabited, DecidableEq

def laws_szIntS.f (a0 : List Int) (a1 : Int) : Option Int :=
  bif (decide ((w64 (a1 - (lenI a0))) < 0)) then (
  some (-1))
  else (
  some (w64 (a1 - (lenI a0))))

def laws_szSchema.f (a0 : Schema) (a1 : Int) : Option Int :=
  (laws_szIntS.f a0.Cols a1).bind fun r1 =>
  bif (decide (r1 < 0)) then (
  some (-1))
  else (
  some r1)

def laws_szRow.f (a0 : Row) (a1 : Int) : Option Int :=
  (laws_szIntS.f a0.Cells a1).bind fun r1 =>
  bif (decide (r1 < 0)) then (
  some (-1))
  else (
  some r1)

def laws_szRowS.l0 (a0 : List Row) : Nat → Int → Int → Option Int
  | 0, _, _ => none
  | k + 1, z5, z6 =>
    bif (decide (z6 < (lenI a0))) then (
    (getO a0 z6).bind fun x8 =>
    (laws_szRow.f x8 z5).bind fun r9 =>
    bif (decide (r9 < 0)) then (
    some (-1))
    else (
    laws_szRowS.l0 a0 k r9 (w64 (z6 + 1))))
    else (
    some z5)
def laws_szRowS.f (a0 : List Row) (a1 : Int) : Option Int :=
  bif (decide ((w64 (a1 - (lenI a0))) < 0)) then (
  some (-1))
  else (
  laws_szRowS.l0 a0 (((lenI a0) - 0).toNat + 1) (w64 (a1 - (lenI a0))) 0)

def laws_szRowSS.l0 (a0 : List (List Row)) : Nat → Int → Int → Option Int
  | 0, _, _ => none
  | k + 1, z5, z6 =>
    bif (decide (z6 < (lenI a0))) then (
    (getO a0 z6).bind fun x8 =>
    (laws_szRowS.f x8 z5).bind fun r9 =>
    bif (decide (r9 < 0)) then (
    some (-1))
    else (
    laws_szRowSS.l0 a0 k r9 (w64 (z6 + 1))))
    else (
    some z5)
def laws_szRowSS.f (a0 : List (List Row)) (a1 : Int) : Option Int :=
  bif (decide ((w64 (a1 - (lenI a0))) < 0)) then (
  some (-1))
  else (
  laws_szRowSS.l0 a0 (((lenI a0) - 0).toNat + 1) (w64 (a1 - (lenI a0))) 0)

def laws_szStore.f (a0 : Store) (a1 : Int) : Option Int :=
  (laws_szSchema.f a0.Schema a1).bind fun r1 =>
  bif (decide (r1 < 0)) then (
  some (-1))
  else (
  (laws_szRowSS.f a0.Tables r1).bind fun r3 =>
  bif (decide (r3 < 0)) then (
  some (-1))
  else (
  some r3))

def laws_szCondS.f (a0 : List Cond) (a1 : Int) : Option Int :=
  bif (decide ((w64 (a1 - (lenI a0))) < 0)) then (
  some (-1))
  else (
  some (w64 (a1 - (lenI a0))))

def laws_szQuery.f (a0 : Query) (a1 : Int) : Option Int :=
  (laws_szCondS.f a0.Where a1).bind fun r1 =>
  bif (decide (r1 < 0)) then (
  some (-1))
  else (
  (laws_szIntS.f a0.Show r1).bind fun r3 =>
  bif (decide (r3 < 0)) then (
  some (-1))
  else (
  some r3))

def spec_l1In.f (a0 : Int) (a1 : Int) (a2 : Int) : Option Bool :=
  some (bo3 (decide (a1 ≤ a0)) (decide (a0 ≤ a2)) false)

def spec_SchemaOk.l0 (a0 : Schema) (K2 : Unit → Option Bool) : Nat → Int → Option Bool
  | 0, _ => none
  | k + 1, z5 =>
    bif (decide (z5 < (lenI a0.Cols))) then (
    (getO a0.Cols z5).bind fun x7 =>
    (spec_l1In.f x7 1 4).bind fun r8 =>
    bif (bo3 r8 false true) then (
    some false)
    else (
    spec_SchemaOk.l0 a0 K2 k (w64 (z5 + 1))))
    else (
    K2 ())
def spec_SchemaOk.f (a0 : Schema) : Option Bool :=
  joinK (fun (y1 : Unit) =>
  (spec_l1In.f (lenI a0.Cols) 1 3).bind fun r10 =>
  some r10) (fun K2 =>
  spec_SchemaOk.l0 a0 K2 (((lenI a0.Cols) - 0).toNat + 1) 0)

def spec_RowOk.l0 (a2 : Row) : Nat → Int → Option Bool
  | 0, _ => none
  | k + 1, z35 =>
    bif (decide (z35 < (lenI a2.Cells))) then (
    (getO a2.Cells z35).bind fun x37 =>
    (spec_l1In.f x37 (-1000000000) 1000000000).bind fun r38 =>
    bif (bo3 r38 false true) then (
    some false)
    else (
    spec_RowOk.l0 a2 k (w64 (z35 + 1))))
    else (
    some true)
def spec_RowOk.f (a0 : Schema) (a1 : Int) (a2 : Row) : Option Bool :=
  (spec_SchemaOk.f a0).bind fun r1 =>
  (gd (bo3 (bo3 r1 false true) false true) (spec_l1In.f a1 0 (w64 ((lenI a0.Cols) - 1)))).bind fun r2 =>
  (gd (bo3 (bo3 (bo3 r1 false true) true (bo3 r2 false true)) false true) (spec_l1In.f a2.Id 1 999)).bind fun r3 =>
  (gd (bo3 (bo3 (bo3 (bo3 r1 false true) true (bo3 r2 false true)) true (bo3 r3 false true)) false true) (getO a0.Cols a1)).bind fun x4 =>
  bif (bo3 (bo3 (bo3 (bo3 r1 false true) true (bo3 r2 false true)) true (bo3 r3 false true)) true (decide ((lenI a2.Cells) ≠ x4))) then (
  some false)
  else (
  spec_RowOk.l0 a2 (((lenI a2.Cells) - 0).toNat + 1) 0)

def spec_RowsOk.l0 (a0 : Schema) (a1 : Int) (a2 : List Row) (K2 : Unit → Option Bool) : Nat → Int → Option Bool
  | 0, _ => none
  | k + 1, z7 =>
    bif (decide (z7 < (lenI a2))) then (
    (getO a2 z7).bind fun x9 =>
    (spec_RowOk.f a0 a1 x9).bind fun r10 =>
    (gd (bo3 (bo3 (bo3 r10 false true) false true) (decide (0 < z7)) false) (getO a2 (w64 (z7 - 1)))).bind fun x11 =>
    bif (bo3 (bo3 r10 false true) true (bo3 (decide (0 < z7)) (decide (x9.Id ≤ x11.Id)) false)) then (
    some false)
    else (
    spec_RowsOk.l0 a0 a1 a2 K2 k (w64 (z7 + 1))))
    else (
    K2 ())
def spec_RowsOk.f (a0 : Schema) (a1 : Int) (a2 : List Row) : Option Bool :=
  joinK (fun (y1 : Unit) =>
  (spec_SchemaOk.f a0).bind fun r33 =>
  (gd r33 (spec_l1In.f a1 0 (w64 ((lenI a0.Cols) - 1)))).bind fun r34 =>
  some (bo3 (bo3 r33 r34 false) (decide ((lenI a2) ≤ 24)) false)) (fun K2 =>
  spec_RowsOk.l0 a0 a1 a2 K2 (((lenI a2) - 0).toNat + 1) 0)

def spec_StoreOk.l0 (a0 : Store) : Nat → Int → Option Bool
  | 0, _ => none
  | k + 1, z24 =>
    bif (decide (z24 < (lenI a0.Tables))) then (
    (getO a0.Tables z24).bind fun x26 =>
    (spec_RowsOk.f a0.Schema z24 x26).bind fun r27 =>
    bif (bo3 r27 false true) then (
    some false)
    else (
    spec_StoreOk.l0 a0 k (w64 (z24 + 1))))
    else (
    some true)
def spec_StoreOk.f (a0 : Store) : Option Bool :=
  (spec_SchemaOk.f a0.Schema).bind fun r1 =>
  (gd (bo3 (bo3 r1 false true) false true) (spec_l1In.f a0.Version 0 100000)).bind fun r2 =>
  bif (bo3 (bo3 (bo3 r1 false true) true (bo3 r2 false true)) true (decide ((lenI a0.Tables) ≠ (lenI a0.Schema.Cols)))) then (
  some false)
  else (
  spec_StoreOk.l0 a0 (((lenI a0.Tables) - 0).toNat + 1) 0)

def spec_QueryOk.l0 (a1 : Query) (x20 : Int) (K22 : Unit → Option Bool) : Nat → Int → Option Bool
  | 0, _ => none
  | k + 1, z35 =>
    bif (decide (z35 < (lenI a1.Where))) then (
    (getO a1.Where z35).bind fun x37 =>
    (spec_l1In.f x37.Col 0 (w64 (x20 - 1))).bind fun r38 =>
    (gd (bo3 (bo3 r38 false true) false true) (spec_l1In.f x37.Op 1 4)).bind fun r39 =>
    (gd (bo3 (bo3 (bo3 r38 false true) true (bo3 r39 false true)) false true) (spec_l1In.f x37.V (-1000000000) 1000000000)).bind fun r40 =>
    bif (bo3 (bo3 (bo3 r38 false true) true (bo3 r39 false true)) true (bo3 r40 false true)) then (
    some false)
    else (
    spec_QueryOk.l0 a1 x20 K22 k (w64 (z35 + 1))))
    else (
    K22 ())
def spec_QueryOk.l1 (a1 : Query) (x20 : Int) (K55 : Unit → Option Bool) : Nat → Int → Option Bool
  | 0, _ => none
  | k + 1, z68 =>
    bif (decide (z68 < (lenI a1.Show))) then (
    (getO a1.Show z68).bind fun x70 =>
    (spec_l1In.f x70 0 (w64 (x20 - 1))).bind fun r71 =>
    (gd (bo3 (bo3 (bo3 r71 false true) false true) (decide (0 < z68)) false) (getO a1.Show (w64 (z68 - 1)))).bind fun x72 =>
    bif (bo3 (bo3 r71 false true) true (bo3 (decide (0 < z68)) (decide (x70 ≤ x72)) false)) then (
    some false)
    else (
    spec_QueryOk.l1 a1 x20 K55 k (w64 (z68 + 1))))
    else (
    K55 ())
def spec_QueryOk.f (a0 : Schema) (a1 : Query) : Option Bool :=
  (spec_SchemaOk.f a0).bind fun r1 =>
  (gd (bo3 (bo3 r1 false true) false true) (spec_l1In.f a1.Table 0 (w64 ((lenI a0.Cols) - 1)))).bind fun r2 =>
  bif (bo3 (bo3 (bo3 r1 false true) true (bo3 r2 false true)) true (decide (3 < (lenI a1.Where)))) then (
  some false)
  else (
  (getO a0.Cols a1.Table).bind fun x20 =>
  joinK (fun (y21 : Unit) =>
  joinK (fun (y54 : Unit) =>
  (spec_l1In.f a1.Order 0 x20).bind fun r94 =>
  (gd (bo3 (bo3 r94 false true) false true) (spec_l1In.f a1.First 0 24)).bind fun r95 =>
  bif (bo3 (bo3 (bo3 r94 false true) true (bo3 r95 false true)) true (bo3 (decide (a1.Order = 0)) a1.Down false)) then (
  some false)
  else (
  bif (bo3 a1.Kids false true) then (
  some (bo3 (decide (a1.KidTable = 0)) (decide (a1.KidCol = 0)) false))
  else (
  (spec_l1In.f a1.KidTable 0 (w64 ((lenI a0.Cols) - 1))).bind fun r120 =>
  (gd r120 (getO a0.Cols a1.KidTable)).bind fun x121 =>
  (gd r120 (spec_l1In.f a1.KidCol 0 (w64 (x121 - 1)))).bind fun r122 =>
  some (bo3 r120 r122 false)))) (fun K55 =>
  spec_QueryOk.l1 a1 x20 K55 (((lenI a1.Show) - 0).toNat + 1) 0)) (fun K22 =>
  spec_QueryOk.l0 a1 x20 K22 (((lenI a1.Where) - 0).toNat + 1) 0))

def spec_KidsOf.l0 (a1 : Query) (a2 : Int) (x16 : List Row) : Nat → Int → Int → Option Int
  | 0, _, _ => none
  | k + 1, z30, z31 =>
    bif (decide (z31 < (lenI x16))) then (
    (getO x16 z31).bind fun x33 =>
    (getO x33.Cells a1.KidCol).bind fun x34 =>
    bif (decide (x34 = a2)) then (
    spec_KidsOf.l0 a1 a2 x16 k (w64 (z30 + 1)) (w64 (z31 + 1)))
    else (
    spec_KidsOf.l0 a1 a2 x16 k z30 (w64 (z31 + 1))))
    else (
    some z30)
def spec_KidsOf.f (a0 : Store) (a1 : Query) (a2 : Int) : Option Int :=
  (spec_StoreOk.f a0).bind fun r1 =>
  (gd (bo3 (bo3 r1 false true) false true) (spec_QueryOk.f a0.Schema a1)).bind fun r2 =>
  bif (bo3 (bo3 (bo3 r1 false true) true (bo3 r2 false true)) true (bo3 a1.Kids false true)) then (
  some 0)
  else (
  (getO a0.Tables a1.KidTable).bind fun x16 =>
  spec_KidsOf.l0 a1 a2 x16 (((lenI x16) - 0).toNat + 1) 0 0)

def laws_toIntS.l0 (a0 : List Int) : Nat → (List Int) → Int → Option ((List Int))
  | 0, _, _ => none
  | k + 1, z5, z6 =>
    bif (decide (z6 < (lenI a0))) then (
    (getO a0 z6).bind fun x8 =>
    (getO z5 z6).bind fun x9 =>
    (some (setI z5 z6 x8)).bind fun l10 =>
    laws_toIntS.l0 a0 k l10 (w64 (z6 + 1)))
    else (
    some z5)
def laws_toIntS.f (a0 : List Int) : Option ((List Int)) :=
  (mkO 8 (lenI a0) 0).bind fun l1 =>
  laws_toIntS.l0 a0 (((lenI a0) - 0).toNat + 1) l1 0

def laws_toSchema.f (a0 : Schema) : Option Schema :=
  (laws_toIntS.f a0.Cols).bind fun r1 =>
  some (Schema.mk r1)

def laws_toRow.f (a0 : Row) : Option Row :=
  (laws_toIntS.f a0.Cells).bind fun r1 =>
  some (Row.mk a0.Id r1)

def laws_toRowS.l0 (a0 : List Row) : Nat → (List Row) → Int → Option ((List Row))
  | 0, _, _ => none
  | k + 1, z5, z6 =>
    bif (decide (z6 < (lenI a0))) then (
    (getO a0 z6).bind fun x8 =>
    (laws_toRow.f x8).bind fun r9 =>
    (getO z5 z6).bind fun x10 =>
    (some (setI z5 z6 r9)).bind fun l11 =>
    laws_toRowS.l0 a0 k l11 (w64 (z6 + 1)))
    else (
    some z5)
def laws_toRowS.f (a0 : List Row) : Option ((List Row)) :=
  (mkO 32 (lenI a0) (Row.mk 0 [])).bind fun l1 =>
  laws_toRowS.l0 a0 (((lenI a0) - 0).toNat + 1) l1 0

def laws_toRowSS.l0 (a0 : List (List Row)) : Nat → (List (List Row)) → Int → Option ((List (List Row)))
  | 0, _, _ => none
  | k + 1, z5, z6 =>
    bif (decide (z6 < (lenI a0))) then (
    (getO a0 z6).bind fun x8 =>
    (laws_toRowS.f x8).bind fun r9 =>
    (getO z5 z6).bind fun x10 =>
    (some (setI z5 z6 r9)).bind fun l11 =>
    laws_toRowSS.l0 a0 k l11 (w64 (z6 + 1)))
    else (
    some z5)
def laws_toRowSS.f (a0 : List (List Row)) : Option ((List (List Row))) :=
  (mkO 24 (lenI a0) []).bind fun l1 =>
  laws_toRowSS.l0 a0 (((lenI a0) - 0).toNat + 1) l1 0

def laws_toStore.f (a0 : Store) : Option Store :=
  (laws_toSchema.f a0.Schema).bind fun r1 =>
  (laws_toRowSS.f a0.Tables).bind fun r2 =>
  some (Store.mk r1 a0.Version r2)

def laws_toCond.f (a0 : Cond) : Option Cond :=
  some a0

def laws_toCondS.l0 (a0 : List Cond) : Nat → (List Cond) → Int → Option ((List Cond))
  | 0, _, _ => none
  | k + 1, z5, z6 =>
    bif (decide (z6 < (lenI a0))) then (
    (getO a0 z6).bind fun x8 =>
    (laws_toCond.f x8).bind fun r9 =>
    (getO z5 z6).bind fun x10 =>
    (some (setI z5 z6 r9)).bind fun l11 =>
    laws_toCondS.l0 a0 k l11 (w64 (z6 + 1)))
    else (
    some z5)
def laws_toCondS.f (a0 : List Cond) : Option ((List Cond)) :=
  (mkO 24 (lenI a0) (Cond.mk 0 0 0)).bind fun l1 =>
  laws_toCondS.l0 a0 (((lenI a0) - 0).toNat + 1) l1 0

def laws_toQuery.f (a0 : Query) : Option Query :=
  (laws_toCondS.f a0.Where).bind fun r1 =>
  (laws_toIntS.f a0.Show).bind fun r2 =>
  some (Query.mk a0.Table r1 a0.Order a0.Down a0.First r2 a0.Kids a0.KidTable a0.KidCol)

def impl_within.f (a0 : Int) (a1 : Int) (a2 : Int) : Option Bool :=
  some (bo3 (decide (a1 ≤ a0)) (decide (a0 ≤ a2)) false)

def impl_SchemaOk.l0 (a0 : Schema) (K2 : Unit → Option Bool) : Nat → Int → Option Bool
  | 0, _ => none
  | k + 1, z7 =>
    bif (decide (z7 < (lenI a0.Cols))) then (
    (getO a0.Cols z7).bind fun x9 =>
    (impl_within.f x9 1 4).bind fun r10 =>
    bif (bo3 r10 false true) then (
    some false)
    else (
    impl_SchemaOk.l0 a0 K2 k (w64 (z7 + 1))))
    else (
    K2 ())
def impl_SchemaOk.f (a0 : Schema) : Option Bool :=
  joinK (fun (y1 : Unit) =>
  (impl_within.f (lenI a0.Cols) 1 3).bind fun r12 =>
  some r12) (fun K2 =>
  impl_SchemaOk.l0 a0 K2 (((lenI a0.Cols) - 0).toNat + 1) 0)

def impl_isVersion.f (a0 : Int) : Option Bool :=
  (impl_within.f a0 0 100000).bind fun r1 =>
  some r1

def impl_hasTable.f (a0 : Schema) (a1 : Int) : Option Bool :=
  (impl_within.f a1 0 (w64 ((lenI a0.Cols) - 1))).bind fun r1 =>
  some r1

def impl_isNum.f (a0 : Int) : Option Bool :=
  (impl_within.f a0 (-1000000000) 1000000000).bind fun r1 =>
  some r1

def impl_RowOk.l0 (a2 : Row) (K2 : Unit → Option Bool) : Nat → Int → Option Bool
  | 0, _ => none
  | k + 1, z10 =>
    bif (decide (z10 < (lenI a2.Cells))) then (
    (getO a2.Cells z10).bind fun x12 =>
    (impl_isNum.f x12).bind fun r13 =>
    bif (bo3 r13 false true) then (
    some false)
    else (
    impl_RowOk.l0 a2 K2 k (w64 (z10 + 1))))
    else (
    K2 ())
def impl_RowOk.f (a0 : Schema) (a1 : Int) (a2 : Row) : Option Bool :=
  joinK (fun (y1 : Unit) =>
  (impl_SchemaOk.f a0).bind fun r15 =>
  (gd r15 (impl_hasTable.f a0 a1)).bind fun r16 =>
  (gd (bo3 r15 r16 false) (getO a0.Cols a1)).bind fun x17 =>
  (gd (bo3 (bo3 r15 r16 false) (decide ((lenI a2.Cells) = x17)) false) (impl_within.f a2.Id 1 999)).bind fun r18 =>
  some (bo3 (bo3 (bo3 r15 r16 false) (decide ((lenI a2.Cells) = x17)) false) r18 false)) (fun K2 =>
  impl_RowOk.l0 a2 K2 (((lenI a2.Cells) - 0).toNat + 1) 0)

def impl_RowsOk.l0 (a0 : Schema) (a1 : Int) (a2 : List Row) (K2 : Unit → Option Bool) : Nat → Int → Option Bool
  | 0, _ => none
  | k + 1, z9 =>
    bif (decide (z9 < (lenI a2))) then (
    (getO a2 z9).bind fun x11 =>
    (impl_RowOk.f a0 a1 x11).bind fun r12 =>
    (gd (bo3 (bo3 (bo3 r12 false true) false true) (decide (0 < z9)) false) (getO a2 (w64 (z9 - 1)))).bind fun x13 =>
    bif (bo3 (bo3 r12 false true) true (bo3 (decide (0 < z9)) (decide (x11.Id ≤ x13.Id)) false)) then (
    some false)
    else (
    impl_RowsOk.l0 a0 a1 a2 K2 k (w64 (z9 + 1))))
    else (
    K2 ())
def impl_RowsOk.f (a0 : Schema) (a1 : Int) (a2 : List Row) : Option Bool :=
  joinK (fun (y1 : Unit) =>
  (impl_SchemaOk.f a0).bind fun r32 =>
  (gd r32 (impl_hasTable.f a0 a1)).bind fun r33 =>
  some (bo3 (bo3 r32 r33 false) (decide ((lenI a2) ≤ 24)) false)) (fun K2 =>
  impl_RowsOk.l0 a0 a1 a2 K2 (((lenI a2) - 0).toNat + 1) 0)

def impl_StoreOk.l0 (a0 : Store) : Nat → Int → Option Bool
  | 0, _ => none
  | k + 1, z26 =>
    bif (decide (z26 < (lenI a0.Tables))) then (
    (getO a0.Tables z26).bind fun x28 =>
    (impl_RowsOk.f a0.Schema z26 x28).bind fun r29 =>
    bif (bo3 r29 false true) then (
    some false)
    else (
    impl_StoreOk.l0 a0 k (w64 (z26 + 1))))
    else (
    some true)
def impl_StoreOk.f (a0 : Store) : Option Bool :=
  (impl_SchemaOk.f a0.Schema).bind fun r1 =>
  (gd (bo3 (bo3 r1 false true) false true) (impl_isVersion.f a0.Version)).bind fun r2 =>
  bif (bo3 (bo3 (bo3 r1 false true) true (bo3 r2 false true)) true (decide ((lenI a0.Tables) ≠ (lenI a0.Schema.Cols)))) then (
  some false)
  else (
  impl_StoreOk.l0 a0 (((lenI a0.Tables) - 0).toNat + 1) 0)

def impl_kidsFit.f (a0 : Schema) (a1 : Query) : Option Bool :=
  bif (bo3 a1.Kids false true) then (
  some (bo3 (decide (a1.KidTable = 0)) (decide (a1.KidCol = 0)) false))
  else (
  (impl_hasTable.f a0 a1.KidTable).bind fun r7 =>
  (gd r7 (getO a0.Cols a1.KidTable)).bind fun x8 =>
  (gd r7 (impl_within.f a1.KidCol 0 (w64 (x8 - 1)))).bind fun r9 =>
  some (bo3 r7 r9 false))

def impl_QueryOk.l0 (a1 : Query) (x11 : Int) (K13 : Unit → Option Bool) : Nat → Int → Option Bool
  | 0, _ => none
  | k + 1, z28 =>
    bif (decide (z28 < (lenI a1.Where))) then (
    (getO a1.Where z28).bind fun x30 =>
    (impl_within.f x30.Col 0 (w64 (x11 - 1))).bind fun r31 =>
    (gd (bo3 (bo3 r31 false true) false true) (impl_within.f x30.Op 1 4)).bind fun r32 =>
    (gd (bo3 (bo3 (bo3 r31 false true) true (bo3 r32 false true)) false true) (impl_isNum.f x30.V)).bind fun r33 =>
    bif (bo3 (bo3 (bo3 r31 false true) true (bo3 r32 false true)) true (bo3 r33 false true)) then (
    some false)
    else (
    impl_QueryOk.l0 a1 x11 K13 k (w64 (z28 + 1))))
    else (
    K13 ())
def impl_QueryOk.l1 (a1 : Query) (x11 : Int) (K48 : Unit → Option Bool) : Nat → Int → Option Bool
  | 0, _ => none
  | k + 1, z63 =>
    bif (decide (z63 < (lenI a1.Show))) then (
    (getO a1.Show z63).bind fun x65 =>
    (impl_within.f x65 0 (w64 (x11 - 1))).bind fun r66 =>
    (gd (bo3 (bo3 (bo3 r66 false true) false true) (decide (0 < z63)) false) (getO a1.Show (w64 (z63 - 1)))).bind fun x67 =>
    bif (bo3 (bo3 r66 false true) true (bo3 (decide (0 < z63)) (decide (x65 ≤ x67)) false)) then (
    some false)
    else (
    impl_QueryOk.l1 a1 x11 K48 k (w64 (z63 + 1))))
    else (
    K48 ())
def impl_QueryOk.f (a0 : Schema) (a1 : Query) : Option Bool :=
  (impl_SchemaOk.f a0).bind fun r1 =>
  (gd (bo3 (bo3 r1 false true) false true) (impl_hasTable.f a0 a1.Table)).bind fun r2 =>
  bif (bo3 (bo3 r1 false true) true (bo3 r2 false true)) then (
  some false)
  else (
  (getO a0.Cols a1.Table).bind fun x11 =>
  joinK (fun (y12 : Unit) =>
  joinK (fun (y47 : Unit) =>
  (impl_within.f a1.Order 0 x11).bind fun r85 =>
  (gd (bo3 (decide ((lenI a1.Where) ≤ 3)) (bo3 r85 (bo3 (bo3 a1.Down false true) true (decide (0 < a1.Order))) false) false) (impl_within.f a1.First 0 24)).bind fun r98 =>
  (gd (bo3 (bo3 (decide ((lenI a1.Where) ≤ 3)) (bo3 r85 (bo3 (bo3 a1.Down false true) true (decide (0 < a1.Order))) false) false) r98 false) (impl_kidsFit.f a0 a1)).bind fun r99 =>
  some (bo3 (bo3 (bo3 (decide ((lenI a1.Where) ≤ 3)) (bo3 r85 (bo3 (bo3 a1.Down false true) true (decide (0 < a1.Order))) false) false) r98 false) r99 false)) (fun K48 =>
  impl_QueryOk.l1 a1 x11 K48 (((lenI a1.Show) - 0).toNat + 1) 0)) (fun K13 =>
  impl_QueryOk.l0 a1 x11 K13 (((lenI a1.Where) - 0).toNat + 1) 0))

def impl_KidsOf.l0 (a1 : Query) (a2 : Int) (x16 : List Row) : Nat → Int → Int → Option Int
  | 0, _, _ => none
  | k + 1, z31, z32 =>
    bif (decide (z32 < (lenI x16))) then (
    (getO x16 z32).bind fun x34 =>
    (getO x34.Cells a1.KidCol).bind fun x35 =>
    bif (decide (x35 = a2)) then (
    impl_KidsOf.l0 a1 a2 x16 k (w64 (z31 + 1)) (w64 (z32 + 1)))
    else (
    impl_KidsOf.l0 a1 a2 x16 k z31 (w64 (z32 + 1))))
    else (
    some z31)
def impl_KidsOf.f (a0 : Store) (a1 : Query) (a2 : Int) : Option Int :=
  (impl_StoreOk.f a0).bind fun r1 =>
  (gd (bo3 (bo3 r1 false true) false true) (impl_QueryOk.f a0.Schema a1)).bind fun r2 =>
  bif (bo3 (bo3 (bo3 r1 false true) true (bo3 r2 false true)) true (bo3 a1.Kids false true)) then (
  some 0)
  else (
  (getO a0.Tables a1.KidTable).bind fun x16 =>
  impl_KidsOf.l0 a1 a2 x16 (((lenI x16) - 0).toNat + 1) 0 0)

def laws_eqIntS.l0 (a0 : List Int) (a1 : List Int) : Nat → Int → Option Bool
  | 0, _ => none
  | k + 1, z5 =>
    bif (decide (z5 < (lenI a0))) then (
    (getO a0 z5).bind fun x7 =>
    (getO a1 z5).bind fun x8 =>
    bif (decide (x7 ≠ x8)) then (
    some false)
    else (
    laws_eqIntS.l0 a0 a1 k (w64 (z5 + 1))))
    else (
    some true)
def laws_eqIntS.f (a0 : List Int) (a1 : List Int) : Option Bool :=
  bif (decide ((lenI a0) ≠ (lenI a1))) then (
  some false)
  else (
  laws_eqIntS.l0 a0 a1 (((lenI a0) - 0).toNat + 1) 0)

def laws_eqSchema.f (a0 : Schema) (a1 : Schema) : Option Bool :=
  (laws_eqIntS.f a0.Cols a1.Cols).bind fun r1 =>
  bif (bo3 r1 false true) then (
  some false)
  else (
  some true)

def laws_eqRow.f (a0 : Row) (a1 : Row) : Option Bool :=
  bif (decide (a0.Id ≠ a1.Id)) then (
  some false)
  else (
  (laws_eqIntS.f a0.Cells a1.Cells).bind fun r2 =>
  bif (bo3 r2 false true) then (
  some false)
  else (
  some true))

def laws_eqRowS.l0 (a0 : List Row) (a1 : List Row) : Nat → Int → Option Bool
  | 0, _ => none
  | k + 1, z5 =>
    bif (decide (z5 < (lenI a0))) then (
    (getO a0 z5).bind fun x7 =>
    (getO a1 z5).bind fun x8 =>
    (laws_eqRow.f x7 x8).bind fun r9 =>
    bif (bo3 r9 false true) then (
    some false)
    else (
    laws_eqRowS.l0 a0 a1 k (w64 (z5 + 1))))
    else (
    some true)
def laws_eqRowS.f (a0 : List Row) (a1 : List Row) : Option Bool :=
  bif (decide ((lenI a0) ≠ (lenI a1))) then (
  some false)
  else (
  laws_eqRowS.l0 a0 a1 (((lenI a0) - 0).toNat + 1) 0)

def laws_eqRowSS.l0 (a0 : List (List Row)) (a1 : List (List Row)) : Nat → Int → Option Bool
  | 0, _ => none
  | k + 1, z5 =>
    bif (decide (z5 < (lenI a0))) then (
    (getO a0 z5).bind fun x7 =>
    (getO a1 z5).bind fun x8 =>
    (laws_eqRowS.f x7 x8).bind fun r9 =>
    bif (bo3 r9 false true) then (
    some false)
    else (
    laws_eqRowSS.l0 a0 a1 k (w64 (z5 + 1))))
    else (
    some true)
def laws_eqRowSS.f (a0 : List (List Row)) (a1 : List (List Row)) : Option Bool :=
  bif (decide ((lenI a0) ≠ (lenI a1))) then (
  some false)
  else (
  laws_eqRowSS.l0 a0 a1 (((lenI a0) - 0).toNat + 1) 0)

def laws_eqStore.f (a0 : Store) (a1 : Store) : Option Bool :=
  (laws_eqSchema.f a0.Schema a1.Schema).bind fun r1 =>
  bif (bo3 r1 false true) then (
  some false)
  else (
  bif (decide (a0.Version ≠ a1.Version)) then (
  some false)
  else (
  (laws_eqRowSS.f a0.Tables a1.Tables).bind fun r4 =>
  bif (bo3 r4 false true) then (
  some false)
  else (
  some true)))

def laws_eqCond.f (a0 : Cond) (a1 : Cond) : Option Bool :=
  bif (decide (a0.Col ≠ a1.Col)) then (
  some false)
  else (
  bif (decide (a0.Op ≠ a1.Op)) then (
  some false)
  else (
  bif (decide (a0.V ≠ a1.V)) then (
  some false)
  else (
  some true)))

def laws_eqCondS.l0 (a0 : List Cond) (a1 : List Cond) : Nat → Int → Option Bool
  | 0, _ => none
  | k + 1, z5 =>
    bif (decide (z5 < (lenI a0))) then (
    (getO a0 z5).bind fun x7 =>
    (getO a1 z5).bind fun x8 =>
    (laws_eqCond.f x7 x8).bind fun r9 =>
    bif (bo3 r9 false true) then (
    some false)
    else (
    laws_eqCondS.l0 a0 a1 k (w64 (z5 + 1))))
    else (
    some true)
def laws_eqCondS.f (a0 : List Cond) (a1 : List Cond) : Option Bool :=
  bif (decide ((lenI a0) ≠ (lenI a1))) then (
  some false)
  else (
  laws_eqCondS.l0 a0 a1 (((lenI a0) - 0).toNat + 1) 0)

def laws_eqQuery.f (a0 : Query) (a1 : Query) : Option Bool :=
  bif (decide (a0.Table ≠ a1.Table)) then (
  some false)
  else (
  (laws_eqCondS.f a0.Where a1.Where).bind fun r2 =>
  bif (bo3 r2 false true) then (
  some false)
  else (
  bif (decide (a0.Order ≠ a1.Order)) then (
  some false)
  else (
  bif (bo3 a0.Down (bo3 a1.Down false true) a1.Down) then (
  some false)
  else (
  bif (decide (a0.First ≠ a1.First)) then (
  some false)
  else (
  (laws_eqIntS.f a0.Show a1.Show).bind fun r7 =>
  bif (bo3 r7 false true) then (
  some false)
  else (
  bif (bo3 a0.Kids (bo3 a1.Kids false true) a1.Kids) then (
  some false)
  else (
  bif (decide (a0.KidTable ≠ a1.KidTable)) then (
  some false)
  else (
  bif (decide (a0.KidCol ≠ a1.KidCol)) then (
  some false)
  else (
  some true)))))))))

def laws_FnExactKidsOf.f (a0 : Store) (a1 : Query) (a2 : Int) : Option Bool :=
  (laws_szStore.f a0 1048576).bind fun r1 =>
  bif (decide (r1 < 0)) then (
  some true)
  else (
  (laws_szQuery.f a1 r1).bind fun r3 =>
  bif (decide (r3 < 0)) then (
  some true)
  else (
  (laws_toStore.f a0).bind fun r5 =>
  (laws_toQuery.f a1).bind fun r6 =>
  (spec_KidsOf.f r5 r6 a2).bind fun r7 =>
  (laws_toStore.f a0).bind fun r8 =>
  (laws_toQuery.f a1).bind fun r9 =>
  (impl_KidsOf.f r8 r9 a2).bind fun r10 =>
  bif (decide (r10 ≠ r7)) then (
  some false)
  else (
  (laws_toStore.f a0).bind fun r12 =>
  (laws_eqStore.f r8 r12).bind fun r13 =>
  bif (bo3 r13 false true) then (
  some false)
  else (
  (laws_toQuery.f a1).bind fun r15 =>
  (laws_eqQuery.f r9 r15).bind fun r16 =>
  bif (bo3 r16 false true) then (
  some false)
  else (
  some true)))))

end Go.Proofs.Ytibmfkomdhnhbaa.L
