/- The pure functions of the program. -/
import Derived.Test.YtblacmggjfinhaaSl44
namespace Go.Proofs.Ytblacmggjfinhaa.L
open Go
set_option linter.unusedVariables false
structure Cond where
  Col : Int
  Op : Int
  V : Int
  deriving Inhabited, DecidableEq
structure Query where
  Table : Int
  Where : List Cond
  Order : Int
  Down : Bool
  First : Int
  Show : List Int
  Kids : Bool
  KidTable : Int
  KidCol : Int
  deriving Inhabited, DecidableEq
structure Row where
  Id : Int
  Cells : List Int
  deriving Inhabited, DecidableEq
structure Kid where
  Id : Int
  N : Int
  deriving Inhabited, DecidableEq
structure View where
  Q : Query
  Rows : List Row
  Kids : List Kid
  deriving Inhabited, DecidableEq
structure Change where
  Table : Int
  Had : Bool
  Has : Bool
  Old : Row
  New : Row
  deriving Inhabited, DecidableEq
structure l1Cur where
  b : List Int
  i : Int
  h : Int
  deriving Inhabited, DecidableEq
structure Schema where
  Cols : List Int
  deriving Inhabited, DecidableEq
structure Store where
  Schema : Schema
  Version : Int
  Tables : List (List Row)
  deriving Inhabited, DecidableEq
structure Mut where
  Kind : Int
  Table : Int
  Row : Row
  deriving Inhabited, DecidableEq

def spec_l1New.l0 (a0 : List Int) : Nat → Int → Int → Option l1Cur
  | 0, _, _ => none
  | k + 1, z4, z5 =>
    bif (bo3 (decide (z5 < (lenI a0))) (decide (z5 < 4000)) false) then (
    (getO a0 z5).bind fun x11 =>
    spec_l1New.l0 a0 k (Ls.ar .and .i64 (w64 ((w64 ((w64 (z4 * 131)) + (w64 x11))) + 7)) 1073741823) (w64 (z5 + 1)))
    else (
    some (l1Cur.mk a0 0 z4))
def spec_l1New.f (a0 : List Int) : Option l1Cur :=
  spec_l1New.l0 a0 (((lenI a0) - 0).toNat + 1) (w64 (17333 + (lenI a0))) 0

def spec_l1Byte.f (a0 : l1Cur) : Option (l1Cur × Int) :=
  bif (decide (a0.i < (lenI a0.b))) then (
  (getO a0.b a0.i).bind fun x2 =>
  some ((l1Cur.mk a0.b (w64 (a0.i + 1)) (w64 ((w64 (a0.h * 6364136223846793005)) + 1442695040888963407))), (Ls.ar .and .i64 (w64 ((Ls.ar .and .i64 (Ls.ar .xor .i64 (Ls.ar .shr .i64 (w64 ((w64 (a0.h * 6364136223846793005)) + 1442695040888963407)) 33) (Ls.ar .shr .i64 (w64 ((w64 (a0.h * 6364136223846793005)) + 1442695040888963407)) 45)) 255) + (w64 x2))) 255)))
  else (
  some ((l1Cur.mk a0.b a0.i (w64 ((w64 (a0.h * 6364136223846793005)) + 1442695040888963407))), (Ls.ar .and .i64 (Ls.ar .xor .i64 (Ls.ar .shr .i64 (w64 ((w64 (a0.h * 6364136223846793005)) + 1442695040888963407)) 33) (Ls.ar .shr .i64 (w64 ((w64 (a0.h * 6364136223846793005)) + 1442695040888963407)) 45)) 255)))

def spec_l1Below.f (a0 : l1Cur) (a1 : Int) : Option (l1Cur × Int) :=
  bif (decide (a1 ≤ 0)) then (
  some (a0, 0))
  else (
  bif (decide (a1 ≤ 256)) then (
  (spec_l1Byte.f a0).bind fun r3 =>
  (nzO a1).bind fun u4 =>
  some ((l1Cur.mk a0.b r3.1.i r3.1.h), (Int.tmod r3.2 a1)))
  else (
  (spec_l1Byte.f a0).bind fun r5 =>
  (spec_l1Byte.f (l1Cur.mk a0.b r5.1.i r5.1.h)).bind fun r6 =>
  (spec_l1Byte.f (l1Cur.mk a0.b r6.1.i r6.1.h)).bind fun r7 =>
  (spec_l1Byte.f (l1Cur.mk a0.b r7.1.i r7.1.h)).bind fun r8 =>
  (nzO a1).bind fun u9 =>
  some ((l1Cur.mk a0.b r8.1.i r8.1.h), (Int.tmod (w64 ((w64 ((w64 ((w64 (r5.2 * 16777216)) + (w64 (r6.2 * 65536)))) + (w64 (r7.2 * 256)))) + r8.2)) a1))))

def spec_l1Once.f (a0 : l1Cur) (a1 : Int) : Option (l1Cur × Bool) :=
  (spec_l1Below.f a0 a1).bind fun r1 =>
  some ((l1Cur.mk a0.b r1.1.i r1.1.h), (decide (r1.2 = 0)))

def spec_l1In.f (a0 : Int) (a1 : Int) (a2 : Int) : Option Bool :=
  some (bo3 (decide (a1 ≤ a0)) (decide (a0 ≤ a2)) false)

def spec_SchemaOk.l0 (a0 : Schema) (K2 : Unit → Option Bool) : Nat → Int → Option Bool
  | 0, _ => none
  | k + 1, z5 =>
    bif (decide (z5 < (lenI a0.Cols))) then (
    (getO a0.Cols z5).bind fun x7 =>
    (spec_l1In.f x7 1 4).bind fun r8 =>
    bif (bo3 r8 false true) then (
    some false)
    else (
    spec_SchemaOk.l0 a0 K2 k (w64 (z5 + 1))))
    else (
    K2 ())
def spec_SchemaOk.f (a0 : Schema) : Option Bool :=
  joinK (fun (y1 : Unit) =>
  (spec_l1In.f (lenI a0.Cols) 1 3).bind fun r10 =>
  some r10) (fun K2 =>
  spec_SchemaOk.l0 a0 K2 (((lenI a0.Cols) - 0).toNat + 1) 0)

def spec_RowOk.l0 (a2 : Row) : Nat → Int → Option Bool
  | 0, _ => none
  | k + 1, z35 =>
    bif (decide (z35 < (lenI a2.Cells))) then (
    (getO a2.Cells z35).bind fun x37 =>
    (spec_l1In.f x37 (-1000000000) 1000000000).bind fun r38 =>
    bif (bo3 r38 false true) then (
    some false)
    else (
    spec_RowOk.l0 a2 k (w64 (z35 + 1))))
    else (
    some true)
def spec_RowOk.f (a0 : Schema) (a1 : Int) (a2 : Row) : Option Bool :=
  (spec_SchemaOk.f a0).bind fun r1 =>
  (gd (bo3 (bo3 r1 false true) false true) (spec_l1In.f a1 0 (w64 ((lenI a0.Cols) - 1)))).bind fun r2 =>
  (gd (bo3 (bo3 (bo3 r1 false true) true (bo3 r2 false true)) false true) (spec_l1In.f a2.Id 1 999)).bind fun r3 =>
  (gd (bo3 (bo3 (bo3 (bo3 r1 false true) true (bo3 r2 false true)) true (bo3 r3 false true)) false true) (getO a0.Cols a1)).bind fun x4 =>
  bif (bo3 (bo3 (bo3 (bo3 r1 false true) true (bo3 r2 false true)) true (bo3 r3 false true)) true (decide ((lenI a2.Cells) ≠ x4))) then (
  some false)
  else (
  spec_RowOk.l0 a2 (((lenI a2.Cells) - 0).toNat + 1) 0)

def spec_RowsOk.l0 (a0 : Schema) (a1 : Int) (a2 : List Row) (K2 : Unit → Option Bool) : Nat → Int → Option Bool
  | 0, _ => none
  | k + 1, z7 =>
    bif (decide (z7 < (lenI a2))) then (
    (getO a2 z7).bind fun x9 =>
    (spec_RowOk.f a0 a1 x9).bind fun r10 =>
    (gd (bo3 (bo3 (bo3 r10 false true) false true) (decide (0 < z7)) false) (getO a2 (w64 (z7 - 1)))).bind fun x11 =>
    bif (bo3 (bo3 r10 false true) true (bo3 (decide (0 < z7)) (decide (x9.Id ≤ x11.Id)) false)) then (
    some false)
    else (
    spec_RowsOk.l0 a0 a1 a2 K2 k (w64 (z7 + 1))))
    else (
    K2 ())
def spec_RowsOk.f (a0 : Schema) (a1 : Int) (a2 : List Row) : Option Bool :=
  joinK (fun (y1 : Unit) =>
  (spec_SchemaOk.f a0).bind fun r33 =>
  (gd r33 (spec_l1In.f a1 0 (w64 ((lenI a0.Cols) - 1)))).bind fun r34 =>
  some (bo3 (bo3 r33 r34 false) (decide ((lenI a2) ≤ 24)) false)) (fun K2 =>
  spec_RowsOk.l0 a0 a1 a2 K2 (((lenI a2) - 0).toNat + 1) 0)

def spec_StoreOk.l0 (a0 : Store) : Nat → Int → Option Bool
  | 0, _ => none
  | k + 1, z24 =>
    bif (decide (z24 < (lenI a0.Tables))) then (
    (getO a0.Tables z24).bind fun x26 =>
    (spec_RowsOk.f a0.Schema z24 x26).bind fun r27 =>
    bif (bo3 r27 false true) then (
    some false)
    else (
    spec_StoreOk.l0 a0 k (w64 (z24 + 1))))
    else (
    some true)
def spec_StoreOk.f (a0 : Store) : Option Bool :=
  (spec_SchemaOk.f a0.Schema).bind fun r1 =>
  (gd (bo3 (bo3 r1 false true) false true) (spec_l1In.f a0.Version 0 100000)).bind fun r2 =>
  bif (bo3 (bo3 (bo3 r1 false true) true (bo3 r2 false true)) true (decide ((lenI a0.Tables) ≠ (lenI a0.Schema.Cols)))) then (
  some false)
  else (
  spec_StoreOk.l0 a0 (((lenI a0.Tables) - 0).toNat + 1) 0)

def spec_l6Copy.f (a0 : Row) : Option Row :=
  (appO 8 [] a0.Cells).bind fun l1 =>
  some (Row.mk a0.Id l1)

def spec_l6Rows.l0 (a0 : List Row) : Nat → (List Row) → Int → Option ((List Row))
  | 0, _, _ => none
  | k + 1, z4, z5 =>
    bif (decide (z5 < (lenI a0))) then (
    (getO a0 z5).bind fun x7 =>
    (spec_l6Copy.f x7).bind fun r8 =>
    (some [r8]).bind fun l9 =>
    (appO 32 z4 l9).bind fun l10 =>
    spec_l6Rows.l0 a0 k l10 (w64 (z5 + 1)))
    else (
    some z4)
def spec_l6Rows.f (a0 : List Row) : Option ((List Row)) :=
  spec_l6Rows.l0 a0 (((lenI a0) - 0).toNat + 1) [] 0

def spec_l7Schema.f (a0 : Schema) : Option Schema :=
  (appO 8 [] a0.Cols).bind fun l1 =>
  some (Schema.mk l1)

def spec_l7Copy.l0 (a0 : Store) (r1 : Schema) : Nat → (List (List Row)) → Int → Option Store
  | 0, _, _ => none
  | k + 1, z17, z18 =>
    bif (decide (z18 < (lenI a0.Tables))) then (
    (getO a0.Tables z18).bind fun x20 =>
    (spec_l6Rows.f x20).bind fun r21 =>
    (some [r21]).bind fun l22 =>
    (appO 24 z17 l22).bind fun l23 =>
    spec_l7Copy.l0 a0 r1 k l23 (w64 (z18 + 1)))
    else (
    some (Store.mk r1 a0.Version z17))
def spec_l7Copy.f (a0 : Store) : Option Store :=
  (spec_l7Schema.f a0.Schema).bind fun r1 =>
  spec_l7Copy.l0 a0 r1 (((lenI a0.Tables) - 0).toNat + 1) [] 0

def spec_MutOk.f (a0 : Schema) (a1 : Mut) : Option Bool :=
  bif (decide (a1.Kind = 3)) then (
  (spec_SchemaOk.f a0).bind fun r2 =>
  (gd r2 (spec_l1In.f a1.Table 0 (w64 ((lenI a0.Cols) - 1)))).bind fun r3 =>
  (gd (bo3 r2 r3 false) (spec_l1In.f a1.Row.Id 1 999)).bind fun r4 =>
  some (bo3 (bo3 (bo3 r2 r3 false) r4 false) (decide ((lenI a1.Row.Cells) = 0)) false))
  else (
  (spec_l1In.f a1.Kind 1 2).bind fun r27 =>
  (gd r27 (spec_RowOk.f a0 a1.Table a1.Row)).bind fun r28 =>
  some (bo3 r27 r28 false))

def spec_RowAt.l0 (a0 : List Row) (a1 : Int) : Nat → Int → Option Int
  | 0, _ => none
  | k + 1, z4 =>
    bif (decide (z4 < (lenI a0))) then (
    (getO a0 z4).bind fun x6 =>
    bif (decide (x6.Id = a1)) then (
    some z4)
    else (
    spec_RowAt.l0 a0 a1 k (w64 (z4 + 1))))
    else (
    some (-1))
def spec_RowAt.f (a0 : List Row) (a1 : Int) : Option Int :=
  spec_RowAt.l0 a0 a1 (((lenI a0) - 0).toNat + 1) 0

def spec_RowDrop.l0 (a0 : List Row) (r1 : Int) : Nat → (List Row) → Int → Option ((List Row))
  | 0, _, _ => none
  | k + 1, z6, z7 =>
    bif (decide (z7 < (lenI a0))) then (
    bif (decide (z7 ≠ r1)) then (
    (getO a0 z7).bind fun x10 =>
    (spec_l6Copy.f x10).bind fun r11 =>
    (some [r11]).bind fun l12 =>
    (appO 32 z6 l12).bind fun l13 =>
    spec_RowDrop.l0 a0 r1 k l13 (w64 (z7 + 1)))
    else (
    spec_RowDrop.l0 a0 r1 k z6 (w64 (z7 + 1))))
    else (
    some z6)
def spec_RowDrop.f (a0 : List Row) (a1 : Int) : Option ((List Row)) :=
  (spec_RowAt.f a0 a1).bind fun r1 =>
  spec_RowDrop.l0 a0 r1 (((lenI a0) - 0).toNat + 1) [] 0

def spec_RowPut.l0 (a1 : Row) (r1 : (List Row)) (K3 : Int → Option ((List Row))) : Nat → Int → Int → Option ((List Row))
  | 0, _, _ => none
  | k + 1, z12, z13 =>
    bif (decide (0 ≤ z13)) then (
    (getO r1 z13).bind fun x15 =>
    bif (decide (a1.Id < x15.Id)) then (
    spec_RowPut.l0 a1 r1 K3 k z13 (w64 (z13 - 1)))
    else (
    spec_RowPut.l0 a1 r1 K3 k z12 (w64 (z13 - 1))))
    else (
    K3 z12)
def spec_RowPut.f (a0 : List Row) (a1 : Row) : Option ((List Row)) :=
  (spec_RowDrop.f a0 a1.Id).bind fun r1 =>
  joinK (fun (y2 : Int) =>
  (cutO r1 0 y2).bind fun l17 =>
  (appO 32 [] l17).bind fun l18 =>
  (spec_l6Copy.f a1).bind fun r19 =>
  (some [r19]).bind fun l20 =>
  (appO 32 l18 l20).bind fun l21 =>
  (cutO r1 y2 (lenI r1)).bind fun l22 =>
  (appO 32 l21 l22).bind fun l23 =>
  some l23) (fun K3 =>
  (spec_RowAt.f a0 a1.Id).bind fun r4 =>
  bif (decide (0 ≤ r4)) then (
  (spec_RowAt.f a0 a1.Id).bind fun r6 =>
  K3 r6)
  else (
  spec_RowPut.l0 a1 r1 K3 (((w64 ((lenI r1) - 1)) - 0).toNat + 2) (lenI r1) (w64 ((lenI r1) - 1))))

def spec_l7Do.f (a0 : Store) (a1 : Mut) : Option (Store × Change × Bool) :=
  (getO a0.Tables a1.Table).bind fun x1 =>
  (spec_RowAt.f x1 a1.Row.Id).bind fun r2 =>
  bif (bo3 (bo3 (decide (0 ≤ r2)) (bo3 (decide (a1.Kind ≠ 1)) false true) (decide (a1.Kind ≠ 1))) true (bo3 (decide (a1.Kind = 1)) (decide ((lenI x1) = 24)) false)) then (
  some (a0, (Change.mk 0 false false (Row.mk 0 []) (Row.mk 0 [])), false))
  else (
  bif (decide (a1.Kind ≠ 1)) then (
  (getO x1 r2).bind fun x17 =>
  (spec_l6Copy.f x17).bind fun r18 =>
  bif (decide (a1.Kind ≠ 3)) then (
  (spec_l6Copy.f a1.Row).bind fun r20 =>
  (spec_RowPut.f x1 a1.Row).bind fun r21 =>
  (some (setI a0.Tables a1.Table r21)).bind fun l22 =>
  some ((Store.mk a0.Schema a0.Version l22), (Change.mk a1.Table (decide (a1.Kind ≠ 1)) (decide (a1.Kind ≠ 3)) r18 r20), true))
  else (
  (spec_RowDrop.f x1 a1.Row.Id).bind fun r23 =>
  (some (setI a0.Tables a1.Table r23)).bind fun l24 =>
  some ((Store.mk a0.Schema a0.Version l24), (Change.mk a1.Table (decide (a1.Kind ≠ 1)) (decide (a1.Kind ≠ 3)) r18 (Row.mk 0 [])), true)))
  else (
  bif (decide (a1.Kind ≠ 3)) then (
  (spec_l6Copy.f a1.Row).bind fun r26 =>
  (spec_RowPut.f x1 a1.Row).bind fun r27 =>
  (some (setI a0.Tables a1.Table r27)).bind fun l28 =>
  some ((Store.mk a0.Schema a0.Version l28), (Change.mk a1.Table (decide (a1.Kind ≠ 1)) (decide (a1.Kind ≠ 3)) (Row.mk 0 []) r26), true))
  else (
  (spec_RowDrop.f x1 a1.Row.Id).bind fun r29 =>
  (some (setI a0.Tables a1.Table r29)).bind fun l30 =>
  some ((Store.mk a0.Schema a0.Version l30), (Change.mk a1.Table (decide (a1.Kind ≠ 1)) (decide (a1.Kind ≠ 3)) (Row.mk 0 []) (Row.mk 0 [])), true))))

def spec_MutDo.f (a0 : Store) (a1 : Mut) : Option (Store × Change × Bool) :=
  (spec_StoreOk.f a0).bind fun r1 =>
  bif (bo3 r1 false true) then (
  some ((Store.mk (Schema.mk []) 0 []), (Change.mk 0 false false (Row.mk 0 []) (Row.mk 0 [])), false))
  else (
  (spec_MutOk.f a0.Schema a1).bind fun r3 =>
  bif (bo3 r3 false true) then (
  (spec_l7Copy.f a0).bind fun r5 =>
  some (r5, (Change.mk 0 false false (Row.mk 0 []) (Row.mk 0 [])), false))
  else (
  (spec_l7Copy.f a0).bind fun r6 =>
  (spec_l7Do.f r6 a1).bind fun r7 =>
  bif (bo3 r7.2.2 false true) then (
  (spec_l7Copy.f a0).bind fun r9 =>
  some (r9, (Change.mk 0 false false (Row.mk 0 []) (Row.mk 0 [])), false))
  else (
  some (r7.1, r7.2.1, true))))

def spec_BatchDo.l0 (a0 : Store) (a1 : List Mut) : Nat → (List Int) → Int → (List (List Row)) → (List Change) → Int → Option (Store × (List Change) × Bool)
  | 0, _, _, _, _, _ => none
  | k + 1, z23, z24, z25, z26, z27 =>
    bif (decide (z27 < (lenI a1))) then (
    (getO a1 z27).bind fun x29 =>
    (spec_MutDo.f (Store.mk (Schema.mk z23) z24 z25) x29).bind fun r30 =>
    bif (bo3 r30.2.2 false true) then (
    (spec_l7Copy.f a0).bind fun r32 =>
    some (r32, [], false))
    else (
    (some [r30.2.1]).bind fun l33 =>
    (appO 80 z26 l33).bind fun l34 =>
    spec_BatchDo.l0 a0 a1 k r30.1.Schema.Cols r30.1.Version r30.1.Tables l34 (w64 (z27 + 1))))
    else (
    some ((Store.mk (Schema.mk z23) (w64 (a0.Version + 1)) z25), z26, true))
def spec_BatchDo.f (a0 : Store) (a1 : List Mut) : Option (Store × (List Change) × Bool) :=
  (spec_StoreOk.f a0).bind fun r1 =>
  bif (bo3 r1 false true) then (
  some ((Store.mk (Schema.mk []) 0 []), [], false))
  else (
  (spec_l1In.f (lenI a1) 1 5).bind fun r3 =>
  bif (bo3 (bo3 r3 false true) true (decide (a0.Version = 100000))) then (
  (spec_l7Copy.f a0).bind fun r10 =>
  some (r10, [], false))
  else (
  (spec_l7Copy.f a0).bind fun r11 =>
  spec_BatchDo.l0 a0 a1 (((lenI a1) - 0).toNat + 1) r11.Schema.Cols r11.Version r11.Tables [] 0))

def spec_l1PickInt.f (a0 : l1Cur) (a1 : List Int) : Option (l1Cur × Int) :=
  (spec_l1Below.f a0 (lenI a1)).bind fun r1 =>
  (getO a1 r1.2).bind fun x2 =>
  some ((l1Cur.mk a0.b r1.1.i r1.1.h), x2)

def spec_l6DrawRow.l0 (a0 : l1Cur) (a1 : Int) : Nat → Int → Int → Int → (List Int) → Int → Option (l1Cur × Row)
  | 0, _, _, _, _, _ => none
  | k + 1, z17, z18, z19, z20, z21 =>
    bif (decide (z21 < a1)) then (
    (spec_l1Below.f (l1Cur.mk a0.b z17 z18) 6).bind fun r23 =>
    (some [r23.2]).bind fun l24 =>
    (appO 8 z20 l24).bind fun l25 =>
    spec_l6DrawRow.l0 a0 a1 k r23.1.i r23.1.h z19 l25 (w64 (z21 + 1)))
    else (
    some ((l1Cur.mk a0.b z17 z18), (Row.mk z19 z20)))
def spec_l6DrawRow.f (a0 : l1Cur) (a1 : Int) : Option (l1Cur × Row) :=
  (spec_l1Below.f a0 12).bind fun r1 =>
  spec_l6DrawRow.l0 a0 a1 ((a1 - 0).toNat + 1) r1.1.i r1.1.h (w64 (1 + r1.2)) [] 0

def spec_l1Max.f (a0 : Int) (a1 : Int) : Option Int :=
  bif (decide (a1 < a0)) then (
  some a0)
  else (
  some a1)

def spec_l7DrawMut.f (a0 : l1Cur) (a1 : Store) : Option (l1Cur × Mut) :=
  (spec_l1Max.f (lenI a1.Tables) 1).bind fun r1 =>
  (spec_l1Below.f a0 r1).bind fun r2 =>
  bif (bo3 (decide ((lenI a1.Tables) ≤ r2.2)) true (decide ((lenI a1.Schema.Cols) ≤ r2.2))) then (
  some ((l1Cur.mk a0.b r2.1.i r2.1.h), (Mut.mk 3 0 (Row.mk 1 []))))
  else (
  (spec_l1Below.f (l1Cur.mk a0.b r2.1.i r2.1.h) 3).bind fun r12 =>
  (getO a1.Schema.Cols r2.2).bind fun x13 =>
  (spec_l6DrawRow.f (l1Cur.mk a0.b r12.1.i r12.1.h) x13).bind fun r14 =>
  joinK (fun (y15 : Int) (y16 : Int) (y17 : Int) (y18 : Int) =>
  joinK (fun (y40 : List Int) =>
  (spec_l1Below.f (l1Cur.mk a0.b y15 y16) 25).bind fun r43 =>
  bif (decide (r43.2 = 0)) then (
  (spec_l1Below.f (l1Cur.mk a0.b r43.1.i r43.1.h) 5).bind fun r45 =>
  some ((l1Cur.mk a0.b r45.1.i r45.1.h), (Mut.mk r45.2 r2.2 (Row.mk y18 y40))))
  else (
  bif (decide (r43.2 = 1)) then (
  (spec_l1Below.f (l1Cur.mk a0.b r43.1.i r43.1.h) 5).bind fun r47 =>
  some ((l1Cur.mk a0.b r47.1.i r47.1.h), (Mut.mk y17 (w64 (r47.2 - 1)) (Row.mk y18 y40))))
  else (
  bif (decide (r43.2 = 2)) then (
  (some [0, 999, 1000]).bind fun l49 =>
  (spec_l1PickInt.f (l1Cur.mk a0.b r43.1.i r43.1.h) l49).bind fun r50 =>
  some ((l1Cur.mk a0.b r50.1.i r50.1.h), (Mut.mk y17 r2.2 (Row.mk r50.2 y40))))
  else (
  some ((l1Cur.mk a0.b r43.1.i r43.1.h), (Mut.mk y17 r2.2 (Row.mk y18 y40))))))) (fun K41 =>
  bif (decide (y17 = 3)) then (
  K41 [])
  else (
  K41 r14.2.Cells))) (fun K19 =>
  (gd (decide ((w64 (1 + r12.2)) ≠ 1)) (getO a1.Tables r2.2)).bind fun x20 =>
  (gd (bo3 (decide ((w64 (1 + r12.2)) ≠ 1)) (decide (0 < (lenI x20))) false) (spec_l1Once.f (l1Cur.mk a0.b r14.1.i r14.1.h) 9)).bind fun r21 =>
  bif (bo3 (bo3 (decide ((w64 (1 + r12.2)) ≠ 1)) (decide (0 < (lenI x20))) false) (bo3 r21.2 false true) false) then (
  (getO a1.Tables r2.2).bind fun x37 =>
  (spec_l1Below.f (l1Cur.mk a0.b (ci3 (bo3 (decide ((w64 (1 + r12.2)) ≠ 1)) (decide (0 < (lenI x20))) false) r21.1.i r14.1.i) (ci3 (bo3 (decide ((w64 (1 + r12.2)) ≠ 1)) (decide (0 < (lenI x20))) false) r21.1.h r14.1.h)) (lenI x37)).bind fun r38 =>
  (getO x37 r38.2).bind fun x39 =>
  K19 r38.1.i r38.1.h (w64 (1 + r12.2)) x39.Id)
  else (
  K19 (ci3 (bo3 (decide ((w64 (1 + r12.2)) ≠ 1)) (decide (0 < (lenI x20))) false) r21.1.i r14.1.i) (ci3 (bo3 (decide ((w64 (1 + r12.2)) ≠ 1)) (decide (0 < (lenI x20))) false) r21.1.h r14.1.h) (w64 (1 + r12.2)) r14.2.Id)))

def spec_l7DrawBatch.l0 (a0 : l1Cur) : Nat → Int → Int → (List Int) → Int → (List (List Row)) → (List Mut) → Int → Option (l1Cur × (List Mut))
  | 0, _, _, _, _, _, _, _ => none
  | k + 1, z9, z10, z11, z12, z13, z14, z15 =>
    (spec_l1Below.f (l1Cur.mk a0.b z9 z10) 3).bind fun r16 =>
    bif (decide (z15 < (w64 (1 + r16.2)))) then (
    (spec_l7DrawMut.f (l1Cur.mk a0.b r16.1.i r16.1.h) (Store.mk (Schema.mk z11) z12 z13)).bind fun r18 =>
    (spec_MutDo.f (Store.mk (Schema.mk z11) z12 z13) r18.2).bind fun r19 =>
    joinK (fun (y20 : List Int) (y21 : Int) (y22 : List (List Row)) =>
    (gd (bo3 r19.2.2 false true) (spec_l1Once.f (l1Cur.mk a0.b r18.1.i r18.1.h) 9)).bind fun r25 =>
    bif (bo3 r19.2.2 true r25.2) then (
    (some [r18.2]).bind fun l31 =>
    (appO 48 z14 l31).bind fun l32 =>
    spec_l7DrawBatch.l0 a0 k (ci3 (bo3 r19.2.2 false true) r25.1.i r18.1.i) (ci3 (bo3 r19.2.2 false true) r25.1.h r18.1.h) y20 y21 y22 l32 (w64 (z15 + 1)))
    else (
    spec_l7DrawBatch.l0 a0 k (ci3 (bo3 r19.2.2 false true) r25.1.i r18.1.i) (ci3 (bo3 r19.2.2 false true) r25.1.h r18.1.h) y20 y21 y22 z14 (w64 (z15 + 1)))) (fun K23 =>
    bif r19.2.2 then (
    K23 r19.1.Schema.Cols r19.1.Version r19.1.Tables)
    else (
    K23 z11 z12 z13)))
    else (
    some ((l1Cur.mk a0.b r16.1.i r16.1.h), z14))
def spec_l7DrawBatch.f (a0 : l1Cur) (a1 : Store) : Option (l1Cur × (List Mut)) :=
  spec_l7DrawBatch.l0 a0 1000 a0.i a0.h a1.Schema.Cols a1.Version a1.Tables [] 0

def spec_StoreNew.f (a0 : Schema) : Option (Store × Bool) :=
  (spec_SchemaOk.f a0).bind fun r1 =>
  bif (bo3 r1 false true) then (
  some ((Store.mk (Schema.mk []) 0 []), false))
  else (
  (spec_l7Schema.f a0).bind fun r3 =>
  (mkO 24 (lenI a0.Cols) []).bind fun l4 =>
  some ((Store.mk r3 0 l4), true))

def spec_l6DrawSchema.l0 (a0 : l1Cur) : Nat → Int → Int → (List Int) → Int → Option (l1Cur × Schema)
  | 0, _, _, _, _ => none
  | k + 1, z10, z11, z12, z13 =>
    (spec_l1Below.f (l1Cur.mk a0.b z10 z11) 3).bind fun r14 =>
    bif (decide (z13 < (w64 (1 + r14.2)))) then (
    (spec_l1Below.f (l1Cur.mk a0.b r14.1.i r14.1.h) 4).bind fun r16 =>
    (some [(w64 (1 + r16.2))]).bind fun l17 =>
    (appO 8 z12 l17).bind fun l18 =>
    spec_l6DrawSchema.l0 a0 k r16.1.i r16.1.h l18 (w64 (z13 + 1)))
    else (
    some ((l1Cur.mk a0.b r14.1.i r14.1.h), (Schema.mk z12)))
def spec_l6DrawSchema.f (a0 : l1Cur) : Option (l1Cur × Schema) :=
  spec_l6DrawSchema.l0 a0 1000 a0.i a0.h [] 0

def spec_l6DrawRows.l0 (a0 : l1Cur) (a1 : Int) : Nat → Int → Int → (List Row) → Int → Option (l1Cur × (List Row))
  | 0, _, _, _, _ => none
  | k + 1, z7, z8, z9, z10 =>
    (spec_l1Below.f (l1Cur.mk a0.b z7 z8) 9).bind fun r11 =>
    bif (decide (z10 < r11.2)) then (
    (spec_l6DrawRow.f (l1Cur.mk a0.b r11.1.i r11.1.h) a1).bind fun r13 =>
    (spec_RowPut.f z9 r13.2).bind fun r14 =>
    spec_l6DrawRows.l0 a0 a1 k r13.1.i r13.1.h r14 (w64 (z10 + 1)))
    else (
    some ((l1Cur.mk a0.b r11.1.i r11.1.h), z9))
def spec_l6DrawRows.f (a0 : l1Cur) (a1 : Int) : Option (l1Cur × (List Row)) :=
  spec_l6DrawRows.l0 a0 a1 1000 a0.i a0.h [] 0

def spec_l7DrawRight.l0 (a0 : l1Cur) (r2 : Store × Bool) (K6 : Int → Int → (List (List Row)) → Option (l1Cur × Store)) : Nat → Int → Int → (List (List Row)) → Int → Option (l1Cur × Store)
  | 0, _, _, _, _ => none
  | k + 1, z15, z16, z17, z18 =>
    bif (decide (z18 < (lenI z17))) then (
    (getO r2.1.Schema.Cols z18).bind fun x20 =>
    (spec_l6DrawRows.f (l1Cur.mk a0.b z15 z16) x20).bind fun r21 =>
    (getO z17 z18).bind fun x22 =>
    (some (setI z17 z18 r21.2)).bind fun l23 =>
    spec_l7DrawRight.l0 a0 r2 K6 k r21.1.i r21.1.h l23 (w64 (z18 + 1)))
    else (
    K6 z15 z16 z17)
def spec_l7DrawRight.f (a0 : l1Cur) : Option (l1Cur × Store) :=
  (spec_l6DrawSchema.f a0).bind fun r1 =>
  (spec_StoreNew.f r1.2).bind fun r2 =>
  joinK (fun (y3 : Int) (y4 : Int) (y5 : List (List Row)) =>
  (spec_l1Below.f (l1Cur.mk a0.b y3 y4) 5).bind fun r24 =>
  some ((l1Cur.mk a0.b r24.1.i r24.1.h), (Store.mk r2.1.Schema r24.2 y5))) (fun K6 =>
  spec_l7DrawRight.l0 a0 r2 K6 (((lenI r2.1.Tables) - 0).toNat + 1) r1.1.i r1.1.h r2.1.Tables 0)

def spec_l9DrawRight.l0 (a0 : l1Cur) (y3 : Int) (K11 : Int → Int → (List Cond) → Option (l1Cur × Query)) : Nat → Int → Int → (List Cond) → Int → Option (l1Cur × Query)
  | 0, _, _, _, _ => none
  | k + 1, z53, z54, z55, z56 =>
    (spec_l1Below.f (l1Cur.mk a0.b z53 z54) 3).bind fun r57 =>
    bif (decide (z56 < r57.2)) then (
    (spec_l1Below.f (l1Cur.mk a0.b r57.1.i r57.1.h) y3).bind fun r59 =>
    (spec_l1Below.f (l1Cur.mk a0.b r59.1.i r59.1.h) 4).bind fun r60 =>
    (spec_l1Below.f (l1Cur.mk a0.b r60.1.i r60.1.h) 6).bind fun r61 =>
    (some [(Cond.mk r59.2 (w64 (1 + r60.2)) r61.2)]).bind fun l62 =>
    (appO 24 z55 l62).bind fun l63 =>
    spec_l9DrawRight.l0 a0 y3 K11 k r61.1.i r61.1.h l63 (w64 (z56 + 1)))
    else (
    K11 r57.1.i r57.1.h z55)
def spec_l9DrawRight.l1 (a0 : l1Cur) (y3 : Int) (K76 : Int → Int → Bool → (List Int) → Option (l1Cur × Query)) : Nat → Int → Int → Bool → (List Int) → Int → Option (l1Cur × Query)
  | 0, _, _, _, _, _ => none
  | k + 1, z120, z121, z122, z123, z124 =>
    bif (decide (z124 < y3)) then (
    (spec_l1Once.f (l1Cur.mk a0.b z120 z121) 2).bind fun r126 =>
    bif r126.2 then (
    (some [z124]).bind fun l128 =>
    (appO 8 z123 l128).bind fun l129 =>
    spec_l9DrawRight.l1 a0 y3 K76 k r126.1.i r126.1.h z122 l129 (w64 (z124 + 1)))
    else (
    spec_l9DrawRight.l1 a0 y3 K76 k r126.1.i r126.1.h z122 z123 (w64 (z124 + 1))))
    else (
    K76 z120 z121 z122 z123)
def spec_l9DrawRight.f (a0 : l1Cur) (a1 : Schema) : Option (l1Cur × Query) :=
  (spec_l1Max.f (lenI a1.Cols) 1).bind fun r1 =>
  (spec_l1Below.f a0 r1).bind fun r2 =>
  joinK (fun (y3 : Int) =>
  joinK (fun (y8 : Int) (y9 : Int) (y10 : List Cond) =>
  (spec_l1Below.f (l1Cur.mk a0.b y8 y9) (w64 (y3 + 1))).bind fun r64 =>
  (gd (decide (0 < r64.2)) (spec_l1Once.f (l1Cur.mk a0.b r64.1.i r64.1.h) 2)).bind fun r65 =>
  (some [0, 0, 1, 2, 3, 5]).bind fun l70 =>
  (spec_l1PickInt.f (l1Cur.mk a0.b (ci3 (decide (0 < r64.2)) r65.1.i r64.1.i) (ci3 (decide (0 < r64.2)) r65.1.h r64.1.h)) l70).bind fun r71 =>
  joinK (fun (y72 : Int) (y73 : Int) (y74 : Bool) (y75 : List Int) =>
  (spec_l1Once.f (l1Cur.mk a0.b y72 y73) 2).bind fun r130 =>
  bif r130.2 then (
  (spec_l1Max.f (lenI a1.Cols) 1).bind fun r132 =>
  (spec_l1Below.f (l1Cur.mk a0.b r130.1.i r130.1.h) r132).bind fun r133 =>
  bif (decide (r133.2 < (lenI a1.Cols))) then (
  (getO a1.Cols r133.2).bind fun x135 =>
  (spec_l1Max.f x135 1).bind fun r136 =>
  (spec_l1Below.f (l1Cur.mk a0.b r133.1.i r133.1.h) r136).bind fun r137 =>
  some ((l1Cur.mk a0.b r137.1.i r137.1.h), (Query.mk r2.2 y10 r64.2 y74 r71.2 y75 true r133.2 r137.2)))
  else (
  some ((l1Cur.mk a0.b r133.1.i r133.1.h), (Query.mk r2.2 y10 r64.2 y74 r71.2 y75 true r133.2 0))))
  else (
  some ((l1Cur.mk a0.b r130.1.i r130.1.h), (Query.mk r2.2 y10 r64.2 y74 r71.2 y75 false 0 0)))) (fun K76 =>
  spec_l9DrawRight.l1 a0 y3 K76 ((y3 - 0).toNat + 1) r71.1.i r71.1.h (bo3 (decide (0 < r64.2)) r65.2 false) [] 0)) (fun K11 =>
  spec_l9DrawRight.l0 a0 y3 K11 1000 r2.1.i r2.1.h [] 0)) (fun K4 =>
  bif (decide (r2.2 < (lenI a1.Cols))) then (
  (getO a1.Cols r2.2).bind fun x6 =>
  (spec_l1Max.f x6 1).bind fun r7 =>
  K4 r7)
  else (
  K4 1))

def spec_QueryOk.l0 (a1 : Query) (x20 : Int) (K22 : Unit → Option Bool) : Nat → Int → Option Bool
  | 0, _ => none
  | k + 1, z35 =>
    bif (decide (z35 < (lenI a1.Where))) then (
    (getO a1.Where z35).bind fun x37 =>
    (spec_l1In.f x37.Col 0 (w64 (x20 - 1))).bind fun r38 =>
    (gd (bo3 (bo3 r38 false true) false true) (spec_l1In.f x37.Op 1 4)).bind fun r39 =>
    (gd (bo3 (bo3 (bo3 r38 false true) true (bo3 r39 false true)) false true) (spec_l1In.f x37.V (-1000000000) 1000000000)).bind fun r40 =>
    bif (bo3 (bo3 (bo3 r38 false true) true (bo3 r39 false true)) true (bo3 r40 false true)) then (
    some false)
    else (
    spec_QueryOk.l0 a1 x20 K22 k (w64 (z35 + 1))))
    else (
    K22 ())
def spec_QueryOk.l1 (a1 : Query) (x20 : Int) (K55 : Unit → Option Bool) : Nat → Int → Option Bool
  | 0, _ => none
  | k + 1, z68 =>
    bif (decide (z68 < (lenI a1.Show))) then (
    (getO a1.Show z68).bind fun x70 =>
    (spec_l1In.f x70 0 (w64 (x20 - 1))).bind fun r71 =>
    (gd (bo3 (bo3 (bo3 r71 false true) false true) (decide (0 < z68)) false) (getO a1.Show (w64 (z68 - 1)))).bind fun x72 =>
    bif (bo3 (bo3 r71 false true) true (bo3 (decide (0 < z68)) (decide (x70 ≤ x72)) false)) then (
    some false)
    else (
    spec_QueryOk.l1 a1 x20 K55 k (w64 (z68 + 1))))
    else (
    K55 ())
def spec_QueryOk.f (a0 : Schema) (a1 : Query) : Option Bool :=
  (spec_SchemaOk.f a0).bind fun r1 =>
  (gd (bo3 (bo3 r1 false true) false true) (spec_l1In.f a1.Table 0 (w64 ((lenI a0.Cols) - 1)))).bind fun r2 =>
  bif (bo3 (bo3 (bo3 r1 false true) true (bo3 r2 false true)) true (decide (3 < (lenI a1.Where)))) then (
  some false)
  else (
  (getO a0.Cols a1.Table).bind fun x20 =>
  joinK (fun (y21 : Unit) =>
  joinK (fun (y54 : Unit) =>
  (spec_l1In.f a1.Order 0 x20).bind fun r94 =>
  (gd (bo3 (bo3 r94 false true) false true) (spec_l1In.f a1.First 0 24)).bind fun r95 =>
  bif (bo3 (bo3 (bo3 r94 false true) true (bo3 r95 false true)) true (bo3 (decide (a1.Order = 0)) a1.Down false)) then (
  some false)
  else (
  bif (bo3 a1.Kids false true) then (
  some (bo3 (decide (a1.KidTable = 0)) (decide (a1.KidCol = 0)) false))
  else (
  (spec_l1In.f a1.KidTable 0 (w64 ((lenI a0.Cols) - 1))).bind fun r120 =>
  (gd r120 (getO a0.Cols a1.KidTable)).bind fun x121 =>
  (gd r120 (spec_l1In.f a1.KidCol 0 (w64 (x121 - 1)))).bind fun r122 =>
  some (bo3 r120 r122 false)))) (fun K55 =>
  spec_QueryOk.l1 a1 x20 K55 (((lenI a1.Show) - 0).toNat + 1) 0)) (fun K22 =>
  spec_QueryOk.l0 a1 x20 K22 (((lenI a1.Where) - 0).toNat + 1) 0))

def spec_l9Holds.f (a0 : Cond) (a1 : Row) : Option Bool :=
  (spec_l1In.f a0.Col 0 (w64 ((lenI a1.Cells) - 1))).bind fun r1 =>
  bif (bo3 r1 false true) then (
  some false)
  else (
  (getO a1.Cells a0.Col).bind fun x3 =>
  bif (decide (a0.Op = 1)) then (
  some (decide (x3 = a0.V)))
  else (
  bif (decide (a0.Op = 2)) then (
  some (decide (x3 < a0.V)))
  else (
  bif (decide (a0.Op = 3)) then (
  some (decide (a0.V < x3)))
  else (
  bif (decide (a0.Op = 4)) then (
  some (decide (x3 ≠ a0.V)))
  else (
  some false)))))

def spec_Matches.l0 (a0 : Query) (a1 : Row) : Nat → Int → Option Bool
  | 0, _ => none
  | k + 1, z13 =>
    bif (decide (z13 < (lenI a0.Where))) then (
    (getO a0.Where z13).bind fun x15 =>
    (spec_l9Holds.f x15 a1).bind fun r16 =>
    bif (bo3 r16 false true) then (
    some false)
    else (
    spec_Matches.l0 a0 a1 k (w64 (z13 + 1))))
    else (
    some true)
def spec_Matches.f (a0 : Query) (a1 : Row) : Option Bool :=
  spec_Matches.l0 a0 a1 (((lenI a0.Where) - 0).toNat + 1) 0

def spec_l9Cell.f (a0 : Row) (a1 : Int) : Option Int :=
  (spec_l1In.f a1 0 (w64 ((lenI a0.Cells) - 1))).bind fun r1 =>
  bif (bo3 r1 false true) then (
  some 0)
  else (
  (getO a0.Cells a1).bind fun x3 =>
  some x3)

def spec_Ahead.f (a0 : Query) (a1 : Row) (a2 : Row) : Option Bool :=
  bif (decide (a0.Order ≠ 0)) then (
  (spec_l9Cell.f a1 (w64 (a0.Order - 1))).bind fun r2 =>
  (spec_l9Cell.f a2 (w64 (a0.Order - 1))).bind fun r3 =>
  bif (decide (r2 ≠ r3)) then (
  some (bo3 (decide (r2 < r3)) (bo3 a0.Down false true) a0.Down))
  else (
  some (decide (a1.Id < a2.Id))))
  else (
  some (decide (a1.Id < a2.Id)))

def spec_l11Put.l0 (a0 : Query) (a1 : List Row) (a2 : Row) (K4 : (List Row) → Bool → Int → Option ((List Row))) : Nat → (List Row) → Bool → Int → Option ((List Row))
  | 0, _, _, _ => none
  | k + 1, z20, z21, z22 =>
    bif (decide (z22 < (lenI a1))) then (
    (gd (bo3 z21 false true) (getO a1 z22)).bind fun x24 =>
    (gd (bo3 z21 false true) (spec_Ahead.f a0 a2 x24)).bind fun r25 =>
    bif (bo3 (bo3 z21 false true) r25 false) then (
    (spec_l6Copy.f a2).bind fun r36 =>
    (some [r36]).bind fun l37 =>
    (appO 32 z20 l37).bind fun l38 =>
    (getO a1 z22).bind fun x39 =>
    (ltO z22).bind fun u40 =>
    (some [x39]).bind fun l41 =>
    (appO 32 l38 l41).bind fun l42 =>
    spec_l11Put.l0 a0 a1 a2 K4 k l42 true (w64 (z22 + 1)))
    else (
    (getO a1 z22).bind fun x43 =>
    (ltO z22).bind fun u44 =>
    (some [x43]).bind fun l45 =>
    (appO 32 z20 l45).bind fun l46 =>
    spec_l11Put.l0 a0 a1 a2 K4 k l46 z21 (w64 (z22 + 1))))
    else (
    K4 z20 z21 z22)
def spec_l11Put.f (a0 : Query) (a1 : List Row) (a2 : Row) : Option ((List Row)) :=
  joinK (fun (y1 : List Row) (y2 : Bool) (y3 : Int) =>
  bif (bo3 y2 false true) then (
  (spec_l6Copy.f a2).bind fun r48 =>
  (some [r48]).bind fun l49 =>
  (appO 32 y1 l49).bind fun l50 =>
  some l50)
  else (
  some y1)) (fun K4 =>
  spec_l11Put.l0 a0 a1 a2 K4 (((lenI a1) - 0).toNat + 1) [] false 0)

def spec_RowsFor.l0 (a1 : Query) (x11 : List Row) : Nat → (List Row) → Int → Option ((List Row))
  | 0, _, _ => none
  | k + 1, z24, z25 =>
    bif (decide (z25 < (lenI x11))) then (
    (getO x11 z25).bind fun x27 =>
    (spec_Matches.f a1 x27).bind fun r28 =>
    bif r28 then (
    (spec_l11Put.f a1 z24 x27).bind fun r30 =>
    spec_RowsFor.l0 a1 x11 k r30 (w64 (z25 + 1)))
    else (
    spec_RowsFor.l0 a1 x11 k z24 (w64 (z25 + 1))))
    else (
    some z24)
def spec_RowsFor.f (a0 : Store) (a1 : Query) : Option ((List Row)) :=
  (spec_StoreOk.f a0).bind fun r1 =>
  (gd (bo3 (bo3 r1 false true) false true) (spec_QueryOk.f a0.Schema a1)).bind fun r2 =>
  bif (bo3 (bo3 r1 false true) true (bo3 r2 false true)) then (
  some [])
  else (
  (getO a0.Tables a1.Table).bind fun x11 =>
  spec_RowsFor.l0 a1 x11 (((lenI x11) - 0).toNat + 1) [] 0)

def spec_l9Copy.f (a0 : Query) : Option Query :=
  (appO 24 [] a0.Where).bind fun l1 =>
  (appO 8 [] a0.Show).bind fun l2 =>
  some (Query.mk a0.Table l1 a0.Order a0.Down a0.First l2 a0.Kids a0.KidTable a0.KidCol)

def spec_KidPut.l0 (a0 : List Kid) (a1 : Int) (a2 : Int) (K3 : (List Kid) → Bool → Option ((List Kid))) : Nat → (List Kid) → Bool → Int → Option ((List Kid))
  | 0, _, _, _ => none
  | k + 1, z10, z11, z12 =>
    bif (decide (z12 < (lenI a0))) then (
    (getO a0 z12).bind fun x14 =>
    bif (bo3 (bo3 z11 false true) (decide (a1 ≤ x14.Id)) false) then (
    joinK (fun (y22 : Int) =>
    joinK (fun (y25 : List Kid) =>
    bif (decide (x14.Id = a1)) then (
    spec_KidPut.l0 a0 a1 a2 K3 k y25 true (w64 (z12 + 1)))
    else (
    (some [x14]).bind fun l31 =>
    (appO 16 y25 l31).bind fun l32 =>
    spec_KidPut.l0 a0 a1 a2 K3 k l32 true (w64 (z12 + 1)))) (fun K26 =>
    bif (decide (0 < y22)) then (
    (some [(Kid.mk a1 y22)]).bind fun l28 =>
    (appO 16 z10 l28).bind fun l29 =>
    K26 l29)
    else (
    K26 z10))) (fun K23 =>
    bif (decide (x14.Id = a1)) then (
    K23 (w64 (x14.N + a2)))
    else (
    K23 a2)))
    else (
    (some [x14]).bind fun l33 =>
    (appO 16 z10 l33).bind fun l34 =>
    spec_KidPut.l0 a0 a1 a2 K3 k l34 z11 (w64 (z12 + 1))))
    else (
    K3 z10 z11)
def spec_KidPut.f (a0 : List Kid) (a1 : Int) (a2 : Int) : Option ((List Kid)) :=
  joinK (fun (y1 : List Kid) (y2 : Bool) =>
  bif (bo3 (bo3 y2 false true) (decide (0 < a2)) false) then (
  (some [(Kid.mk a1 a2)]).bind fun l40 =>
  (appO 16 y1 l40).bind fun l41 =>
  some l41)
  else (
  some y1)) (fun K3 =>
  spec_KidPut.l0 a0 a1 a2 K3 (((lenI a0) - 0).toNat + 1) [] false 0)

def spec_ViewOf.l0 (a1 : Query) (r11 : Query) (r12 : (List Row)) (x13 : List Row) : Nat → (List Kid) → Int → Option (View × Bool)
  | 0, _, _ => none
  | k + 1, z71, z72 =>
    bif (bo3 (decide (z72 < (lenI x13))) a1.Kids false) then (
    (getO x13 z72).bind fun x78 =>
    (getO x78.Cells a1.KidCol).bind fun x79 =>
    (spec_KidPut.f z71 x79 1).bind fun r80 =>
    spec_ViewOf.l0 a1 r11 r12 x13 k r80 (w64 (z72 + 1)))
    else (
    some ((View.mk r11 r12 z71), true))
def spec_ViewOf.f (a0 : Store) (a1 : Query) : Option (View × Bool) :=
  (spec_StoreOk.f a0).bind fun r1 =>
  (gd (bo3 (bo3 r1 false true) false true) (spec_QueryOk.f a0.Schema a1)).bind fun r2 =>
  bif (bo3 (bo3 r1 false true) true (bo3 r2 false true)) then (
  some ((View.mk (Query.mk 0 [] 0 false 0 [] false 0 0) [] []), false))
  else (
  (spec_l9Copy.f a1).bind fun r11 =>
  (spec_RowsFor.f a0 a1).bind fun r12 =>
  (getO a0.Tables a1.KidTable).bind fun x13 =>
  spec_ViewOf.l0 a1 r11 r12 x13 (((lenI x13) - 0).toNat + 1) [] 0)

def spec_l13DrawRight.f (a0 : l1Cur) : Option (l1Cur × Store × View) :=
  (spec_l7DrawRight.f a0).bind fun r1 =>
  (spec_l9DrawRight.f (l1Cur.mk a0.b r1.1.i r1.1.h) r1.2.Schema).bind fun r2 =>
  (spec_ViewOf.f r1.2 r2.2).bind fun r3 =>
  some ((l1Cur.mk a0.b r2.1.i r2.1.h), r1.2, r3.1)

def spec_l14Draw.f (a0 : List Int) : Option (View × (List Change)) :=
  (spec_l1New.f a0).bind fun r1 =>
  (spec_l13DrawRight.f r1).bind fun r2 =>
  (spec_l7DrawBatch.f (l1Cur.mk r1.b r2.1.i r2.1.h) r2.2.1).bind fun r3 =>
  (spec_BatchDo.f r2.2.1 r3.2).bind fun r4 =>
  (spec_l1Once.f (l1Cur.mk r1.b r3.1.i r3.1.h) 9).bind fun r5 =>
  bif r5.2 then (
  (spec_l1Below.f (l1Cur.mk r1.b r5.1.i r5.1.h) 3).bind fun r7 =>
  (spec_l1Once.f (l1Cur.mk r1.b r7.1.i r7.1.h) 2).bind fun r8 =>
  (spec_l1Once.f (l1Cur.mk r1.b r8.1.i r8.1.h) 2).bind fun r9 =>
  (spec_l6DrawRow.f (l1Cur.mk r1.b r9.1.i r9.1.h) 2).bind fun r10 =>
  (some [(Change.mk r7.2 r8.2 r9.2 (Row.mk 0 []) r10.2)]).bind fun l11 =>
  (appO 80 r4.2.1 l11).bind fun l12 =>
  some (r2.2.2, l12))
  else (
  some (r2.2.2, r4.2.1))

def spec_DrawViewChanges.f (a0 : List Int) : Option (View × (List Change)) :=
  (spec_l14Draw.f a0).bind fun r1 =>
  some (r1.1, r1.2)

def impl_within.f (a0 : Int) (a1 : Int) (a2 : Int) : Option Bool :=
  some (bo3 (decide (a1 ≤ a0)) (decide (a0 ≤ a2)) false)

def impl_holds.f (a0 : Cond) (a1 : Row) : Option Bool :=
  (impl_within.f a0.Col 0 (w64 ((lenI a1.Cells) - 1))).bind fun r1 =>
  bif (bo3 r1 false true) then (
  some false)
  else (
  (getO a1.Cells a0.Col).bind fun x3 =>
  bif (decide (a0.Op = 1)) then (
  some (decide (x3 = a0.V)))
  else (
  bif (decide (a0.Op = 2)) then (
  some (decide (x3 < a0.V)))
  else (
  bif (decide (a0.Op = 3)) then (
  some (decide (a0.V < x3)))
  else (
  some (bo3 (decide (a0.Op = 4)) (decide (x3 ≠ a0.V)) false)))))

def impl_Matches.l0 (a0 : Query) (a1 : Row) : Nat → Int → Option Bool
  | 0, _ => none
  | k + 1, z6 =>
    bif (decide (z6 < (lenI a0.Where))) then (
    (getO a0.Where z6).bind fun x8 =>
    (impl_holds.f x8 a1).bind fun r9 =>
    bif (bo3 r9 false true) then (
    some false)
    else (
    impl_Matches.l0 a0 a1 k (w64 (z6 + 1))))
    else (
    some true)
def impl_Matches.f (a0 : Query) (a1 : Row) : Option Bool :=
  impl_Matches.l0 a0 a1 (((lenI a0.Where) - 0).toNat + 1) 0

def impl_cellOf.f (a0 : Row) (a1 : Int) : Option Int :=
  (impl_within.f a1 0 (w64 ((lenI a0.Cells) - 1))).bind fun r1 =>
  bif (bo3 r1 false true) then (
  some 0)
  else (
  (getO a0.Cells a1).bind fun x3 =>
  some x3)

def impl_copyInts.f (a0 : List Int) : Option ((List Int)) :=
  (appO 8 [] a0).bind fun l1 =>
  some l1

def impl_copyQuery.f (a0 : Query) : Option Query :=
  (appO 24 [] a0.Where).bind fun l1 =>
  (impl_copyInts.f a0.Show).bind fun r2 =>
  some (Query.mk a0.Table l1 a0.Order a0.Down a0.First r2 a0.Kids a0.KidTable a0.KidCol)

def impl_copyRow.f (a0 : Row) : Option Row :=
  (impl_copyInts.f a0.Cells).bind fun r1 =>
  some (Row.mk a0.Id r1)

def impl_copyRows.l0 (a0 : List Row) : Nat → (List Row) → Int → Option ((List Row))
  | 0, _, _ => none
  | k + 1, z5, z6 =>
    bif (decide (z6 < (lenI a0))) then (
    (getO a0 z6).bind fun x8 =>
    (impl_copyRow.f x8).bind fun r9 =>
    (some [r9]).bind fun l10 =>
    (appO 32 z5 l10).bind fun l11 =>
    impl_copyRows.l0 a0 k l11 (w64 (z6 + 1)))
    else (
    some z5)
def impl_copyRows.f (a0 : List Row) : Option ((List Row)) :=
  impl_copyRows.l0 a0 (((lenI a0) - 0).toNat + 1) [] 0

def impl_copyView.f (a0 : View) : Option View :=
  (impl_copyQuery.f a0.Q).bind fun r1 =>
  (impl_copyRows.f a0.Rows).bind fun r2 =>
  (appO 16 [] a0.Kids).bind fun l3 =>
  some (View.mk r1 r2 l3)

def impl_RowAt_1.f (a0 : Row) (a1 : Int) : Option Bool :=
  some (decide (a0.Id = a1))

def slices_IndexFunc_impl_Row__impl_RowAt_1.l0 (a0 : List Row) (a1c0 : Int) : Nat → Int → Option Int
  | 0, _ => none
  | k + 1, z5 =>
    bif (decide (z5 < (lenI a0))) then (
    (getO a0 z5).bind fun x7 =>
    (impl_RowAt_1.f x7 a1c0).bind fun r8 =>
    bif r8 then (
    some z5)
    else (
    slices_IndexFunc_impl_Row__impl_RowAt_1.l0 a0 a1c0 k (w64 (z5 + 1))))
    else (
    some (-1))
def slices_IndexFunc_impl_Row__impl_RowAt_1.f (a0 : List Row) (a1c0 : Int) : Option Int :=
  slices_IndexFunc_impl_Row__impl_RowAt_1.l0 a0 a1c0 (((lenI a0) - 0).toNat + 1) 0

def impl_RowAt.f (a0 : List Row) (a1 : Int) : Option Int :=
  (slices_IndexFunc_impl_Row__impl_RowAt_1.f a0 a1).bind fun r1 =>
  some r1

def slices_Delete_impl_Row.f (a0 : List Row) (a1 : Int) (a2 : Int) : Option (List Row) := delO a0 a1 a2

def impl_RowDrop.f (a0 : List Row) (a1 : Int) : Option ((List Row)) :=
  (impl_copyRows.f a0).bind fun r1 =>
  (impl_RowAt.f a0 a1).bind fun r2 =>
  bif (decide (0 ≤ r2)) then (
  (slices_Delete_impl_Row.f r1 r2 (w64 (r2 + 1))).bind fun r4 =>
  some r4)
  else (
  some r1)

def impl_Ahead.f (a0 : Query) (a1 : Row) (a2 : Row) : Option Bool :=
  bif (decide (a0.Order = 0)) then (
  some (decide (a1.Id < a2.Id)))
  else (
  (impl_cellOf.f a1 (w64 (a0.Order - 1))).bind fun r2 =>
  (impl_cellOf.f a2 (w64 (a0.Order - 1))).bind fun r3 =>
  bif (decide (r2 = r3)) then (
  some (decide (a1.Id < a2.Id)))
  else (
  bif a0.Down then (
  some (decide (r3 < r2)))
  else (
  some (decide (r2 < r3)))))

def impl_rowPut_1.f (a0 : Row) (a1 : Query) (a2 : Row) : Option Bool :=
  (impl_Ahead.f a1 a2 a0).bind fun r1 =>
  some r1

def slices_IndexFunc_impl_Row__impl_rowPut_1.l0 (a0 : List Row) (a1c0 : Query) (a1c1 : Row) : Nat → Int → Option Int
  | 0, _ => none
  | k + 1, z15 =>
    bif (decide (z15 < (lenI a0))) then (
    (getO a0 z15).bind fun x17 =>
    (impl_rowPut_1.f x17 a1c0 a1c1).bind fun r18 =>
    bif r18 then (
    some z15)
    else (
    slices_IndexFunc_impl_Row__impl_rowPut_1.l0 a0 a1c0 a1c1 k (w64 (z15 + 1))))
    else (
    some (-1))
def slices_IndexFunc_impl_Row__impl_rowPut_1.f (a0 : List Row) (a1c0 : Query) (a1c1 : Row) : Option Int :=
  slices_IndexFunc_impl_Row__impl_rowPut_1.l0 a0 a1c0 a1c1 (((lenI a0) - 0).toNat + 1) 0

def slices_Insert_impl_Row.f (a0 : List Row) (a1 : Int) (a2 : List Row) : Option (List Row) := insO 32 a0 a1 a2

def impl_rowPut.f (a0 : Query) (a1 : List Row) (a2 : Row) : Option ((List Row)) :=
  (slices_IndexFunc_impl_Row__impl_rowPut_1.f a1 a0 a2).bind fun r1 =>
  joinK (fun (y2 : Int) =>
  (impl_copyRows.f a1).bind fun r5 =>
  (impl_copyRow.f a2).bind fun r6 =>
  (some [r6]).bind fun l7 =>
  (slices_Insert_impl_Row.f r5 y2 l7).bind fun r8 =>
  some r8) (fun K3 =>
  bif (decide (r1 < 0)) then (
  K3 (lenI a1))
  else (
  K3 r1))

def slices_Insert_impl_Kid.f (a0 : List Kid) (a1 : Int) (a2 : List Kid) : Option (List Kid) := insO 16 a0 a1 a2

def slices_Delete_impl_Kid.f (a0 : List Kid) (a1 : Int) (a2 : Int) : Option (List Kid) := delO a0 a1 a2

def impl_KidPut.l0 (a1 : Int) (l1 : List Kid) (K3 : Int → Option ((List Kid))) : Nat → Int → Option ((List Kid))
  | 0, _ => none
  | k + 1, z8 =>
    (gd (decide (z8 < (lenI l1))) (getO l1 z8)).bind fun x9 =>
    bif (bo3 (decide (z8 < (lenI l1))) (decide (x9.Id < a1)) false) then (
    impl_KidPut.l0 a1 l1 K3 k (w64 (z8 + 1)))
    else (
    K3 z8)
def impl_KidPut.f (a0 : List Kid) (a1 : Int) (a2 : Int) : Option ((List Kid)) :=
  (appO 16 [] a0).bind fun l1 =>
  joinK (fun (y2 : Int) =>
  (gd (bo3 (decide (y2 = (lenI l1))) false true) (getO l1 y2)).bind fun x20 =>
  bif (bo3 (decide (y2 = (lenI l1))) true (decide (x20.Id ≠ a1))) then (
  bif (decide (a2 ≤ 0)) then (
  some l1)
  else (
  (some [(Kid.mk a1 a2)]).bind fun l32 =>
  (slices_Insert_impl_Kid.f l1 y2 l32).bind fun r33 =>
  some r33))
  else (
  (getO l1 y2).bind fun x34 =>
  (some (setI l1 y2 (Kid.mk x34.Id (w64 (x34.N + a2))))).bind fun l35 =>
  (getO l35 y2).bind fun x36 =>
  bif (decide (x36.N ≤ 0)) then (
  (slices_Delete_impl_Kid.f l35 y2 (w64 (y2 + 1))).bind fun r38 =>
  some r38)
  else (
  some l35))) (fun K3 =>
  impl_KidPut.l0 a1 l1 K3 (((lenI l1) - 0).toNat + 1) 0)

def impl_ViewChange.f (a0 : View) (a1 : Change) : Option View :=
  (impl_copyView.f a0).bind fun r1 =>
  joinK (fun (y2 : List Row) =>
  bif (bo3 a0.Q.Kids (decide (a1.Table = a0.Q.KidTable)) false) then (
  joinK (fun (y28 : List Kid) =>
  bif a1.Has then (
  (impl_cellOf.f a1.New a0.Q.KidCol).bind fun r34 =>
  (impl_KidPut.f y28 r34 1).bind fun r35 =>
  some (View.mk r1.Q y2 r35))
  else (
  some (View.mk r1.Q y2 y28))) (fun K29 =>
  bif a1.Had then (
  (impl_cellOf.f a1.Old a0.Q.KidCol).bind fun r31 =>
  (impl_KidPut.f r1.Kids r31 (-1)).bind fun r32 =>
  K29 r32)
  else (
  K29 r1.Kids)))
  else (
  some (View.mk r1.Q y2 r1.Kids))) (fun K3 =>
  bif (decide (a1.Table = a0.Q.Table)) then (
  joinK (fun (y5 : List Row) =>
  (gd a1.Has (impl_Matches.f a0.Q a1.New)).bind fun r9 =>
  bif (bo3 a1.Has r9 false) then (
  (impl_rowPut.f a0.Q y5 a1.New).bind fun r18 =>
  K3 r18)
  else (
  K3 y5)) (fun K6 =>
  bif a1.Had then (
  (impl_RowDrop.f r1.Rows a1.Old.Id).bind fun r8 =>
  K6 r8)
  else (
  K6 r1.Rows)))
  else (
  K3 r1.Rows))

def impl_ViewChanges.l0 (a1 : List Change) : Nat → Int → (List Cond) → Int → Bool → Int → (List Int) → Bool → Int → Int → (List Row) → (List Kid) → Int → Option View
  | 0, _, _, _, _, _, _, _, _, _, _, _, _ => none
  | k + 1, z23, z24, z25, z26, z27, z28, z29, z30, z31, z32, z33, z34 =>
    bif (decide (z34 < (lenI a1))) then (
    (getO a1 z34).bind fun x36 =>
    (impl_ViewChange.f (View.mk (Query.mk z23 z24 z25 z26 z27 z28 z29 z30 z31) z32 z33) x36).bind fun r37 =>
    impl_ViewChanges.l0 a1 k r37.Q.Table r37.Q.Where r37.Q.Order r37.Q.Down r37.Q.First r37.Q.Show r37.Q.Kids r37.Q.KidTable r37.Q.KidCol r37.Rows r37.Kids (w64 (z34 + 1)))
    else (
    some (View.mk (Query.mk z23 z24 z25 z26 z27 z28 z29 z30 z31) z32 z33))
def impl_ViewChanges.f (a0 : View) (a1 : List Change) : Option View :=
  (impl_copyView.f a0).bind fun r1 =>
  impl_ViewChanges.l0 a1 (((lenI a1) - 0).toNat + 1) r1.Q.Table r1.Q.Where r1.Q.Order r1.Q.Down r1.Q.First r1.Q.Show r1.Q.Kids r1.Q.KidTable r1.Q.KidCol r1.Rows r1.Kids 0

def slices_Equal_impl_Cond.l0 (a0 : List Cond) (a1 : List Cond) : Nat → Int → Option Bool
  | 0, _ => none
  | k + 1, z6 =>
    bif (decide (z6 < (lenI a0))) then (
    (getO a0 z6).bind fun x8 =>
    (getO a1 z6).bind fun x9 =>
    bif (bo3 (bo3 (decide (x8.Col = x9.Col)) (bo3 (decide (x8.Op = x9.Op)) (bo3 (decide (x8.V = x9.V)) true false) false) false) false true) then (
    some false)
    else (
    slices_Equal_impl_Cond.l0 a0 a1 k (w64 (z6 + 1))))
    else (
    some true)
def slices_Equal_impl_Cond.f (a0 : List Cond) (a1 : List Cond) : Option Bool :=
  bif (decide ((lenI a0) ≠ (lenI a1))) then (
  some false)
  else (
  slices_Equal_impl_Cond.l0 a0 a1 (((lenI a0) - 0).toNat + 1) 0)

def slices_Equal_int.l0 (a0 : List Int) (a1 : List Int) : Nat → Int → Option Bool
  | 0, _ => none
  | k + 1, z6 =>
    bif (decide (z6 < (lenI a0))) then (
    (getO a0 z6).bind fun x8 =>
    (getO a1 z6).bind fun x9 =>
    bif (decide (x8 ≠ x9)) then (
    some false)
    else (
    slices_Equal_int.l0 a0 a1 k (w64 (z6 + 1))))
    else (
    some true)
def slices_Equal_int.f (a0 : List Int) (a1 : List Int) : Option Bool :=
  bif (decide ((lenI a0) ≠ (lenI a1))) then (
  some false)
  else (
  slices_Equal_int.l0 a0 a1 (((lenI a0) - 0).toNat + 1) 0)

def impl_QuerySame.f (a0 : Query) (a1 : Query) : Option Bool :=
  (gd (bo3 (bo3 (bo3 (bo3 (decide (a0.Table = a1.Table)) (decide (a0.Order = a1.Order)) false) (bo3 a0.Down a1.Down (bo3 a1.Down false true)) false) (decide (a0.First = a1.First)) false) (bo3 (bo3 (bo3 a0.Kids a1.Kids (bo3 a1.Kids false true)) (decide (a0.KidTable = a1.KidTable)) false) (decide (a0.KidCol = a1.KidCol)) false) false) (slices_Equal_impl_Cond.f a0.Where a1.Where)).bind fun r36 =>
  (gd (bo3 (bo3 (bo3 (bo3 (bo3 (decide (a0.Table = a1.Table)) (decide (a0.Order = a1.Order)) false) (bo3 a0.Down a1.Down (bo3 a1.Down false true)) false) (decide (a0.First = a1.First)) false) (bo3 (bo3 (bo3 a0.Kids a1.Kids (bo3 a1.Kids false true)) (decide (a0.KidTable = a1.KidTable)) false) (decide (a0.KidCol = a1.KidCol)) false) false) r36 false) (slices_Equal_int.f a0.Show a1.Show)).bind fun r37 =>
  some (bo3 (bo3 (bo3 (bo3 (bo3 (bo3 (decide (a0.Table = a1.Table)) (decide (a0.Order = a1.Order)) false) (bo3 a0.Down a1.Down (bo3 a1.Down false true)) false) (decide (a0.First = a1.First)) false) (bo3 (bo3 (bo3 a0.Kids a1.Kids (bo3 a1.Kids false true)) (decide (a0.KidTable = a1.KidTable)) false) (decide (a0.KidCol = a1.KidCol)) false) false) r36 false) r37 false)

def impl_RowSame.f (a0 : Row) (a1 : Row) : Option Bool :=
  (gd (decide (a0.Id = a1.Id)) (slices_Equal_int.f a0.Cells a1.Cells)).bind fun r1 =>
  some (bo3 (decide (a0.Id = a1.Id)) r1 false)

def slices_EqualFunc_impl_Row__impl_RowSame.l0 (a0 : List Row) (a1 : List Row) : Nat → Int → Option Bool
  | 0, _ => none
  | k + 1, z6 =>
    bif (decide (z6 < (lenI a0))) then (
    (getO a0 z6).bind fun x8 =>
    (getO a1 z6).bind fun x9 =>
    (impl_RowSame.f x8 x9).bind fun r10 =>
    bif (bo3 r10 false true) then (
    some false)
    else (
    slices_EqualFunc_impl_Row__impl_RowSame.l0 a0 a1 k (w64 (z6 + 1))))
    else (
    some true)
def slices_EqualFunc_impl_Row__impl_RowSame.f (a0 : List Row) (a1 : List Row) : Option Bool :=
  bif (decide ((lenI a0) ≠ (lenI a1))) then (
  some false)
  else (
  slices_EqualFunc_impl_Row__impl_RowSame.l0 a0 a1 (((lenI a0) - 0).toNat + 1) 0)

def slices_Equal_impl_Kid.l0 (a0 : List Kid) (a1 : List Kid) : Nat → Int → Option Bool
  | 0, _ => none
  | k + 1, z6 =>
    bif (decide (z6 < (lenI a0))) then (
    (getO a0 z6).bind fun x8 =>
    (getO a1 z6).bind fun x9 =>
    bif (bo3 (bo3 (decide (x8.Id = x9.Id)) (bo3 (decide (x8.N = x9.N)) true false) false) false true) then (
    some false)
    else (
    slices_Equal_impl_Kid.l0 a0 a1 k (w64 (z6 + 1))))
    else (
    some true)
def slices_Equal_impl_Kid.f (a0 : List Kid) (a1 : List Kid) : Option Bool :=
  bif (decide ((lenI a0) ≠ (lenI a1))) then (
  some false)
  else (
  slices_Equal_impl_Kid.l0 a0 a1 (((lenI a0) - 0).toNat + 1) 0)

def impl_ViewSame.f (a0 : View) (a1 : View) : Option Bool :=
  (impl_QuerySame.f a0.Q a1.Q).bind fun r1 =>
  (gd r1 (slices_EqualFunc_impl_Row__impl_RowSame.f a0.Rows a1.Rows)).bind fun r2 =>
  (gd (bo3 r1 r2 false) (slices_Equal_impl_Kid.f a0.Kids a1.Kids)).bind fun r3 =>
  some (bo3 (bo3 r1 r2 false) r3 false)

def spec_l13Copy.f (a0 : View) : Option View :=
  (spec_l9Copy.f a0.Q).bind fun r1 =>
  (spec_l6Rows.f a0.Rows).bind fun r2 =>
  (appO 16 [] a0.Kids).bind fun l3 =>
  some (View.mk r1 r2 l3)

def spec_ViewChange.f (a0 : View) (a1 : Change) : Option View :=
  (spec_l13Copy.f a0).bind fun r1 =>
  joinK (fun (y2 : List Row) =>
  bif (bo3 a0.Q.Kids (decide (a1.Table = a0.Q.KidTable)) false) then (
  joinK (fun (y28 : List Kid) =>
  bif a1.Has then (
  (spec_l9Cell.f a1.New a0.Q.KidCol).bind fun r34 =>
  (spec_KidPut.f y28 r34 1).bind fun r35 =>
  some (View.mk r1.Q y2 r35))
  else (
  some (View.mk r1.Q y2 y28))) (fun K29 =>
  bif a1.Had then (
  (spec_l9Cell.f a1.Old a0.Q.KidCol).bind fun r31 =>
  (spec_KidPut.f r1.Kids r31 (-1)).bind fun r32 =>
  K29 r32)
  else (
  K29 r1.Kids)))
  else (
  some (View.mk r1.Q y2 r1.Kids))) (fun K3 =>
  bif (decide (a1.Table = a0.Q.Table)) then (
  joinK (fun (y5 : List Row) =>
  (gd a1.Has (spec_Matches.f a0.Q a1.New)).bind fun r9 =>
  bif (bo3 a1.Has r9 false) then (
  (spec_l11Put.f a0.Q y5 a1.New).bind fun r18 =>
  K3 r18)
  else (
  K3 y5)) (fun K6 =>
  bif a1.Had then (
  (spec_RowDrop.f r1.Rows a1.Old.Id).bind fun r8 =>
  K6 r8)
  else (
  K6 r1.Rows)))
  else (
  K3 r1.Rows))

def spec_ViewChanges.l0 (a1 : List Change) : Nat → Int → (List Cond) → Int → Bool → Int → (List Int) → Bool → Int → Int → (List Row) → (List Kid) → Int → Option View
  | 0, _, _, _, _, _, _, _, _, _, _, _, _ => none
  | k + 1, z22, z23, z24, z25, z26, z27, z28, z29, z30, z31, z32, z33 =>
    bif (decide (z33 < (lenI a1))) then (
    (getO a1 z33).bind fun x35 =>
    (spec_ViewChange.f (View.mk (Query.mk z22 z23 z24 z25 z26 z27 z28 z29 z30) z31 z32) x35).bind fun r36 =>
    spec_ViewChanges.l0 a1 k r36.Q.Table r36.Q.Where r36.Q.Order r36.Q.Down r36.Q.First r36.Q.Show r36.Q.Kids r36.Q.KidTable r36.Q.KidCol r36.Rows r36.Kids (w64 (z33 + 1)))
    else (
    some (View.mk (Query.mk z22 z23 z24 z25 z26 z27 z28 z29 z30) z31 z32))
def spec_ViewChanges.f (a0 : View) (a1 : List Change) : Option View :=
  (spec_l13Copy.f a0).bind fun r1 =>
  spec_ViewChanges.l0 a1 (((lenI a1) - 0).toNat + 1) r1.Q.Table r1.Q.Where r1.Q.Order r1.Q.Down r1.Q.First r1.Q.Show r1.Q.Kids r1.Q.KidTable r1.Q.KidCol r1.Rows r1.Kids 0

def laws_at.f (a0 : List Int) (a1 : Int) : Option Int :=
  bif (decide (a1 < (lenI a0))) then (
  (getO a0 a1).bind fun x2 =>
  some (w64 x2))
  else (
  some (Int.tmod (w64 ((w64 (a1 * 7)) + (lenI a0))) 256))

def spec_DrawViewChange.f (a0 : List Int) : Option (View × Change) :=
  (spec_l14Draw.f a0).bind fun r1 =>
  bif (decide ((lenI r1.2) = 0)) then (
  some (r1.1, (Change.mk 0 false false (Row.mk 0 []) (Row.mk 0 []))))
  else (
  (getO r1.2 0).bind fun x3 =>
  some (r1.1, x3))

def laws_big.f (a0 : List Int) : Option Bool :=
  some (decide (1048576 < (lenI a0)))

def laws_FnChanges.f (a0 : List Int) : Option Bool :=
  (laws_big.f a0).bind fun r1 =>
  bif r1 then (
  some true)
  else (
  (spec_DrawViewChanges.f a0).bind fun r3 =>
  (impl_ViewChanges.f r3.1 r3.2).bind fun r4 =>
  (spec_ViewChanges.f r3.1 r3.2).bind fun r5 =>
  (impl_ViewSame.f r4 r5).bind fun r6 =>
  bif (bo3 r6 false true) then (
  some false)
  else (
  (laws_at.f a0 1).bind fun r8 =>
  (nzO (w64 ((lenI r3.2) + 1))).bind fun u9 =>
  (cutO r3.2 0 (Int.tmod r8 (w64 ((lenI r3.2) + 1)))).bind fun l10 =>
  (impl_ViewChanges.f r3.1 l10).bind fun r11 =>
  (cutO r3.2 (Int.tmod r8 (w64 ((lenI r3.2) + 1))) (lenI r3.2)).bind fun l12 =>
  (impl_ViewChanges.f r11 l12).bind fun r13 =>
  (spec_DrawViewChange.f a0).bind fun r14 =>
  (impl_ViewSame.f r4 r13).bind fun r15 =>
  (gd r15 (impl_ViewChange.f r14.1 r14.2)).bind fun r16 =>
  (some [r14.2]).bind fun l17 =>
  (gd r15 (impl_ViewChanges.f r14.1 l17)).bind fun r18 =>
  (gd r15 (impl_ViewSame.f r16 r18)).bind fun r19 =>
  some (bo3 r15 r19 false)))

end Go.Proofs.Ytblacmggjfinhaa.L
