/- The pure functions of the program. -/
import Derived.Test.YtbjbfcfekmdfmaaSl45
namespace Go.Proofs.Ytbjbfcfekmdfmaa.L
open Go
set_option linter.unusedVariables false
structure Schema where
  Cols : List Int
  deriving Inhabited, DecidableEq
structure Row where
  Id : Int
  Cells : List Int
  deriving Inhabited, DecidableEq
structure Store where
  Schema : Schema
  Version : Int
  Tables : List (List Row)
  deriving Inhabited, DecidableEq
structure Change where
  Table : Int
  Had : Bool
  Has : Bool
  Old : Row
  New : Row
  deriving Inhabited, DecidableEq
structure l1Cur where
  b : List Int
  i : Int
  h : Int
  deriving Inhabited, DecidableEq
structure Mut where
  Kind : Int
  Table : Int
  Row : Row
  deriving Inhabited, DecidableEq

def laws_sameInts.l0 (a0 : List Int) (a1 : List Int) : Nat → Int → Option Bool
  | 0, _ => none
  | k + 1, z5 =>
    bif (decide (z5 < (lenI a0))) then (
    (getO a0 z5).bind fun x7 =>
    (getO a1 z5).bind fun x8 =>
    bif (decide (x7 ≠ x8)) then (
    some false)
    else (
    laws_sameInts.l0 a0 a1 k (w64 (z5 + 1))))
    else (
    some true)
def laws_sameInts.f (a0 : List Int) (a1 : List Int) : Option Bool :=
  bif (decide ((lenI a0) ≠ (lenI a1))) then (
  some false)
  else (
  laws_sameInts.l0 a0 a1 (((lenI a0) - 0).toNat + 1) 0)

def laws_sameStore.l1 (a0 : Store) (a1 : Store) (z29 : Int) (K32 : Unit → Option Bool) : Nat → Int → Option Bool
  | 0, _ => none
  | k + 1, z44 =>
    (getO a0.Tables z29).bind fun x45 =>
    bif (decide (z44 < (lenI x45))) then (
    (getO x45 z44).bind fun x47 =>
    (getO a1.Tables z29).bind fun x48 =>
    (getO x48 z44).bind fun x49 =>
    (gd (bo3 (decide (x47.Id ≠ x49.Id)) false true) (laws_sameInts.f x47.Cells x49.Cells)).bind fun r50 =>
    bif (bo3 (decide (x47.Id ≠ x49.Id)) true (bo3 r50 false true)) then (
    some false)
    else (
    laws_sameStore.l1 a0 a1 z29 K32 k (w64 (z44 + 1))))
    else (
    K32 ())
def laws_sameStore.l0 (a0 : Store) (a1 : Store) : Nat → Int → Option Bool
  | 0, _ => none
  | k + 1, z29 =>
    bif (decide (z29 < (lenI a0.Tables))) then (
    joinK (fun (y31 : Unit) =>
    laws_sameStore.l0 a0 a1 k (w64 (z29 + 1))) (fun K32 =>
    (getO a0.Tables z29).bind fun x33 =>
    (getO a1.Tables z29).bind fun x34 =>
    bif (decide ((lenI x33) ≠ (lenI x34))) then (
    some false)
    else (
    laws_sameStore.l1 a0 a1 z29 K32 1000 0)))
    else (
    some true)
def laws_sameStore.f (a0 : Store) (a1 : Store) : Option Bool :=
  (gd (bo3 (bo3 (decide (a0.Version ≠ a1.Version)) true (decide ((lenI a0.Tables) ≠ (lenI a1.Tables)))) false true) (laws_sameInts.f a0.Schema.Cols a1.Schema.Cols)).bind fun r1 =>
  bif (bo3 (bo3 (decide (a0.Version ≠ a1.Version)) true (decide ((lenI a0.Tables) ≠ (lenI a1.Tables)))) true (bo3 r1 false true)) then (
  some false)
  else (
  laws_sameStore.l0 a0 a1 (((lenI a0.Tables) - 0).toNat + 1) 0)

def impl_within.f (a0 : Int) (a1 : Int) (a2 : Int) : Option Bool :=
  some (bo3 (decide (a1 ≤ a0)) (decide (a0 ≤ a2)) false)

def impl_SchemaOk.l0 (a0 : Schema) (K2 : Unit → Option Bool) : Nat → Int → Option Bool
  | 0, _ => none
  | k + 1, z7 =>
    bif (decide (z7 < (lenI a0.Cols))) then (
    (getO a0.Cols z7).bind fun x9 =>
    (impl_within.f x9 1 4).bind fun r10 =>
    bif (bo3 r10 false true) then (
    some false)
    else (
    impl_SchemaOk.l0 a0 K2 k (w64 (z7 + 1))))
    else (
    K2 ())
def impl_SchemaOk.f (a0 : Schema) : Option Bool :=
  joinK (fun (y1 : Unit) =>
  (impl_within.f (lenI a0.Cols) 1 3).bind fun r12 =>
  some r12) (fun K2 =>
  impl_SchemaOk.l0 a0 K2 (((lenI a0.Cols) - 0).toNat + 1) 0)

def impl_isVersion.f (a0 : Int) : Option Bool :=
  (impl_within.f a0 0 100000).bind fun r1 =>
  some r1

def impl_hasTable.f (a0 : Schema) (a1 : Int) : Option Bool :=
  (impl_within.f a1 0 (w64 ((lenI a0.Cols) - 1))).bind fun r1 =>
  some r1

def impl_isNum.f (a0 : Int) : Option Bool :=
  (impl_within.f a0 (-1000000000) 1000000000).bind fun r1 =>
  some r1

def impl_RowOk.l0 (a2 : Row) (K2 : Unit → Option Bool) : Nat → Int → Option Bool
  | 0, _ => none
  | k + 1, z10 =>
    bif (decide (z10 < (lenI a2.Cells))) then (
    (getO a2.Cells z10).bind fun x12 =>
    (impl_isNum.f x12).bind fun r13 =>
    bif (bo3 r13 false true) then (
    some false)
    else (
    impl_RowOk.l0 a2 K2 k (w64 (z10 + 1))))
    else (
    K2 ())
def impl_RowOk.f (a0 : Schema) (a1 : Int) (a2 : Row) : Option Bool :=
  joinK (fun (y1 : Unit) =>
  (impl_SchemaOk.f a0).bind fun r15 =>
  (gd r15 (impl_hasTable.f a0 a1)).bind fun r16 =>
  (gd (bo3 r15 r16 false) (getO a0.Cols a1)).bind fun x17 =>
  (gd (bo3 (bo3 r15 r16 false) (decide ((lenI a2.Cells) = x17)) false) (impl_within.f a2.Id 1 999)).bind fun r18 =>
  some (bo3 (bo3 (bo3 r15 r16 false) (decide ((lenI a2.Cells) = x17)) false) r18 false)) (fun K2 =>
  impl_RowOk.l0 a2 K2 (((lenI a2.Cells) - 0).toNat + 1) 0)

def impl_RowsOk.l0 (a0 : Schema) (a1 : Int) (a2 : List Row) (K2 : Unit → Option Bool) : Nat → Int → Option Bool
  | 0, _ => none
  | k + 1, z9 =>
    bif (decide (z9 < (lenI a2))) then (
    (getO a2 z9).bind fun x11 =>
    (impl_RowOk.f a0 a1 x11).bind fun r12 =>
    (gd (bo3 (bo3 (bo3 r12 false true) false true) (decide (0 < z9)) false) (getO a2 (w64 (z9 - 1)))).bind fun x13 =>
    bif (bo3 (bo3 r12 false true) true (bo3 (decide (0 < z9)) (decide (x11.Id ≤ x13.Id)) false)) then (
    some false)
    else (
    impl_RowsOk.l0 a0 a1 a2 K2 k (w64 (z9 + 1))))
    else (
    K2 ())
def impl_RowsOk.f (a0 : Schema) (a1 : Int) (a2 : List Row) : Option Bool :=
  joinK (fun (y1 : Unit) =>
  (impl_SchemaOk.f a0).bind fun r32 =>
  (gd r32 (impl_hasTable.f a0 a1)).bind fun r33 =>
  some (bo3 (bo3 r32 r33 false) (decide ((lenI a2) ≤ 24)) false)) (fun K2 =>
  impl_RowsOk.l0 a0 a1 a2 K2 (((lenI a2) - 0).toNat + 1) 0)

def impl_StoreOk.l0 (a0 : Store) : Nat → Int → Option Bool
  | 0, _ => none
  | k + 1, z26 =>
    bif (decide (z26 < (lenI a0.Tables))) then (
    (getO a0.Tables z26).bind fun x28 =>
    (impl_RowsOk.f a0.Schema z26 x28).bind fun r29 =>
    bif (bo3 r29 false true) then (
    some false)
    else (
    impl_StoreOk.l0 a0 k (w64 (z26 + 1))))
    else (
    some true)
def impl_StoreOk.f (a0 : Store) : Option Bool :=
  (impl_SchemaOk.f a0.Schema).bind fun r1 =>
  (gd (bo3 (bo3 r1 false true) false true) (impl_isVersion.f a0.Version)).bind fun r2 =>
  bif (bo3 (bo3 (bo3 r1 false true) true (bo3 r2 false true)) true (decide ((lenI a0.Tables) ≠ (lenI a0.Schema.Cols)))) then (
  some false)
  else (
  impl_StoreOk.l0 a0 (((lenI a0.Tables) - 0).toNat + 1) 0)

def spec_l1New.l0 (a0 : List Int) : Nat → Int → Int → Option l1Cur
  | 0, _, _ => none
  | k + 1, z4, z5 =>
    bif (bo3 (decide (z5 < (lenI a0))) (decide (z5 < 4000)) false) then (
    (getO a0 z5).bind fun x11 =>
    spec_l1New.l0 a0 k (Ls.ar .and .i64 (w64 ((w64 ((w64 (z4 * 131)) + (w64 x11))) + 7)) 1073741823) (w64 (z5 + 1)))
    else (
    some (l1Cur.mk a0 0 z4))
def spec_l1New.f (a0 : List Int) : Option l1Cur :=
  spec_l1New.l0 a0 (((lenI a0) - 0).toNat + 1) (w64 (17333 + (lenI a0))) 0

def spec_l1Byte.f (a0 : l1Cur) : Option (l1Cur × Int) :=
  bif (decide (a0.i < (lenI a0.b))) then (
  (getO a0.b a0.i).bind fun x2 =>
  some ((l1Cur.mk a0.b (w64 (a0.i + 1)) (w64 ((w64 (a0.h * 6364136223846793005)) + 1442695040888963407))), (Ls.ar .and .i64 (w64 ((Ls.ar .and .i64 (Ls.ar .xor .i64 (Ls.ar .shr .i64 (w64 ((w64 (a0.h * 6364136223846793005)) + 1442695040888963407)) 33) (Ls.ar .shr .i64 (w64 ((w64 (a0.h * 6364136223846793005)) + 1442695040888963407)) 45)) 255) + (w64 x2))) 255)))
  else (
  some ((l1Cur.mk a0.b a0.i (w64 ((w64 (a0.h * 6364136223846793005)) + 1442695040888963407))), (Ls.ar .and .i64 (Ls.ar .xor .i64 (Ls.ar .shr .i64 (w64 ((w64 (a0.h * 6364136223846793005)) + 1442695040888963407)) 33) (Ls.ar .shr .i64 (w64 ((w64 (a0.h * 6364136223846793005)) + 1442695040888963407)) 45)) 255)))

def spec_l1Below.f (a0 : l1Cur) (a1 : Int) : Option (l1Cur × Int) :=
  bif (decide (a1 ≤ 0)) then (
  some (a0, 0))
  else (
  bif (decide (a1 ≤ 256)) then (
  (spec_l1Byte.f a0).bind fun r3 =>
  (nzO a1).bind fun u4 =>
  some ((l1Cur.mk a0.b r3.1.i r3.1.h), (Int.tmod r3.2 a1)))
  else (
  (spec_l1Byte.f a0).bind fun r5 =>
  (spec_l1Byte.f (l1Cur.mk a0.b r5.1.i r5.1.h)).bind fun r6 =>
  (spec_l1Byte.f (l1Cur.mk a0.b r6.1.i r6.1.h)).bind fun r7 =>
  (spec_l1Byte.f (l1Cur.mk a0.b r7.1.i r7.1.h)).bind fun r8 =>
  (nzO a1).bind fun u9 =>
  some ((l1Cur.mk a0.b r8.1.i r8.1.h), (Int.tmod (w64 ((w64 ((w64 ((w64 (r5.2 * 16777216)) + (w64 (r6.2 * 65536)))) + (w64 (r7.2 * 256)))) + r8.2)) a1))))

def spec_l1PickInt.f (a0 : l1Cur) (a1 : List Int) : Option (l1Cur × Int) :=
  (spec_l1Below.f a0 (lenI a1)).bind fun r1 =>
  (getO a1 r1.2).bind fun x2 =>
  some ((l1Cur.mk a0.b r1.1.i r1.1.h), x2)

def spec_l6DrawSchema.l0 (a0 : l1Cur) : Nat → Int → Int → (List Int) → Int → Option (l1Cur × Schema)
  | 0, _, _, _, _ => none
  | k + 1, z10, z11, z12, z13 =>
    (spec_l1Below.f (l1Cur.mk a0.b z10 z11) 3).bind fun r14 =>
    bif (decide (z13 < (w64 (1 + r14.2)))) then (
    (spec_l1Below.f (l1Cur.mk a0.b r14.1.i r14.1.h) 4).bind fun r16 =>
    (some [(w64 (1 + r16.2))]).bind fun l17 =>
    (appO 8 z12 l17).bind fun l18 =>
    spec_l6DrawSchema.l0 a0 k r16.1.i r16.1.h l18 (w64 (z13 + 1)))
    else (
    some ((l1Cur.mk a0.b r14.1.i r14.1.h), (Schema.mk z12)))
def spec_l6DrawSchema.f (a0 : l1Cur) : Option (l1Cur × Schema) :=
  spec_l6DrawSchema.l0 a0 1000 a0.i a0.h [] 0

def spec_l6DrawBad.f (a0 : l1Cur) : Option (l1Cur × Schema) :=
  (spec_l6DrawSchema.f a0).bind fun r1 =>
  (spec_l1Below.f (l1Cur.mk a0.b r1.1.i r1.1.h) 12).bind fun r2 =>
  bif (decide (r2.2 = 0)) then (
  (some [1, 1, 1]).bind fun l4 =>
  (appO 8 r1.2.Cols l4).bind fun l5 =>
  some ((l1Cur.mk a0.b r2.1.i r2.1.h), (Schema.mk l5)))
  else (
  bif (decide (r2.2 = 1)) then (
  (some [0, 5, (-1)]).bind fun l7 =>
  (spec_l1PickInt.f (l1Cur.mk a0.b r2.1.i r2.1.h) l7).bind fun r8 =>
  (getO r1.2.Cols 0).bind fun x9 =>
  (some (setI r1.2.Cols 0 r8.2)).bind fun l10 =>
  some ((l1Cur.mk a0.b r8.1.i r8.1.h), (Schema.mk l10)))
  else (
  bif (decide (r2.2 = 2)) then (
  some ((l1Cur.mk a0.b r2.1.i r2.1.h), (Schema.mk [])))
  else (
  some ((l1Cur.mk a0.b r2.1.i r2.1.h), r1.2))))

def spec_l1In.f (a0 : Int) (a1 : Int) (a2 : Int) : Option Bool :=
  some (bo3 (decide (a1 ≤ a0)) (decide (a0 ≤ a2)) false)

def spec_SchemaOk.l0 (a0 : Schema) (K2 : Unit → Option Bool) : Nat → Int → Option Bool
  | 0, _ => none
  | k + 1, z5 =>
    bif (decide (z5 < (lenI a0.Cols))) then (
    (getO a0.Cols z5).bind fun x7 =>
    (spec_l1In.f x7 1 4).bind fun r8 =>
    bif (bo3 r8 false true) then (
    some false)
    else (
    spec_SchemaOk.l0 a0 K2 k (w64 (z5 + 1))))
    else (
    K2 ())
def spec_SchemaOk.f (a0 : Schema) : Option Bool :=
  joinK (fun (y1 : Unit) =>
  (spec_l1In.f (lenI a0.Cols) 1 3).bind fun r10 =>
  some r10) (fun K2 =>
  spec_SchemaOk.l0 a0 K2 (((lenI a0.Cols) - 0).toNat + 1) 0)

def spec_l7Schema.f (a0 : Schema) : Option Schema :=
  (appO 8 [] a0.Cols).bind fun l1 =>
  some (Schema.mk l1)

def spec_StoreNew.f (a0 : Schema) : Option (Store × Bool) :=
  (spec_SchemaOk.f a0).bind fun r1 =>
  bif (bo3 r1 false true) then (
  some ((Store.mk (Schema.mk []) 0 []), false))
  else (
  (spec_l7Schema.f a0).bind fun r3 =>
  (mkO 24 (lenI a0.Cols) []).bind fun l4 =>
  some ((Store.mk r3 0 l4), true))

def spec_l6DrawRow.l0 (a0 : l1Cur) (a1 : Int) : Nat → Int → Int → Int → (List Int) → Int → Option (l1Cur × Row)
  | 0, _, _, _, _, _ => none
  | k + 1, z17, z18, z19, z20, z21 =>
    bif (decide (z21 < a1)) then (
    (spec_l1Below.f (l1Cur.mk a0.b z17 z18) 6).bind fun r23 =>
    (some [r23.2]).bind fun l24 =>
    (appO 8 z20 l24).bind fun l25 =>
    spec_l6DrawRow.l0 a0 a1 k r23.1.i r23.1.h z19 l25 (w64 (z21 + 1)))
    else (
    some ((l1Cur.mk a0.b z17 z18), (Row.mk z19 z20)))
def spec_l6DrawRow.f (a0 : l1Cur) (a1 : Int) : Option (l1Cur × Row) :=
  (spec_l1Below.f a0 12).bind fun r1 =>
  spec_l6DrawRow.l0 a0 a1 ((a1 - 0).toNat + 1) r1.1.i r1.1.h (w64 (1 + r1.2)) [] 0

def spec_RowAt.l0 (a0 : List Row) (a1 : Int) : Nat → Int → Option Int
  | 0, _ => none
  | k + 1, z4 =>
    bif (decide (z4 < (lenI a0))) then (
    (getO a0 z4).bind fun x6 =>
    bif (decide (x6.Id = a1)) then (
    some z4)
    else (
    spec_RowAt.l0 a0 a1 k (w64 (z4 + 1))))
    else (
    some (-1))
def spec_RowAt.f (a0 : List Row) (a1 : Int) : Option Int :=
  spec_RowAt.l0 a0 a1 (((lenI a0) - 0).toNat + 1) 0

def spec_l6Copy.f (a0 : Row) : Option Row :=
  (appO 8 [] a0.Cells).bind fun l1 =>
  some (Row.mk a0.Id l1)

def spec_RowDrop.l0 (a0 : List Row) (r1 : Int) : Nat → (List Row) → Int → Option ((List Row))
  | 0, _, _ => none
  | k + 1, z6, z7 =>
    bif (decide (z7 < (lenI a0))) then (
    bif (decide (z7 ≠ r1)) then (
    (getO a0 z7).bind fun x10 =>
    (spec_l6Copy.f x10).bind fun r11 =>
    (some [r11]).bind fun l12 =>
    (appO 32 z6 l12).bind fun l13 =>
    spec_RowDrop.l0 a0 r1 k l13 (w64 (z7 + 1)))
    else (
    spec_RowDrop.l0 a0 r1 k z6 (w64 (z7 + 1))))
    else (
    some z6)
def spec_RowDrop.f (a0 : List Row) (a1 : Int) : Option ((List Row)) :=
  (spec_RowAt.f a0 a1).bind fun r1 =>
  spec_RowDrop.l0 a0 r1 (((lenI a0) - 0).toNat + 1) [] 0

def spec_RowPut.l0 (a1 : Row) (r1 : (List Row)) (K3 : Int → Option ((List Row))) : Nat → Int → Int → Option ((List Row))
  | 0, _, _ => none
  | k + 1, z12, z13 =>
    bif (decide (0 ≤ z13)) then (
    (getO r1 z13).bind fun x15 =>
    bif (decide (a1.Id < x15.Id)) then (
    spec_RowPut.l0 a1 r1 K3 k z13 (w64 (z13 - 1)))
    else (
    spec_RowPut.l0 a1 r1 K3 k z12 (w64 (z13 - 1))))
    else (
    K3 z12)
def spec_RowPut.f (a0 : List Row) (a1 : Row) : Option ((List Row)) :=
  (spec_RowDrop.f a0 a1.Id).bind fun r1 =>
  joinK (fun (y2 : Int) =>
  (cutO r1 0 y2).bind fun l17 =>
  (appO 32 [] l17).bind fun l18 =>
  (spec_l6Copy.f a1).bind fun r19 =>
  (some [r19]).bind fun l20 =>
  (appO 32 l18 l20).bind fun l21 =>
  (cutO r1 y2 (lenI r1)).bind fun l22 =>
  (appO 32 l21 l22).bind fun l23 =>
  some l23) (fun K3 =>
  (spec_RowAt.f a0 a1.Id).bind fun r4 =>
  bif (decide (0 ≤ r4)) then (
  (spec_RowAt.f a0 a1.Id).bind fun r6 =>
  K3 r6)
  else (
  spec_RowPut.l0 a1 r1 K3 (((w64 ((lenI r1) - 1)) - 0).toNat + 2) (lenI r1) (w64 ((lenI r1) - 1))))

def spec_l6DrawRows.l0 (a0 : l1Cur) (a1 : Int) : Nat → Int → Int → (List Row) → Int → Option (l1Cur × (List Row))
  | 0, _, _, _, _ => none
  | k + 1, z7, z8, z9, z10 =>
    (spec_l1Below.f (l1Cur.mk a0.b z7 z8) 9).bind fun r11 =>
    bif (decide (z10 < r11.2)) then (
    (spec_l6DrawRow.f (l1Cur.mk a0.b r11.1.i r11.1.h) a1).bind fun r13 =>
    (spec_RowPut.f z9 r13.2).bind fun r14 =>
    spec_l6DrawRows.l0 a0 a1 k r13.1.i r13.1.h r14 (w64 (z10 + 1)))
    else (
    some ((l1Cur.mk a0.b r11.1.i r11.1.h), z9))
def spec_l6DrawRows.f (a0 : l1Cur) (a1 : Int) : Option (l1Cur × (List Row)) :=
  spec_l6DrawRows.l0 a0 a1 1000 a0.i a0.h [] 0

def spec_l7DrawRight.l0 (a0 : l1Cur) (r2 : Store × Bool) (K6 : Int → Int → (List (List Row)) → Option (l1Cur × Store)) : Nat → Int → Int → (List (List Row)) → Int → Option (l1Cur × Store)
  | 0, _, _, _, _ => none
  | k + 1, z15, z16, z17, z18 =>
    bif (decide (z18 < (lenI z17))) then (
    (getO r2.1.Schema.Cols z18).bind fun x20 =>
    (spec_l6DrawRows.f (l1Cur.mk a0.b z15 z16) x20).bind fun r21 =>
    (getO z17 z18).bind fun x22 =>
    (some (setI z17 z18 r21.2)).bind fun l23 =>
    spec_l7DrawRight.l0 a0 r2 K6 k r21.1.i r21.1.h l23 (w64 (z18 + 1)))
    else (
    K6 z15 z16 z17)
def spec_l7DrawRight.f (a0 : l1Cur) : Option (l1Cur × Store) :=
  (spec_l6DrawSchema.f a0).bind fun r1 =>
  (spec_StoreNew.f r1.2).bind fun r2 =>
  joinK (fun (y3 : Int) (y4 : Int) (y5 : List (List Row)) =>
  (spec_l1Below.f (l1Cur.mk a0.b y3 y4) 5).bind fun r24 =>
  some ((l1Cur.mk a0.b r24.1.i r24.1.h), (Store.mk r2.1.Schema r24.2 y5))) (fun K6 =>
  spec_l7DrawRight.l0 a0 r2 K6 (((lenI r2.1.Tables) - 0).toNat + 1) r1.1.i r1.1.h r2.1.Tables 0)

def spec_l7Draw.f (a0 : l1Cur) : Option (l1Cur × Store) :=
  (spec_l7DrawRight.f a0).bind fun r1 =>
  (spec_l1Below.f (l1Cur.mk a0.b r1.1.i r1.1.h) 25).bind fun r2 =>
  bif (decide (r2.2 = 0)) then (
  (some [(-1), 100000, 100001]).bind fun l4 =>
  (spec_l1PickInt.f (l1Cur.mk a0.b r2.1.i r2.1.h) l4).bind fun r5 =>
  some ((l1Cur.mk a0.b r5.1.i r5.1.h), (Store.mk r1.2.Schema r5.2 r1.2.Tables)))
  else (
  bif (decide (r2.2 = 1)) then (
  (cutO r1.2.Tables 1 (lenI r1.2.Tables)).bind fun l7 =>
  some ((l1Cur.mk a0.b r2.1.i r2.1.h), (Store.mk r1.2.Schema r1.2.Version l7)))
  else (
  bif (decide (r2.2 = 2)) then (
  (getO r1.2.Tables 0).bind fun x9 =>
  (spec_l6DrawRow.f (l1Cur.mk a0.b r2.1.i r2.1.h) 2).bind fun r10 =>
  (some [r10.2]).bind fun l11 =>
  (appO 32 x9 l11).bind fun l12 =>
  (some (setI r1.2.Tables 0 l12)).bind fun l13 =>
  some ((l1Cur.mk a0.b r10.1.i r10.1.h), (Store.mk r1.2.Schema r1.2.Version l13)))
  else (
  bif (decide (r2.2 = 3)) then (
  (spec_l6DrawBad.f (l1Cur.mk a0.b r2.1.i r2.1.h)).bind fun r15 =>
  some ((l1Cur.mk a0.b r15.1.i r15.1.h), (Store.mk r15.2 r1.2.Version r1.2.Tables)))
  else (
  some ((l1Cur.mk a0.b r2.1.i r2.1.h), r1.2)))))

def spec_RowOk.l0 (a2 : Row) : Nat → Int → Option Bool
  | 0, _ => none
  | k + 1, z35 =>
    bif (decide (z35 < (lenI a2.Cells))) then (
    (getO a2.Cells z35).bind fun x37 =>
    (spec_l1In.f x37 (-1000000000) 1000000000).bind fun r38 =>
    bif (bo3 r38 false true) then (
    some false)
    else (
    spec_RowOk.l0 a2 k (w64 (z35 + 1))))
    else (
    some true)
def spec_RowOk.f (a0 : Schema) (a1 : Int) (a2 : Row) : Option Bool :=
  (spec_SchemaOk.f a0).bind fun r1 =>
  (gd (bo3 (bo3 r1 false true) false true) (spec_l1In.f a1 0 (w64 ((lenI a0.Cols) - 1)))).bind fun r2 =>
  (gd (bo3 (bo3 (bo3 r1 false true) true (bo3 r2 false true)) false true) (spec_l1In.f a2.Id 1 999)).bind fun r3 =>
  (gd (bo3 (bo3 (bo3 (bo3 r1 false true) true (bo3 r2 false true)) true (bo3 r3 false true)) false true) (getO a0.Cols a1)).bind fun x4 =>
  bif (bo3 (bo3 (bo3 (bo3 r1 false true) true (bo3 r2 false true)) true (bo3 r3 false true)) true (decide ((lenI a2.Cells) ≠ x4))) then (
  some false)
  else (
  spec_RowOk.l0 a2 (((lenI a2.Cells) - 0).toNat + 1) 0)

def spec_RowsOk.l0 (a0 : Schema) (a1 : Int) (a2 : List Row) (K2 : Unit → Option Bool) : Nat → Int → Option Bool
  | 0, _ => none
  | k + 1, z7 =>
    bif (decide (z7 < (lenI a2))) then (
    (getO a2 z7).bind fun x9 =>
    (spec_RowOk.f a0 a1 x9).bind fun r10 =>
    (gd (bo3 (bo3 (bo3 r10 false true) false true) (decide (0 < z7)) false) (getO a2 (w64 (z7 - 1)))).bind fun x11 =>
    bif (bo3 (bo3 r10 false true) true (bo3 (decide (0 < z7)) (decide (x9.Id ≤ x11.Id)) false)) then (
    some false)
    else (
    spec_RowsOk.l0 a0 a1 a2 K2 k (w64 (z7 + 1))))
    else (
    K2 ())
def spec_RowsOk.f (a0 : Schema) (a1 : Int) (a2 : List Row) : Option Bool :=
  joinK (fun (y1 : Unit) =>
  (spec_SchemaOk.f a0).bind fun r33 =>
  (gd r33 (spec_l1In.f a1 0 (w64 ((lenI a0.Cols) - 1)))).bind fun r34 =>
  some (bo3 (bo3 r33 r34 false) (decide ((lenI a2) ≤ 24)) false)) (fun K2 =>
  spec_RowsOk.l0 a0 a1 a2 K2 (((lenI a2) - 0).toNat + 1) 0)

def spec_StoreOk.l0 (a0 : Store) : Nat → Int → Option Bool
  | 0, _ => none
  | k + 1, z24 =>
    bif (decide (z24 < (lenI a0.Tables))) then (
    (getO a0.Tables z24).bind fun x26 =>
    (spec_RowsOk.f a0.Schema z24 x26).bind fun r27 =>
    bif (bo3 r27 false true) then (
    some false)
    else (
    spec_StoreOk.l0 a0 k (w64 (z24 + 1))))
    else (
    some true)
def spec_StoreOk.f (a0 : Store) : Option Bool :=
  (spec_SchemaOk.f a0.Schema).bind fun r1 =>
  (gd (bo3 (bo3 r1 false true) false true) (spec_l1In.f a0.Version 0 100000)).bind fun r2 =>
  bif (bo3 (bo3 (bo3 r1 false true) true (bo3 r2 false true)) true (decide ((lenI a0.Tables) ≠ (lenI a0.Schema.Cols)))) then (
  some false)
  else (
  spec_StoreOk.l0 a0 (((lenI a0.Tables) - 0).toNat + 1) 0)

def spec_l6Rows.l0 (a0 : List Row) : Nat → (List Row) → Int → Option ((List Row))
  | 0, _, _ => none
  | k + 1, z4, z5 =>
    bif (decide (z5 < (lenI a0))) then (
    (getO a0 z5).bind fun x7 =>
    (spec_l6Copy.f x7).bind fun r8 =>
    (some [r8]).bind fun l9 =>
    (appO 32 z4 l9).bind fun l10 =>
    spec_l6Rows.l0 a0 k l10 (w64 (z5 + 1)))
    else (
    some z4)
def spec_l6Rows.f (a0 : List Row) : Option ((List Row)) :=
  spec_l6Rows.l0 a0 (((lenI a0) - 0).toNat + 1) [] 0

def spec_l7Copy.l0 (a0 : Store) (r1 : Schema) : Nat → (List (List Row)) → Int → Option Store
  | 0, _, _ => none
  | k + 1, z17, z18 =>
    bif (decide (z18 < (lenI a0.Tables))) then (
    (getO a0.Tables z18).bind fun x20 =>
    (spec_l6Rows.f x20).bind fun r21 =>
    (some [r21]).bind fun l22 =>
    (appO 24 z17 l22).bind fun l23 =>
    spec_l7Copy.l0 a0 r1 k l23 (w64 (z18 + 1)))
    else (
    some (Store.mk r1 a0.Version z17))
def spec_l7Copy.f (a0 : Store) : Option Store :=
  (spec_l7Schema.f a0.Schema).bind fun r1 =>
  spec_l7Copy.l0 a0 r1 (((lenI a0.Tables) - 0).toNat + 1) [] 0

def spec_MutOk.f (a0 : Schema) (a1 : Mut) : Option Bool :=
  bif (decide (a1.Kind = 3)) then (
  (spec_SchemaOk.f a0).bind fun r2 =>
  (gd r2 (spec_l1In.f a1.Table 0 (w64 ((lenI a0.Cols) - 1)))).bind fun r3 =>
  (gd (bo3 r2 r3 false) (spec_l1In.f a1.Row.Id 1 999)).bind fun r4 =>
  some (bo3 (bo3 (bo3 r2 r3 false) r4 false) (decide ((lenI a1.Row.Cells) = 0)) false))
  else (
  (spec_l1In.f a1.Kind 1 2).bind fun r27 =>
  (gd r27 (spec_RowOk.f a0 a1.Table a1.Row)).bind fun r28 =>
  some (bo3 r27 r28 false))

def spec_l7Do.f (a0 : Store) (a1 : Mut) : Option (Store × Change × Bool) :=
  (getO a0.Tables a1.Table).bind fun x1 =>
  (spec_RowAt.f x1 a1.Row.Id).bind fun r2 =>
  bif (bo3 (bo3 (decide (0 ≤ r2)) (bo3 (decide (a1.Kind ≠ 1)) false true) (decide (a1.Kind ≠ 1))) true (bo3 (decide (a1.Kind = 1)) (decide ((lenI x1) = 24)) false)) then (
  some (a0, (Change.mk 0 false false (Row.mk 0 []) (Row.mk 0 [])), false))
  else (
  bif (decide (a1.Kind ≠ 1)) then (
  (getO x1 r2).bind fun x17 =>
  (spec_l6Copy.f x17).bind fun r18 =>
  bif (decide (a1.Kind ≠ 3)) then (
  (spec_l6Copy.f a1.Row).bind fun r20 =>
  (spec_RowPut.f x1 a1.Row).bind fun r21 =>
  (some (setI a0.Tables a1.Table r21)).bind fun l22 =>
  some ((Store.mk a0.Schema a0.Version l22), (Change.mk a1.Table (decide (a1.Kind ≠ 1)) (decide (a1.Kind ≠ 3)) r18 r20), true))
  else (
  (spec_RowDrop.f x1 a1.Row.Id).bind fun r23 =>
  (some (setI a0.Tables a1.Table r23)).bind fun l24 =>
  some ((Store.mk a0.Schema a0.Version l24), (Change.mk a1.Table (decide (a1.Kind ≠ 1)) (decide (a1.Kind ≠ 3)) r18 (Row.mk 0 [])), true)))
  else (
  bif (decide (a1.Kind ≠ 3)) then (
  (spec_l6Copy.f a1.Row).bind fun r26 =>
  (spec_RowPut.f x1 a1.Row).bind fun r27 =>
  (some (setI a0.Tables a1.Table r27)).bind fun l28 =>
  some ((Store.mk a0.Schema a0.Version l28), (Change.mk a1.Table (decide (a1.Kind ≠ 1)) (decide (a1.Kind ≠ 3)) (Row.mk 0 []) r26), true))
  else (
  (spec_RowDrop.f x1 a1.Row.Id).bind fun r29 =>
  (some (setI a0.Tables a1.Table r29)).bind fun l30 =>
  some ((Store.mk a0.Schema a0.Version l30), (Change.mk a1.Table (decide (a1.Kind ≠ 1)) (decide (a1.Kind ≠ 3)) (Row.mk 0 []) (Row.mk 0 [])), true))))

def spec_MutDo.f (a0 : Store) (a1 : Mut) : Option (Store × Change × Bool) :=
  (spec_StoreOk.f a0).bind fun r1 =>
  bif (bo3 r1 false true) then (
  some ((Store.mk (Schema.mk []) 0 []), (Change.mk 0 false false (Row.mk 0 []) (Row.mk 0 [])), false))
  else (
  (spec_MutOk.f a0.Schema a1).bind fun r3 =>
  bif (bo3 r3 false true) then (
  (spec_l7Copy.f a0).bind fun r5 =>
  some (r5, (Change.mk 0 false false (Row.mk 0 []) (Row.mk 0 [])), false))
  else (
  (spec_l7Copy.f a0).bind fun r6 =>
  (spec_l7Do.f r6 a1).bind fun r7 =>
  bif (bo3 r7.2.2 false true) then (
  (spec_l7Copy.f a0).bind fun r9 =>
  some (r9, (Change.mk 0 false false (Row.mk 0 []) (Row.mk 0 [])), false))
  else (
  some (r7.1, r7.2.1, true))))

def spec_l1Once.f (a0 : l1Cur) (a1 : Int) : Option (l1Cur × Bool) :=
  (spec_l1Below.f a0 a1).bind fun r1 =>
  some ((l1Cur.mk a0.b r1.1.i r1.1.h), (decide (r1.2 = 0)))

def spec_l1Max.f (a0 : Int) (a1 : Int) : Option Int :=
  bif (decide (a1 < a0)) then (
  some a0)
  else (
  some a1)

def spec_l7DrawMut.f (a0 : l1Cur) (a1 : Store) : Option (l1Cur × Mut) :=
  (spec_l1Max.f (lenI a1.Tables) 1).bind fun r1 =>
  (spec_l1Below.f a0 r1).bind fun r2 =>
  bif (bo3 (decide ((lenI a1.Tables) ≤ r2.2)) true (decide ((lenI a1.Schema.Cols) ≤ r2.2))) then (
  some ((l1Cur.mk a0.b r2.1.i r2.1.h), (Mut.mk 3 0 (Row.mk 1 []))))
  else (
  (spec_l1Below.f (l1Cur.mk a0.b r2.1.i r2.1.h) 3).bind fun r12 =>
  (getO a1.Schema.Cols r2.2).bind fun x13 =>
  (spec_l6DrawRow.f (l1Cur.mk a0.b r12.1.i r12.1.h) x13).bind fun r14 =>
  joinK (fun (y15 : Int) (y16 : Int) (y17 : Int) (y18 : Int) =>
  joinK (fun (y40 : List Int) =>
  (spec_l1Below.f (l1Cur.mk a0.b y15 y16) 25).bind fun r43 =>
  bif (decide (r43.2 = 0)) then (
  (spec_l1Below.f (l1Cur.mk a0.b r43.1.i r43.1.h) 5).bind fun r45 =>
  some ((l1Cur.mk a0.b r45.1.i r45.1.h), (Mut.mk r45.2 r2.2 (Row.mk y18 y40))))
  else (
  bif (decide (r43.2 = 1)) then (
  (spec_l1Below.f (l1Cur.mk a0.b r43.1.i r43.1.h) 5).bind fun r47 =>
  some ((l1Cur.mk a0.b r47.1.i r47.1.h), (Mut.mk y17 (w64 (r47.2 - 1)) (Row.mk y18 y40))))
  else (
  bif (decide (r43.2 = 2)) then (
  (some [0, 999, 1000]).bind fun l49 =>
  (spec_l1PickInt.f (l1Cur.mk a0.b r43.1.i r43.1.h) l49).bind fun r50 =>
  some ((l1Cur.mk a0.b r50.1.i r50.1.h), (Mut.mk y17 r2.2 (Row.mk r50.2 y40))))
  else (
  some ((l1Cur.mk a0.b r43.1.i r43.1.h), (Mut.mk y17 r2.2 (Row.mk y18 y40))))))) (fun K41 =>
  bif (decide (y17 = 3)) then (
  K41 [])
  else (
  K41 r14.2.Cells))) (fun K19 =>
  (gd (decide ((w64 (1 + r12.2)) ≠ 1)) (getO a1.Tables r2.2)).bind fun x20 =>
  (gd (bo3 (decide ((w64 (1 + r12.2)) ≠ 1)) (decide (0 < (lenI x20))) false) (spec_l1Once.f (l1Cur.mk a0.b r14.1.i r14.1.h) 9)).bind fun r21 =>
  bif (bo3 (bo3 (decide ((w64 (1 + r12.2)) ≠ 1)) (decide (0 < (lenI x20))) false) (bo3 r21.2 false true) false) then (
  (getO a1.Tables r2.2).bind fun x37 =>
  (spec_l1Below.f (l1Cur.mk a0.b (ci3 (bo3 (decide ((w64 (1 + r12.2)) ≠ 1)) (decide (0 < (lenI x20))) false) r21.1.i r14.1.i) (ci3 (bo3 (decide ((w64 (1 + r12.2)) ≠ 1)) (decide (0 < (lenI x20))) false) r21.1.h r14.1.h)) (lenI x37)).bind fun r38 =>
  (getO x37 r38.2).bind fun x39 =>
  K19 r38.1.i r38.1.h (w64 (1 + r12.2)) x39.Id)
  else (
  K19 (ci3 (bo3 (decide ((w64 (1 + r12.2)) ≠ 1)) (decide (0 < (lenI x20))) false) r21.1.i r14.1.i) (ci3 (bo3 (decide ((w64 (1 + r12.2)) ≠ 1)) (decide (0 < (lenI x20))) false) r21.1.h r14.1.h) (w64 (1 + r12.2)) r14.2.Id)))

def spec_DrawBack.f (a0 : List Int) : Option (Store × Change) :=
  (spec_l1New.f a0).bind fun r1 =>
  (spec_l7Draw.f r1).bind fun r2 =>
  (spec_l7DrawMut.f (l1Cur.mk r1.b r2.1.i r2.1.h) r2.2).bind fun r3 =>
  (spec_MutDo.f r2.2 r3.2).bind fun r4 =>
  (gd r4.2.2 (spec_l1Once.f (l1Cur.mk r1.b r3.1.i r3.1.h) 6)).bind fun r5 =>
  bif (bo3 r4.2.2 (bo3 r5.2 false true) false) then (
  some (r4.1, r4.2.1))
  else (
  some (r2.2, r4.2.1))

def impl_copyInts.f (a0 : List Int) : Option ((List Int)) :=
  (appO 8 [] a0).bind fun l1 =>
  some l1

def impl_copyRow.f (a0 : Row) : Option Row :=
  (impl_copyInts.f a0.Cells).bind fun r1 =>
  some (Row.mk a0.Id r1)

def impl_copyRows.l0 (a0 : List Row) : Nat → (List Row) → Int → Option ((List Row))
  | 0, _, _ => none
  | k + 1, z5, z6 =>
    bif (decide (z6 < (lenI a0))) then (
    (getO a0 z6).bind fun x8 =>
    (impl_copyRow.f x8).bind fun r9 =>
    (some [r9]).bind fun l10 =>
    (appO 32 z5 l10).bind fun l11 =>
    impl_copyRows.l0 a0 k l11 (w64 (z6 + 1)))
    else (
    some z5)
def impl_copyRows.f (a0 : List Row) : Option ((List Row)) :=
  impl_copyRows.l0 a0 (((lenI a0) - 0).toNat + 1) [] 0

def impl_copyStore.l0 (a0 : Store) (r1 : (List Int)) : Nat → (List (List Row)) → Int → Option Store
  | 0, _, _ => none
  | k + 1, z15, z16 =>
    bif (decide (z16 < (lenI a0.Tables))) then (
    (getO a0.Tables z16).bind fun x18 =>
    (impl_copyRows.f x18).bind fun r19 =>
    (some [r19]).bind fun l20 =>
    (appO 24 z15 l20).bind fun l21 =>
    impl_copyStore.l0 a0 r1 k l21 (w64 (z16 + 1)))
    else (
    some (Store.mk (Schema.mk r1) a0.Version z15))
def impl_copyStore.f (a0 : Store) : Option Store :=
  (impl_copyInts.f a0.Schema.Cols).bind fun r1 =>
  impl_copyStore.l0 a0 r1 (((lenI a0.Tables) - 0).toNat + 1) [] 0

def impl_RowAt_1.f (a0 : Row) (a1 : Int) : Option Bool :=
  some (decide (a0.Id = a1))

def slices_IndexFunc_impl_Row__impl_RowAt_1.l0 (a0 : List Row) (a1c0 : Int) : Nat → Int → Option Int
  | 0, _ => none
  | k + 1, z5 =>
    bif (decide (z5 < (lenI a0))) then (
    (getO a0 z5).bind fun x7 =>
    (impl_RowAt_1.f x7 a1c0).bind fun r8 =>
    bif r8 then (
    some z5)
    else (
    slices_IndexFunc_impl_Row__impl_RowAt_1.l0 a0 a1c0 k (w64 (z5 + 1))))
    else (
    some (-1))
def slices_IndexFunc_impl_Row__impl_RowAt_1.f (a0 : List Row) (a1c0 : Int) : Option Int :=
  slices_IndexFunc_impl_Row__impl_RowAt_1.l0 a0 a1c0 (((lenI a0) - 0).toNat + 1) 0

def impl_RowAt.f (a0 : List Row) (a1 : Int) : Option Int :=
  (slices_IndexFunc_impl_Row__impl_RowAt_1.f a0 a1).bind fun r1 =>
  some r1

def slices_Equal_int.l0 (a0 : List Int) (a1 : List Int) : Nat → Int → Option Bool
  | 0, _ => none
  | k + 1, z6 =>
    bif (decide (z6 < (lenI a0))) then (
    (getO a0 z6).bind fun x8 =>
    (getO a1 z6).bind fun x9 =>
    bif (decide (x8 ≠ x9)) then (
    some false)
    else (
    slices_Equal_int.l0 a0 a1 k (w64 (z6 + 1))))
    else (
    some true)
def slices_Equal_int.f (a0 : List Int) (a1 : List Int) : Option Bool :=
  bif (decide ((lenI a0) ≠ (lenI a1))) then (
  some false)
  else (
  slices_Equal_int.l0 a0 a1 (((lenI a0) - 0).toNat + 1) 0)

def impl_RowSame.f (a0 : Row) (a1 : Row) : Option Bool :=
  (gd (decide (a0.Id = a1.Id)) (slices_Equal_int.f a0.Cells a1.Cells)).bind fun r1 =>
  some (bo3 (decide (a0.Id = a1.Id)) r1 false)

def slices_Delete_impl_Row.f (a0 : List Row) (a1 : Int) (a2 : Int) : Option (List Row) := delO a0 a1 a2

def impl_RowDrop.f (a0 : List Row) (a1 : Int) : Option ((List Row)) :=
  (impl_copyRows.f a0).bind fun r1 =>
  (impl_RowAt.f a0 a1).bind fun r2 =>
  bif (decide (0 ≤ r2)) then (
  (slices_Delete_impl_Row.f r1 r2 (w64 (r2 + 1))).bind fun r4 =>
  some r4)
  else (
  some r1)

def slices_Insert_impl_Row.f (a0 : List Row) (a1 : Int) (a2 : List Row) : Option (List Row) := insO 32 a0 a1 a2

def impl_RowPut_1.f (a0 : Row) (a1 : Row) : Option Bool :=
  some (decide (a1.Id < a0.Id))

def slices_IndexFunc_impl_Row__impl_RowPut_1.l0 (a0 : List Row) (a1c0 : Row) : Nat → Int → Option Int
  | 0, _ => none
  | k + 1, z6 =>
    bif (decide (z6 < (lenI a0))) then (
    (getO a0 z6).bind fun x8 =>
    (impl_RowPut_1.f x8 a1c0).bind fun r9 =>
    bif r9 then (
    some z6)
    else (
    slices_IndexFunc_impl_Row__impl_RowPut_1.l0 a0 a1c0 k (w64 (z6 + 1))))
    else (
    some (-1))
def slices_IndexFunc_impl_Row__impl_RowPut_1.f (a0 : List Row) (a1c0 : Row) : Option Int :=
  slices_IndexFunc_impl_Row__impl_RowPut_1.l0 a0 a1c0 (((lenI a0) - 0).toNat + 1) 0

def impl_RowPut.f (a0 : List Row) (a1 : Row) : Option ((List Row)) :=
  (impl_copyRows.f a0).bind fun r1 =>
  (impl_RowAt.f a0 a1.Id).bind fun r2 =>
  bif (decide (0 ≤ r2)) then (
  (impl_copyRow.f a1).bind fun r4 =>
  (getO r1 r2).bind fun x5 =>
  (some (setI r1 r2 r4)).bind fun l6 =>
  some l6)
  else (
  (slices_IndexFunc_impl_Row__impl_RowPut_1.f a0 a1).bind fun r7 =>
  joinK (fun (y8 : Int) =>
  (impl_copyRow.f a1).bind fun r11 =>
  (some [r11]).bind fun l12 =>
  (slices_Insert_impl_Row.f r1 y8 l12).bind fun r13 =>
  some r13) (fun K9 =>
  bif (decide (r7 < 0)) then (
  K9 (lenI a0))
  else (
  K9 r7)))

def impl_swapped.f (a0 : Store) (a1 : Int) (a2 : Bool) (a3 : Row) (a4 : Bool) (a5 : Row) : Option (Store × Bool) :=
  (impl_copyStore.f a0).bind fun r1 =>
  (impl_hasTable.f a0.Schema a1).bind fun r2 =>
  bif (bo3 r2 false true) then (
  some ((Store.mk (Schema.mk []) 0 []), false))
  else (
  (getO r1.Tables a1).bind fun x4 =>
  bif a2 then (
  (impl_RowAt.f x4 a3.Id).bind fun r6 =>
  (gd (bo3 (decide (r6 < 0)) false true) (getO x4 r6)).bind fun x7 =>
  (gd (bo3 (decide (r6 < 0)) false true) (impl_RowSame.f x7 a3)).bind fun r8 =>
  bif (bo3 (decide (r6 < 0)) true (bo3 r8 false true)) then (
  some ((Store.mk (Schema.mk []) 0 []), false))
  else (
  (impl_RowDrop.f x4 a3.Id).bind fun r19 =>
  bif a4 then (
  (impl_RowAt.f r19 a5.Id).bind fun r21 =>
  bif (decide (0 ≤ r21)) then (
  some ((Store.mk (Schema.mk []) 0 []), false))
  else (
  (impl_RowPut.f r19 a5).bind fun r23 =>
  (some (setI r1.Tables a1 r23)).bind fun l24 =>
  (impl_StoreOk.f (Store.mk r1.Schema r1.Version l24)).bind fun r25 =>
  some ((Store.mk r1.Schema r1.Version l24), r25)))
  else (
  (some (setI r1.Tables a1 r19)).bind fun l26 =>
  (impl_StoreOk.f (Store.mk r1.Schema r1.Version l26)).bind fun r27 =>
  some ((Store.mk r1.Schema r1.Version l26), r27))))
  else (
  bif a4 then (
  (impl_RowAt.f x4 a5.Id).bind fun r29 =>
  bif (decide (0 ≤ r29)) then (
  some ((Store.mk (Schema.mk []) 0 []), false))
  else (
  (impl_RowPut.f x4 a5).bind fun r31 =>
  (some (setI r1.Tables a1 r31)).bind fun l32 =>
  (impl_StoreOk.f (Store.mk r1.Schema r1.Version l32)).bind fun r33 =>
  some ((Store.mk r1.Schema r1.Version l32), r33)))
  else (
  (some (setI r1.Tables a1 x4)).bind fun l34 =>
  (impl_StoreOk.f (Store.mk r1.Schema r1.Version l34)).bind fun r35 =>
  some ((Store.mk r1.Schema r1.Version l34), r35))))

def impl_Back.f (a0 : Store) (a1 : Change) : Option (Store × Bool) :=
  (impl_StoreOk.f a0).bind fun r1 =>
  bif (bo3 r1 false true) then (
  some ((Store.mk (Schema.mk []) 0 []), false))
  else (
  (impl_swapped.f a0 a1.Table a1.Has a1.New a1.Had a1.Old).bind fun r3 =>
  bif (bo3 r3.2 false true) then (
  (impl_copyStore.f a0).bind fun r5 =>
  some (r5, false))
  else (
  some (r3.1, true)))

def spec_RowSame.l0 (a0 : Row) (a1 : Row) : Nat → Int → Option Bool
  | 0, _ => none
  | k + 1, z16 =>
    bif (decide (z16 < (lenI a0.Cells))) then (
    (getO a0.Cells z16).bind fun x18 =>
    (getO a1.Cells z16).bind fun x19 =>
    bif (decide (x18 ≠ x19)) then (
    some false)
    else (
    spec_RowSame.l0 a0 a1 k (w64 (z16 + 1))))
    else (
    some true)
def spec_RowSame.f (a0 : Row) (a1 : Row) : Option Bool :=
  bif (bo3 (decide (a0.Id ≠ a1.Id)) true (decide ((lenI a0.Cells) ≠ (lenI a1.Cells)))) then (
  some false)
  else (
  spec_RowSame.l0 a0 a1 (((lenI a0.Cells) - 0).toNat + 1) 0)

def spec_l7There.f (a0 : Store) (a1 : Int) (a2 : Row) : Option Bool :=
  (spec_l1In.f a1 0 (w64 ((lenI a0.Tables) - 1))).bind fun r1 =>
  bif (bo3 r1 false true) then (
  some false)
  else (
  (getO a0.Tables a1).bind fun x3 =>
  (spec_RowAt.f x3 a2.Id).bind fun r4 =>
  (gd (decide (0 ≤ r4)) (getO x3 r4)).bind fun x5 =>
  (gd (decide (0 ≤ r4)) (spec_RowSame.f x5 a2)).bind fun r6 =>
  some (bo3 (decide (0 ≤ r4)) r6 false))

def spec_l7Turn.f (a0 : Store) (a1 : Change) : Option (Store × Bool) :=
  (spec_l1In.f a1.Table 0 (w64 ((lenI a0.Tables) - 1))).bind fun r1 =>
  (gd (bo3 (bo3 (bo3 r1 false true) false true) a1.Had false) (spec_l7There.f a0 a1.Table a1.Old)).bind fun r2 =>
  bif (bo3 (bo3 r1 false true) true (bo3 a1.Had (bo3 r2 false true) false)) then (
  some (a0, false))
  else (
  (getO a0.Tables a1.Table).bind fun x19 =>
  bif a1.Had then (
  (spec_RowDrop.f x19 a1.Old.Id).bind fun r21 =>
  bif a1.Has then (
  (spec_RowAt.f r21 a1.New.Id).bind fun r23 =>
  bif (decide (0 ≤ r23)) then (
  some (a0, false))
  else (
  (spec_RowPut.f r21 a1.New).bind fun r25 =>
  (some (setI a0.Tables a1.Table r25)).bind fun l26 =>
  some ((Store.mk a0.Schema a0.Version l26), true)))
  else (
  (some (setI a0.Tables a1.Table r21)).bind fun l27 =>
  some ((Store.mk a0.Schema a0.Version l27), true)))
  else (
  bif a1.Has then (
  (spec_RowAt.f x19 a1.New.Id).bind fun r29 =>
  bif (decide (0 ≤ r29)) then (
  some (a0, false))
  else (
  (spec_RowPut.f x19 a1.New).bind fun r31 =>
  (some (setI a0.Tables a1.Table r31)).bind fun l32 =>
  some ((Store.mk a0.Schema a0.Version l32), true)))
  else (
  (some (setI a0.Tables a1.Table x19)).bind fun l33 =>
  some ((Store.mk a0.Schema a0.Version l33), true))))

def spec_Back.f (a0 : Store) (a1 : Change) : Option (Store × Bool) :=
  (spec_StoreOk.f a0).bind fun r1 =>
  bif (bo3 r1 false true) then (
  some ((Store.mk (Schema.mk []) 0 []), false))
  else (
  (spec_l7Copy.f a0).bind fun r3 =>
  (spec_l7Turn.f r3 (Change.mk a1.Table a1.Has a1.Had a1.New a1.Old)).bind fun r4 =>
  (gd (bo3 (bo3 r4.2 false true) false true) (spec_StoreOk.f r4.1)).bind fun r5 =>
  bif (bo3 (bo3 r4.2 false true) true (bo3 r5 false true)) then (
  (spec_l7Copy.f a0).bind fun r12 =>
  some (r12, false))
  else (
  some (r4.1, true)))

def spec_DrawStoreNew.f (a0 : List Int) : Option Schema :=
  (spec_l1New.f a0).bind fun r1 =>
  (spec_l6DrawBad.f r1).bind fun r2 =>
  some r2.2

def impl_StoreNew.f (a0 : Schema) : Option (Store × Bool) :=
  (impl_copyInts.f a0.Cols).bind fun r1 =>
  (mkO 24 (lenI a0.Cols) []).bind fun l2 =>
  (impl_StoreOk.f (Store.mk (Schema.mk r1) 0 l2)).bind fun r3 =>
  bif (bo3 r3 false true) then (
  some ((Store.mk (Schema.mk []) 0 []), false))
  else (
  some ((Store.mk (Schema.mk r1) 0 l2), true))

def laws_big.f (a0 : List Int) : Option Bool :=
  some (decide (1048576 < (lenI a0)))

def impl_noRow.f (a0 : Row) : Option Bool :=
  some (bo3 (decide (a0.Id = 0)) (decide ((lenI a0.Cells) = 0)) false)

def impl_changeFits.f (a0 : Schema) (a1 : Change) : Option Bool :=
  (gd a1.Had (impl_RowOk.f a0 a1.Table a1.Old)).bind fun r1 =>
  (gd (bo3 (bo3 (bo3 a1.Had r1 false) false true) (bo3 a1.Had false true) false) (impl_noRow.f a1.Old)).bind fun r2 =>
  (gd a1.Has (impl_RowOk.f a0 a1.Table a1.New)).bind fun r23 =>
  (gd (bo3 (bo3 (bo3 a1.Has r23 false) false true) (bo3 a1.Has false true) false) (impl_noRow.f a1.New)).bind fun r24 =>
  (gd (bo3 a1.Had true a1.Has) (impl_hasTable.f a0 a1.Table)).bind fun r45 =>
  some (bo3 (bo3 (bo3 (bo3 a1.Had true a1.Has) r45 false) (bo3 (bo3 a1.Had r1 false) true (bo3 (bo3 a1.Had false true) r2 false)) false) (bo3 (bo3 a1.Has r23 false) true (bo3 (bo3 a1.Has false true) r24 false)) false)

def impl_Forward.l0 (a0 : Store) (a1 : List Change) : Nat → (List Int) → Int → (List (List Row)) → Int → Option (Store × Bool)
  | 0, _, _, _, _ => none
  | k + 1, z26, z27, z28, z29 =>
    bif (decide (z29 < (lenI a1))) then (
    (getO a1 z29).bind fun x31 =>
    (impl_changeFits.f a0.Schema x31).bind fun r32 =>
    bif (bo3 r32 false true) then (
    some ((Store.mk (Schema.mk []) 0 []), false))
    else (
    (impl_swapped.f (Store.mk (Schema.mk z26) z27 z28) x31.Table x31.Had x31.Old x31.Has x31.New).bind fun r34 =>
    bif (bo3 r34.2 false true) then (
    some ((Store.mk (Schema.mk []) 0 []), false))
    else (
    impl_Forward.l0 a0 a1 k r34.1.Schema.Cols r34.1.Version r34.1.Tables (w64 (z29 + 1)))))
    else (
    some ((Store.mk (Schema.mk z26) (w64 (z27 + 1)) z28), true))
def impl_Forward.f (a0 : Store) (a1 : List Change) : Option (Store × Bool) :=
  (impl_StoreOk.f a0).bind fun r1 =>
  (gd (bo3 (bo3 r1 false true) false true) (impl_within.f (lenI a1) 1 5)).bind fun r2 =>
  bif (bo3 (bo3 (bo3 r1 false true) true (bo3 r2 false true)) true (decide (a0.Version = 100000))) then (
  some ((Store.mk (Schema.mk []) 0 []), false))
  else (
  (impl_copyStore.f a0).bind fun r15 =>
  impl_Forward.l0 a0 a1 (((lenI a1) - 0).toNat + 1) r15.Schema.Cols r15.Version r15.Tables 0)

def laws_FnBack.f (a0 : List Int) : Option Bool :=
  (laws_big.f a0).bind fun r1 =>
  bif r1 then (
  some true)
  else (
  (spec_DrawBack.f a0).bind fun r3 =>
  (impl_Back.f r3.1 r3.2).bind fun r4 =>
  (spec_Back.f r3.1 r3.2).bind fun r5 =>
  bif (bo3 r4.2 (bo3 r5.2 false true) r5.2) then (
  some false)
  else (
  (spec_DrawStoreNew.f a0).bind fun r7 =>
  (impl_StoreNew.f r7).bind fun r8 =>
  (spec_SchemaOk.f r7).bind fun r9 =>
  (gd (bo3 (bo3 (bo3 r8.2 (bo3 r9 false true) r9) false true) r8.2 false) (impl_StoreOk.f r8.1)).bind fun r10 =>
  bif (bo3 (bo3 r8.2 (bo3 r9 false true) r9) true (bo3 r8.2 (bo3 r10 false true) false)) then (
  some false)
  else (
  bif (bo3 r4.2 false true) then (
  (gd (bo3 (decide ((lenI r4.1.Tables) = 0)) false true) (laws_sameStore.f r3.1 r4.1)).bind fun r23 =>
  some (bo3 (decide ((lenI r4.1.Tables) = 0)) true r23))
  else (
  (some [r3.2]).bind fun l29 =>
  (impl_Forward.f r4.1 l29).bind fun r30 =>
  bif (bo3 r30.2 false true) then (
  some (bo3 (bo3 (bo3 (bo3 (bo3 (bo3 r3.2.Had false true) (decide (r3.2.Old.Id ≠ 0)) false) true (bo3 (bo3 r3.2.Has false true) (decide (r3.2.New.Id ≠ 0)) false)) true (bo3 (bo3 r3.2.Had false true) (bo3 r3.2.Has false true) false)) true (decide (r3.1.Version = 100000))) true (decide (0 < (w64 ((lenI r3.2.Old.Cells) + (lenI r3.2.New.Cells)))))))
  else (
  (laws_sameStore.f (Store.mk r30.1.Schema r3.1.Version r30.1.Tables) r3.1).bind fun r80 =>
  some r80)))))

end Go.Proofs.Ytbjbfcfekmdfmaa.L
