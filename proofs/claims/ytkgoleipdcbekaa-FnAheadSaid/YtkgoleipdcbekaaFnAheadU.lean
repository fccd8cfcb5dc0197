/- The pure functions of the program. -/
import Derived.Test.YtkgoleipdcbekaaSl43
namespace Go.Proofs.Ytkgoleipdcbekaa.L
open Go
set_option linter.unusedVariables false
structure Cond where
  Col : Int
  Op : Int
  V : Int
  deriving Inhabited, DecidableEq
structure Query where
  Table : Int
  Where : List Cond
  Order : Int
  Down : Bool
  First : Int
  Show : List Int
  Kids : Bool
  KidTable : Int
  KidCol : Int
  deriving Inhabited, DecidableEq
structure Row where
  Id : Int
  Cells : List Int
  deriving Inhabited, DecidableEq
structure l1Cur where
  b : List Int
  i : Int
  h : Int
  deriving Inhabited, DecidableEq
structure Schema where
  Cols : List Int
  deriving Inhabited, DecidableEq

def spec_l1New.l0 (a0 : List Int) : Nat → Int → Int → Option l1Cur
  | 0, _, _ => none
  | k + 1, z4, z5 =>
    bif (bo3 (decide (z5 < (lenI a0))) (decide (z5 < 4000)) false) then (
    (getO a0 z5).bind fun x11 =>
    spec_l1New.l0 a0 k (Ls.ar .and .i64 (w64 ((w64 ((w64 (z4 * 131)) + (w64 x11))) + 7)) 1073741823) (w64 (z5 + 1)))
    else (
    some (l1Cur.mk a0 0 z4))
def spec_l1New.f (a0 : List Int) : Option l1Cur :=
  spec_l1New.l0 a0 (((lenI a0) - 0).toNat + 1) (w64 (17333 + (lenI a0))) 0

def spec_l1Byte.f (a0 : l1Cur) : Option (l1Cur × Int) :=
  bif (decide (a0.i < (lenI a0.b))) then (
  (getO a0.b a0.i).bind fun x2 =>
  some ((l1Cur.mk a0.b (w64 (a0.i + 1)) (w64 ((w64 (a0.h * 6364136223846793005)) + 1442695040888963407))), (Ls.ar .and .i64 (w64 ((Ls.ar .and .i64 (Ls.ar .xor .i64 (Ls.ar .shr .i64 (w64 ((w64 (a0.h * 6364136223846793005)) + 1442695040888963407)) 33) (Ls.ar .shr .i64 (w64 ((w64 (a0.h * 6364136223846793005)) + 1442695040888963407)) 45)) 255) + (w64 x2))) 255)))
  else (
  some ((l1Cur.mk a0.b a0.i (w64 ((w64 (a0.h * 6364136223846793005)) + 1442695040888963407))), (Ls.ar .and .i64 (Ls.ar .xor .i64 (Ls.ar .shr .i64 (w64 ((w64 (a0.h * 6364136223846793005)) + 1442695040888963407)) 33) (Ls.ar .shr .i64 (w64 ((w64 (a0.h * 6364136223846793005)) + 1442695040888963407)) 45)) 255)))

def spec_l1Below.f (a0 : l1Cur) (a1 : Int) : Option (l1Cur × Int) :=
  bif (decide (a1 ≤ 0)) then (
  some (a0, 0))
  else (
  bif (decide (a1 ≤ 256)) then (
  (spec_l1Byte.f a0).bind fun r3 =>
  (nzO a1).bind fun u4 =>
  some ((l1Cur.mk a0.b r3.1.i r3.1.h), (Int.tmod r3.2 a1)))
  else (
  (spec_l1Byte.f a0).bind fun r5 =>
  (spec_l1Byte.f (l1Cur.mk a0.b r5.1.i r5.1.h)).bind fun r6 =>
  (spec_l1Byte.f (l1Cur.mk a0.b r6.1.i r6.1.h)).bind fun r7 =>
  (spec_l1Byte.f (l1Cur.mk a0.b r7.1.i r7.1.h)).bind fun r8 =>
  (nzO a1).bind fun u9 =>
  some ((l1Cur.mk a0.b r8.1.i r8.1.h), (Int.tmod (w64 ((w64 ((w64 ((w64 (r5.2 * 16777216)) + (w64 (r6.2 * 65536)))) + (w64 (r7.2 * 256)))) + r8.2)) a1))))

def spec_l1PickInt.f (a0 : l1Cur) (a1 : List Int) : Option (l1Cur × Int) :=
  (spec_l1Below.f a0 (lenI a1)).bind fun r1 =>
  (getO a1 r1.2).bind fun x2 =>
  some ((l1Cur.mk a0.b r1.1.i r1.1.h), x2)

def spec_l1Once.f (a0 : l1Cur) (a1 : Int) : Option (l1Cur × Bool) :=
  (spec_l1Below.f a0 a1).bind fun r1 =>
  some ((l1Cur.mk a0.b r1.1.i r1.1.h), (decide (r1.2 = 0)))

def spec_l1Max.f (a0 : Int) (a1 : Int) : Option Int :=
  bif (decide (a1 < a0)) then (
  some a0)
  else (
  some a1)

def spec_l9DrawRight.l0 (a0 : l1Cur) (y3 : Int) (K11 : Int → Int → (List Cond) → Option (l1Cur × Query)) : Nat → Int → Int → (List Cond) → Int → Option (l1Cur × Query)
  | 0, _, _, _, _ => none
  | k + 1, z53, z54, z55, z56 =>
    (spec_l1Below.f (l1Cur.mk a0.b z53 z54) 3).bind fun r57 =>
    bif (decide (z56 < r57.2)) then (
    (spec_l1Below.f (l1Cur.mk a0.b r57.1.i r57.1.h) y3).bind fun r59 =>
    (spec_l1Below.f (l1Cur.mk a0.b r59.1.i r59.1.h) 4).bind fun r60 =>
    (spec_l1Below.f (l1Cur.mk a0.b r60.1.i r60.1.h) 6).bind fun r61 =>
    (some [(Cond.mk r59.2 (w64 (1 + r60.2)) r61.2)]).bind fun l62 =>
    (appO 24 z55 l62).bind fun l63 =>
    spec_l9DrawRight.l0 a0 y3 K11 k r61.1.i r61.1.h l63 (w64 (z56 + 1)))
    else (
    K11 r57.1.i r57.1.h z55)
def spec_l9DrawRight.l1 (a0 : l1Cur) (y3 : Int) (K76 : Int → Int → Bool → (List Int) → Option (l1Cur × Query)) : Nat → Int → Int → Bool → (List Int) → Int → Option (l1Cur × Query)
  | 0, _, _, _, _, _ => none
  | k + 1, z120, z121, z122, z123, z124 =>
    bif (decide (z124 < y3)) then (
    (spec_l1Once.f (l1Cur.mk a0.b z120 z121) 2).bind fun r126 =>
    bif r126.2 then (
    (some [z124]).bind fun l128 =>
    (appO 8 z123 l128).bind fun l129 =>
    spec_l9DrawRight.l1 a0 y3 K76 k r126.1.i r126.1.h z122 l129 (w64 (z124 + 1)))
    else (
    spec_l9DrawRight.l1 a0 y3 K76 k r126.1.i r126.1.h z122 z123 (w64 (z124 + 1))))
    else (
    K76 z120 z121 z122 z123)
def spec_l9DrawRight.f (a0 : l1Cur) (a1 : Schema) : Option (l1Cur × Query) :=
  (spec_l1Max.f (lenI a1.Cols) 1).bind fun r1 =>
  (spec_l1Below.f a0 r1).bind fun r2 =>
  joinK (fun (y3 : Int) =>
  joinK (fun (y8 : Int) (y9 : Int) (y10 : List Cond) =>
  (spec_l1Below.f (l1Cur.mk a0.b y8 y9) (w64 (y3 + 1))).bind fun r64 =>
  (gd (decide (0 < r64.2)) (spec_l1Once.f (l1Cur.mk a0.b r64.1.i r64.1.h) 2)).bind fun r65 =>
  (some [0, 0, 1, 2, 3, 5]).bind fun l70 =>
  (spec_l1PickInt.f (l1Cur.mk a0.b (ci3 (decide (0 < r64.2)) r65.1.i r64.1.i) (ci3 (decide (0 < r64.2)) r65.1.h r64.1.h)) l70).bind fun r71 =>
  joinK (fun (y72 : Int) (y73 : Int) (y74 : Bool) (y75 : List Int) =>
  (spec_l1Once.f (l1Cur.mk a0.b y72 y73) 2).bind fun r130 =>
  bif r130.2 then (
  (spec_l1Max.f (lenI a1.Cols) 1).bind fun r132 =>
  (spec_l1Below.f (l1Cur.mk a0.b r130.1.i r130.1.h) r132).bind fun r133 =>
  bif (decide (r133.2 < (lenI a1.Cols))) then (
  (getO a1.Cols r133.2).bind fun x135 =>
  (spec_l1Max.f x135 1).bind fun r136 =>
  (spec_l1Below.f (l1Cur.mk a0.b r133.1.i r133.1.h) r136).bind fun r137 =>
  some ((l1Cur.mk a0.b r137.1.i r137.1.h), (Query.mk r2.2 y10 r64.2 y74 r71.2 y75 true r133.2 r137.2)))
  else (
  some ((l1Cur.mk a0.b r133.1.i r133.1.h), (Query.mk r2.2 y10 r64.2 y74 r71.2 y75 true r133.2 0))))
  else (
  some ((l1Cur.mk a0.b r130.1.i r130.1.h), (Query.mk r2.2 y10 r64.2 y74 r71.2 y75 false 0 0)))) (fun K76 =>
  spec_l9DrawRight.l1 a0 y3 K76 ((y3 - 0).toNat + 1) r71.1.i r71.1.h (bo3 (decide (0 < r64.2)) r65.2 false) [] 0)) (fun K11 =>
  spec_l9DrawRight.l0 a0 y3 K11 1000 r2.1.i r2.1.h [] 0)) (fun K4 =>
  bif (decide (r2.2 < (lenI a1.Cols))) then (
  (getO a1.Cols r2.2).bind fun x6 =>
  (spec_l1Max.f x6 1).bind fun r7 =>
  K4 r7)
  else (
  K4 1))

def spec_l9Draw.f (a0 : l1Cur) (a1 : Schema) : Option (l1Cur × Query) :=
  (spec_l9DrawRight.f a0 a1).bind fun r1 =>
  (spec_l1Below.f (l1Cur.mk a0.b r1.1.i r1.1.h) 25).bind fun r2 =>
  bif (decide (r2.2 = 0)) then (
  (spec_l1Below.f (l1Cur.mk a0.b r2.1.i r2.1.h) 5).bind fun r4 =>
  some ((l1Cur.mk a0.b r4.1.i r4.1.h), (Query.mk (w64 (r4.2 - 1)) r1.2.Where r1.2.Order r1.2.Down r1.2.First r1.2.Show r1.2.Kids r1.2.KidTable r1.2.KidCol)))
  else (
  bif (decide (r2.2 = 1)) then (
  (spec_l1Below.f (l1Cur.mk a0.b r2.1.i r2.1.h) 6).bind fun r6 =>
  (spec_l1Below.f (l1Cur.mk a0.b r6.1.i r6.1.h) 6).bind fun r7 =>
  (some [0, 1000000001]).bind fun l8 =>
  (spec_l1PickInt.f (l1Cur.mk a0.b r7.1.i r7.1.h) l8).bind fun r9 =>
  (some [(Cond.mk (w64 (r6.2 - 1)) r7.2 r9.2)]).bind fun l10 =>
  (appO 24 r1.2.Where l10).bind fun l11 =>
  some ((l1Cur.mk a0.b r9.1.i r9.1.h), (Query.mk r1.2.Table l11 r1.2.Order r1.2.Down r1.2.First r1.2.Show r1.2.Kids r1.2.KidTable r1.2.KidCol)))
  else (
  bif (decide (r2.2 = 2)) then (
  (spec_l1Below.f (l1Cur.mk a0.b r2.1.i r2.1.h) 7).bind fun r13 =>
  some ((l1Cur.mk a0.b r13.1.i r13.1.h), (Query.mk r1.2.Table r1.2.Where (w64 (r13.2 - 1)) r1.2.Down r1.2.First r1.2.Show r1.2.Kids r1.2.KidTable r1.2.KidCol)))
  else (
  bif (decide (r2.2 = 3)) then (
  (some [(-1), 24, 25]).bind fun l15 =>
  (spec_l1PickInt.f (l1Cur.mk a0.b r2.1.i r2.1.h) l15).bind fun r16 =>
  some ((l1Cur.mk a0.b r16.1.i r16.1.h), (Query.mk r1.2.Table r1.2.Where r1.2.Order r1.2.Down r16.2 r1.2.Show r1.2.Kids r1.2.KidTable r1.2.KidCol)))
  else (
  bif (decide (r2.2 = 4)) then (
  (spec_l1Below.f (l1Cur.mk a0.b r2.1.i r2.1.h) 5).bind fun r18 =>
  (some [r18.2]).bind fun l19 =>
  (appO 8 r1.2.Show l19).bind fun l20 =>
  some ((l1Cur.mk a0.b r18.1.i r18.1.h), (Query.mk r1.2.Table r1.2.Where r1.2.Order r1.2.Down r1.2.First l20 r1.2.Kids r1.2.KidTable r1.2.KidCol)))
  else (
  bif (decide (r2.2 = 5)) then (
  (spec_l1Below.f (l1Cur.mk a0.b r2.1.i r2.1.h) 6).bind fun r22 =>
  some ((l1Cur.mk a0.b r22.1.i r22.1.h), (Query.mk r1.2.Table r1.2.Where r1.2.Order r1.2.Down r1.2.First r1.2.Show r1.2.Kids r1.2.KidTable (w64 (r22.2 - 1)))))
  else (
  some ((l1Cur.mk a0.b r2.1.i r2.1.h), r1.2)))))))

def spec_l1In.f (a0 : Int) (a1 : Int) (a2 : Int) : Option Bool :=
  some (bo3 (decide (a1 ≤ a0)) (decide (a0 ≤ a2)) false)

def spec_l6DrawSchema.l0 (a0 : l1Cur) : Nat → Int → Int → (List Int) → Int → Option (l1Cur × Schema)
  | 0, _, _, _, _ => none
  | k + 1, z10, z11, z12, z13 =>
    (spec_l1Below.f (l1Cur.mk a0.b z10 z11) 3).bind fun r14 =>
    bif (decide (z13 < (w64 (1 + r14.2)))) then (
    (spec_l1Below.f (l1Cur.mk a0.b r14.1.i r14.1.h) 4).bind fun r16 =>
    (some [(w64 (1 + r16.2))]).bind fun l17 =>
    (appO 8 z12 l17).bind fun l18 =>
    spec_l6DrawSchema.l0 a0 k r16.1.i r16.1.h l18 (w64 (z13 + 1)))
    else (
    some ((l1Cur.mk a0.b r14.1.i r14.1.h), (Schema.mk z12)))
def spec_l6DrawSchema.f (a0 : l1Cur) : Option (l1Cur × Schema) :=
  spec_l6DrawSchema.l0 a0 1000 a0.i a0.h [] 0

def spec_l6DrawRow.l0 (a0 : l1Cur) (a1 : Int) : Nat → Int → Int → Int → (List Int) → Int → Option (l1Cur × Row)
  | 0, _, _, _, _, _ => none
  | k + 1, z17, z18, z19, z20, z21 =>
    bif (decide (z21 < a1)) then (
    (spec_l1Below.f (l1Cur.mk a0.b z17 z18) 6).bind fun r23 =>
    (some [r23.2]).bind fun l24 =>
    (appO 8 z20 l24).bind fun l25 =>
    spec_l6DrawRow.l0 a0 a1 k r23.1.i r23.1.h z19 l25 (w64 (z21 + 1)))
    else (
    some ((l1Cur.mk a0.b z17 z18), (Row.mk z19 z20)))
def spec_l6DrawRow.f (a0 : l1Cur) (a1 : Int) : Option (l1Cur × Row) :=
  (spec_l1Below.f a0 12).bind fun r1 =>
  spec_l6DrawRow.l0 a0 a1 ((a1 - 0).toNat + 1) r1.1.i r1.1.h (w64 (1 + r1.2)) [] 0

def spec_l9DrawOne.f (a0 : List Int) : Option (Query × Row × Row) :=
  (spec_l1New.f a0).bind fun r1 =>
  (spec_l6DrawSchema.f r1).bind fun r2 =>
  (spec_l9Draw.f (l1Cur.mk r1.b r2.1.i r2.1.h) r2.2).bind fun r3 =>
  joinK (fun (y4 : Int) =>
  (spec_l6DrawRow.f (l1Cur.mk r1.b r3.1.i r3.1.h) y4).bind fun r9 =>
  (spec_l6DrawRow.f (l1Cur.mk r1.b r9.1.i r9.1.h) y4).bind fun r10 =>
  some (r3.2, r9.2, r10.2)) (fun K5 =>
  (spec_l1In.f r3.2.Table 0 (w64 ((lenI r2.2.Cols) - 1))).bind fun r6 =>
  bif r6 then (
  (getO r2.2.Cols r3.2.Table).bind fun x8 =>
  K5 x8)
  else (
  K5 2))

def spec_DrawAhead.f (a0 : List Int) : Option (Query × Row × Row) :=
  (spec_l9DrawOne.f a0).bind fun r1 =>
  some (r1.1, r1.2.1, r1.2.2)

def impl_within.f (a0 : Int) (a1 : Int) (a2 : Int) : Option Bool :=
  some (bo3 (decide (a1 ≤ a0)) (decide (a0 ≤ a2)) false)

def impl_cellOf.f (a0 : Row) (a1 : Int) : Option Int :=
  (impl_within.f a1 0 (w64 ((lenI a0.Cells) - 1))).bind fun r1 =>
  bif (bo3 r1 false true) then (
  some 0)
  else (
  (getO a0.Cells a1).bind fun x3 =>
  some x3)

def impl_Ahead.f (a0 : Query) (a1 : Row) (a2 : Row) : Option Bool :=
  bif (decide (a0.Order = 0)) then (
  some (decide (a1.Id < a2.Id)))
  else (
  (impl_cellOf.f a1 (w64 (a0.Order - 1))).bind fun r2 =>
  (impl_cellOf.f a2 (w64 (a0.Order - 1))).bind fun r3 =>
  bif (decide (r2 = r3)) then (
  some (decide (a1.Id < a2.Id)))
  else (
  bif a0.Down then (
  some (decide (r3 < r2)))
  else (
  some (decide (r2 < r3)))))

def spec_l9Cell.f (a0 : Row) (a1 : Int) : Option Int :=
  (spec_l1In.f a1 0 (w64 ((lenI a0.Cells) - 1))).bind fun r1 =>
  bif (bo3 r1 false true) then (
  some 0)
  else (
  (getO a0.Cells a1).bind fun x3 =>
  some x3)

def spec_Ahead.f (a0 : Query) (a1 : Row) (a2 : Row) : Option Bool :=
  bif (decide (a0.Order ≠ 0)) then (
  (spec_l9Cell.f a1 (w64 (a0.Order - 1))).bind fun r2 =>
  (spec_l9Cell.f a2 (w64 (a0.Order - 1))).bind fun r3 =>
  bif (decide (r2 ≠ r3)) then (
  some (bo3 (decide (r2 < r3)) (bo3 a0.Down false true) a0.Down))
  else (
  some (decide (a1.Id < a2.Id))))
  else (
  some (decide (a1.Id < a2.Id)))

def spec_l9Copy.f (a0 : Query) : Option Query :=
  (appO 24 [] a0.Where).bind fun l1 =>
  (appO 8 [] a0.Show).bind fun l2 =>
  some (Query.mk a0.Table l1 a0.Order a0.Down a0.First l2 a0.Kids a0.KidTable a0.KidCol)

def spec_DrawQuerySame.f (a0 : List Int) : Option (Query × Query) :=
  (spec_l1New.f a0).bind fun r1 =>
  (spec_l6DrawSchema.f r1).bind fun r2 =>
  (spec_l9Draw.f (l1Cur.mk r1.b r2.1.i r2.1.h) r2.2).bind fun r3 =>
  (spec_l1Once.f (l1Cur.mk r1.b r3.1.i r3.1.h) 2).bind fun r4 =>
  bif r4.2 then (
  (spec_l9Copy.f r3.2).bind fun r6 =>
  (spec_l1Once.f (l1Cur.mk r1.b r4.1.i r4.1.h) 3).bind fun r7 =>
  bif r7.2 then (
  some (r3.2, (Query.mk r6.Table r6.Where r6.Order r6.Down (w64 (r6.First + 1)) r6.Show r6.Kids r6.KidTable r6.KidCol)))
  else (
  some (r3.2, r6)))
  else (
  (spec_l9Draw.f (l1Cur.mk r1.b r4.1.i r4.1.h) r2.2).bind fun r9 =>
  some (r3.2, r9.2))

def slices_Equal_impl_Cond.l0 (a0 : List Cond) (a1 : List Cond) : Nat → Int → Option Bool
  | 0, _ => none
  | k + 1, z6 =>
    bif (decide (z6 < (lenI a0))) then (
    (getO a0 z6).bind fun x8 =>
    (getO a1 z6).bind fun x9 =>
    bif (bo3 (bo3 (decide (x8.Col = x9.Col)) (bo3 (decide (x8.Op = x9.Op)) (bo3 (decide (x8.V = x9.V)) true false) false) false) false true) then (
    some false)
    else (
    slices_Equal_impl_Cond.l0 a0 a1 k (w64 (z6 + 1))))
    else (
    some true)
def slices_Equal_impl_Cond.f (a0 : List Cond) (a1 : List Cond) : Option Bool :=
  bif (decide ((lenI a0) ≠ (lenI a1))) then (
  some false)
  else (
  slices_Equal_impl_Cond.l0 a0 a1 (((lenI a0) - 0).toNat + 1) 0)

def slices_Equal_int.l0 (a0 : List Int) (a1 : List Int) : Nat → Int → Option Bool
  | 0, _ => none
  | k + 1, z6 =>
    bif (decide (z6 < (lenI a0))) then (
    (getO a0 z6).bind fun x8 =>
    (getO a1 z6).bind fun x9 =>
    bif (decide (x8 ≠ x9)) then (
    some false)
    else (
    slices_Equal_int.l0 a0 a1 k (w64 (z6 + 1))))
    else (
    some true)
def slices_Equal_int.f (a0 : List Int) (a1 : List Int) : Option Bool :=
  bif (decide ((lenI a0) ≠ (lenI a1))) then (
  some false)
  else (
  slices_Equal_int.l0 a0 a1 (((lenI a0) - 0).toNat + 1) 0)

def impl_QuerySame.f (a0 : Query) (a1 : Query) : Option Bool :=
  (gd (bo3 (bo3 (bo3 (bo3 (decide (a0.Table = a1.Table)) (decide (a0.Order = a1.Order)) false) (bo3 a0.Down a1.Down (bo3 a1.Down false true)) false) (decide (a0.First = a1.First)) false) (bo3 (bo3 (bo3 a0.Kids a1.Kids (bo3 a1.Kids false true)) (decide (a0.KidTable = a1.KidTable)) false) (decide (a0.KidCol = a1.KidCol)) false) false) (slices_Equal_impl_Cond.f a0.Where a1.Where)).bind fun r36 =>
  (gd (bo3 (bo3 (bo3 (bo3 (bo3 (decide (a0.Table = a1.Table)) (decide (a0.Order = a1.Order)) false) (bo3 a0.Down a1.Down (bo3 a1.Down false true)) false) (decide (a0.First = a1.First)) false) (bo3 (bo3 (bo3 a0.Kids a1.Kids (bo3 a1.Kids false true)) (decide (a0.KidTable = a1.KidTable)) false) (decide (a0.KidCol = a1.KidCol)) false) false) r36 false) (slices_Equal_int.f a0.Show a1.Show)).bind fun r37 =>
  some (bo3 (bo3 (bo3 (bo3 (bo3 (bo3 (decide (a0.Table = a1.Table)) (decide (a0.Order = a1.Order)) false) (bo3 a0.Down a1.Down (bo3 a1.Down false true)) false) (decide (a0.First = a1.First)) false) (bo3 (bo3 (bo3 a0.Kids a1.Kids (bo3 a1.Kids false true)) (decide (a0.KidTable = a1.KidTable)) false) (decide (a0.KidCol = a1.KidCol)) false) false) r36 false) r37 false)

def spec_l9Conds.l0 (a0 : List Cond) (a1 : List Cond) : Nat → Int → Option Bool
  | 0, _ => none
  | k + 1, z4 =>
    bif (bo3 (decide (z4 < (lenI a0))) (decide (z4 < (lenI a1))) false) then (
    (getO a0 z4).bind fun x12 =>
    (getO a1 z4).bind fun x13 =>
    bif (bo3 (bo3 (decide (x12.Col = x13.Col)) (bo3 (decide (x12.Op = x13.Op)) (bo3 (decide (x12.V = x13.V)) true false) false) false) false true) then (
    some false)
    else (
    spec_l9Conds.l0 a0 a1 k (w64 (z4 + 1))))
    else (
    some (decide ((lenI a0) = (lenI a1))))
def spec_l9Conds.f (a0 : List Cond) (a1 : List Cond) : Option Bool :=
  spec_l9Conds.l0 a0 a1 (((lenI a0) - 0).toNat + 1) 0

def spec_l9Ints.l0 (a0 : List Int) (a1 : List Int) : Nat → Int → Option Bool
  | 0, _ => none
  | k + 1, z4 =>
    bif (bo3 (decide (z4 < (lenI a0))) (decide (z4 < (lenI a1))) false) then (
    (getO a0 z4).bind fun x12 =>
    (getO a1 z4).bind fun x13 =>
    bif (decide (x12 ≠ x13)) then (
    some false)
    else (
    spec_l9Ints.l0 a0 a1 k (w64 (z4 + 1))))
    else (
    some (decide ((lenI a0) = (lenI a1))))
def spec_l9Ints.f (a0 : List Int) (a1 : List Int) : Option Bool :=
  spec_l9Ints.l0 a0 a1 (((lenI a0) - 0).toNat + 1) 0

def spec_QuerySame.f (a0 : Query) (a1 : Query) : Option Bool :=
  (gd (decide (a0.Table = a1.Table)) (spec_l9Conds.f a0.Where a1.Where)).bind fun r1 =>
  (gd (bo3 (bo3 (bo3 (bo3 (decide (a0.Table = a1.Table)) r1 false) (decide (a0.Order = a1.Order)) false) (bo3 a0.Down a1.Down (bo3 a1.Down false true)) false) (decide (a0.First = a1.First)) false) (spec_l9Ints.f a0.Show a1.Show)).bind fun r2 =>
  some (bo3 (bo3 (bo3 (bo3 (bo3 (bo3 (bo3 (bo3 (decide (a0.Table = a1.Table)) r1 false) (decide (a0.Order = a1.Order)) false) (bo3 a0.Down a1.Down (bo3 a1.Down false true)) false) (decide (a0.First = a1.First)) false) r2 false) (bo3 a0.Kids a1.Kids (bo3 a1.Kids false true)) false) (decide (a0.KidTable = a1.KidTable)) false) (decide (a0.KidCol = a1.KidCol)) false)

def laws_big.f (a0 : List Int) : Option Bool :=
  some (decide (1048576 < (lenI a0)))

def spec_DrawMatches.f (a0 : List Int) : Option (Query × Row) :=
  (spec_l9DrawOne.f a0).bind fun r1 =>
  some (r1.1, r1.2.1)

def impl_holds.f (a0 : Cond) (a1 : Row) : Option Bool :=
  (impl_within.f a0.Col 0 (w64 ((lenI a1.Cells) - 1))).bind fun r1 =>
  bif (bo3 r1 false true) then (
  some false)
  else (
  (getO a1.Cells a0.Col).bind fun x3 =>
  bif (decide (a0.Op = 1)) then (
  some (decide (x3 = a0.V)))
  else (
  bif (decide (a0.Op = 2)) then (
  some (decide (x3 < a0.V)))
  else (
  bif (decide (a0.Op = 3)) then (
  some (decide (a0.V < x3)))
  else (
  some (bo3 (decide (a0.Op = 4)) (decide (x3 ≠ a0.V)) false)))))

def impl_Matches.l0 (a0 : Query) (a1 : Row) : Nat → Int → Option Bool
  | 0, _ => none
  | k + 1, z6 =>
    bif (decide (z6 < (lenI a0.Where))) then (
    (getO a0.Where z6).bind fun x8 =>
    (impl_holds.f x8 a1).bind fun r9 =>
    bif (bo3 r9 false true) then (
    some false)
    else (
    impl_Matches.l0 a0 a1 k (w64 (z6 + 1))))
    else (
    some true)
def impl_Matches.f (a0 : Query) (a1 : Row) : Option Bool :=
  impl_Matches.l0 a0 a1 (((lenI a0.Where) - 0).toNat + 1) 0

def spec_l9Holds.f (a0 : Cond) (a1 : Row) : Option Bool :=
  (spec_l1In.f a0.Col 0 (w64 ((lenI a1.Cells) - 1))).bind fun r1 =>
  bif (bo3 r1 false true) then (
  some false)
  else (
  (getO a1.Cells a0.Col).bind fun x3 =>
  bif (decide (a0.Op = 1)) then (
  some (decide (x3 = a0.V)))
  else (
  bif (decide (a0.Op = 2)) then (
  some (decide (x3 < a0.V)))
  else (
  bif (decide (a0.Op = 3)) then (
  some (decide (a0.V < x3)))
  else (
  bif (decide (a0.Op = 4)) then (
  some (decide (x3 ≠ a0.V)))
  else (
  some false)))))

def spec_Matches.l0 (a0 : Query) (a1 : Row) : Nat → Int → Option Bool
  | 0, _ => none
  | k + 1, z13 =>
    bif (decide (z13 < (lenI a0.Where))) then (
    (getO a0.Where z13).bind fun x15 =>
    (spec_l9Holds.f x15 a1).bind fun r16 =>
    bif (bo3 r16 false true) then (
    some false)
    else (
    spec_Matches.l0 a0 a1 k (w64 (z13 + 1))))
    else (
    some true)
def spec_Matches.f (a0 : Query) (a1 : Row) : Option Bool :=
  spec_Matches.l0 a0 a1 (((lenI a0.Where) - 0).toNat + 1) 0

def laws_FnAhead.f (a0 : List Int) : Option Bool :=
  (laws_big.f a0).bind fun r1 =>
  bif r1 then (
  some true)
  else (
  (spec_DrawAhead.f a0).bind fun r3 =>
  (impl_Ahead.f r3.1 r3.2.1 r3.2.2).bind fun r4 =>
  (impl_Ahead.f r3.1 r3.2.2 r3.2.1).bind fun r5 =>
  (spec_Ahead.f r3.1 r3.2.1 r3.2.2).bind fun r6 =>
  (gd (bo3 (bo3 (bo3 (bo3 r4 (bo3 r6 false true) r6) true (bo3 r4 r5 false)) true (bo3 (bo3 (decide (r3.2.1.Id ≠ r3.2.2.Id)) (bo3 r4 false true) false) (bo3 r5 false true) false)) false true) (impl_Ahead.f r3.1 r3.2.1 r3.2.1)).bind fun r7 =>
  bif (bo3 (bo3 (bo3 (bo3 r4 (bo3 r6 false true) r6) true (bo3 r4 r5 false)) true (bo3 (bo3 (decide (r3.2.1.Id ≠ r3.2.2.Id)) (bo3 r4 false true) false) (bo3 r5 false true) false)) true r7) then (
  some false)
  else (
  (spec_DrawMatches.f a0).bind fun r42 =>
  (impl_Matches.f r42.1 r42.2).bind fun r43 =>
  (spec_Matches.f r42.1 r42.2).bind fun r44 =>
  bif (bo3 r43 (bo3 r44 false true) r44) then (
  some false)
  else (
  (spec_DrawQuerySame.f a0).bind fun r46 =>
  (impl_QuerySame.f r46.1 r46.2).bind fun r47 =>
  (spec_QuerySame.f r46.1 r46.2).bind fun r48 =>
  (gd (bo3 r47 r48 (bo3 r48 false true)) (impl_QuerySame.f r46.2 r46.1)).bind fun r49 =>
  (gd (bo3 (bo3 r47 r48 (bo3 r48 false true)) (bo3 r47 r49 (bo3 r49 false true)) false) (impl_QuerySame.f r46.1 r46.1)).bind fun r50 =>
  (gd (bo3 (bo3 (bo3 (bo3 r47 r48 (bo3 r48 false true)) (bo3 r47 r49 (bo3 r49 false true)) false) r50 false) (bo3 (bo3 r4 false true) false true) false) (impl_Ahead.f r3.1 r3.2.2 r42.2)).bind fun r51 =>
  (gd (bo3 (bo3 (bo3 (bo3 r47 r48 (bo3 r48 false true)) (bo3 r47 r49 (bo3 r49 false true)) false) r50 false) (bo3 (bo3 (bo3 r4 false true) true (bo3 r51 false true)) false true) false) (impl_Ahead.f r3.1 r3.2.1 r42.2)).bind fun r52 =>
  some (bo3 (bo3 (bo3 (bo3 r47 r48 (bo3 r48 false true)) (bo3 r47 r49 (bo3 r49 false true)) false) r50 false) (bo3 (bo3 (bo3 r4 false true) true (bo3 r51 false true)) true r52) false))))

end Go.Proofs.Ytkgoleipdcbekaa.L
