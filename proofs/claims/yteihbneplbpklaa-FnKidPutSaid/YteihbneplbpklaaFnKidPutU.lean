/- The pure functions of the program. -/
import Derived.Test.YteihbneplbpklaaSl43
namespace Go.Proofs.Yteihbneplbpklaa.L
open Go
set_option linter.unusedVariables false
structure Kid where
  Id : Int
  N : Int
  deriving Inhabited, DecidableEq
structure Cond where
  Col : Int
  Op : Int
  V : Int
  deriving Inhabited, DecidableEq
structure Query where
  Table : Int
  Where : List Cond
  Order : Int
  Down : Bool
  First : Int
  Show : List Int
  Kids : Bool
  KidTable : Int
  KidCol : Int
  deriving Inhabited, DecidableEq
structure Row where
  Id : Int
  Cells : List Int
  deriving Inhabited, DecidableEq
structure View where
  Q : Query
  Rows : List Row
  Kids : List Kid
  deriving Inhabited, DecidableEq
structure l1Cur where
  b : List Int
  i : Int
  h : Int
  deriving Inhabited, DecidableEq

def laws_big.f (a0 : List Int) : Option Bool :=
  some (decide (1048576 < (lenI a0)))

def spec_l1New.l0 (a0 : List Int) : Nat → Int → Int → Option l1Cur
  | 0, _, _ => none
  | k + 1, z4, z5 =>
    bif (bo3 (decide (z5 < (lenI a0))) (decide (z5 < 4000)) false) then (
    (getO a0 z5).bind fun x11 =>
    spec_l1New.l0 a0 k (Ls.ar .and .i64 (w64 ((w64 ((w64 (z4 * 131)) + (w64 x11))) + 7)) 1073741823) (w64 (z5 + 1)))
    else (
    some (l1Cur.mk a0 0 z4))
def spec_l1New.f (a0 : List Int) : Option l1Cur :=
  spec_l1New.l0 a0 (((lenI a0) - 0).toNat + 1) (w64 (17333 + (lenI a0))) 0

def spec_l1Byte.f (a0 : l1Cur) : Option (l1Cur × Int) :=
  bif (decide (a0.i < (lenI a0.b))) then (
  (getO a0.b a0.i).bind fun x2 =>
  some ((l1Cur.mk a0.b (w64 (a0.i + 1)) (w64 ((w64 (a0.h * 6364136223846793005)) + 1442695040888963407))), (Ls.ar .and .i64 (w64 ((Ls.ar .and .i64 (Ls.ar .xor .i64 (Ls.ar .shr .i64 (w64 ((w64 (a0.h * 6364136223846793005)) + 1442695040888963407)) 33) (Ls.ar .shr .i64 (w64 ((w64 (a0.h * 6364136223846793005)) + 1442695040888963407)) 45)) 255) + (w64 x2))) 255)))
  else (
  some ((l1Cur.mk a0.b a0.i (w64 ((w64 (a0.h * 6364136223846793005)) + 1442695040888963407))), (Ls.ar .and .i64 (Ls.ar .xor .i64 (Ls.ar .shr .i64 (w64 ((w64 (a0.h * 6364136223846793005)) + 1442695040888963407)) 33) (Ls.ar .shr .i64 (w64 ((w64 (a0.h * 6364136223846793005)) + 1442695040888963407)) 45)) 255)))

def spec_l1Below.f (a0 : l1Cur) (a1 : Int) : Option (l1Cur × Int) :=
  bif (decide (a1 ≤ 0)) then (
  some (a0, 0))
  else (
  bif (decide (a1 ≤ 256)) then (
  (spec_l1Byte.f a0).bind fun r3 =>
  (nzO a1).bind fun u4 =>
  some ((l1Cur.mk a0.b r3.1.i r3.1.h), (Int.tmod r3.2 a1)))
  else (
  (spec_l1Byte.f a0).bind fun r5 =>
  (spec_l1Byte.f (l1Cur.mk a0.b r5.1.i r5.1.h)).bind fun r6 =>
  (spec_l1Byte.f (l1Cur.mk a0.b r6.1.i r6.1.h)).bind fun r7 =>
  (spec_l1Byte.f (l1Cur.mk a0.b r7.1.i r7.1.h)).bind fun r8 =>
  (nzO a1).bind fun u9 =>
  some ((l1Cur.mk a0.b r8.1.i r8.1.h), (Int.tmod (w64 ((w64 ((w64 ((w64 (r5.2 * 16777216)) + (w64 (r6.2 * 65536)))) + (w64 (r7.2 * 256)))) + r8.2)) a1))))

def spec_KidPut.l0 (a0 : List Kid) (a1 : Int) (a2 : Int) (K3 : (List Kid) → Bool → Option ((List Kid))) : Nat → (List Kid) → Bool → Int → Option ((List Kid))
  | 0, _, _, _ => none
  | k + 1, z10, z11, z12 =>
    bif (decide (z12 < (lenI a0))) then (
    (getO a0 z12).bind fun x14 =>
    bif (bo3 (bo3 z11 false true) (decide (a1 ≤ x14.Id)) false) then (
    joinK (fun (y22 : Int) =>
    joinK (fun (y25 : List Kid) =>
    bif (decide (x14.Id = a1)) then (
    spec_KidPut.l0 a0 a1 a2 K3 k y25 true (w64 (z12 + 1)))
    else (
    (some [x14]).bind fun l31 =>
    (appO 16 y25 l31).bind fun l32 =>
    spec_KidPut.l0 a0 a1 a2 K3 k l32 true (w64 (z12 + 1)))) (fun K26 =>
    bif (decide (0 < y22)) then (
    (some [(Kid.mk a1 y22)]).bind fun l28 =>
    (appO 16 z10 l28).bind fun l29 =>
    K26 l29)
    else (
    K26 z10))) (fun K23 =>
    bif (decide (x14.Id = a1)) then (
    K23 (w64 (x14.N + a2)))
    else (
    K23 a2)))
    else (
    (some [x14]).bind fun l33 =>
    (appO 16 z10 l33).bind fun l34 =>
    spec_KidPut.l0 a0 a1 a2 K3 k l34 z11 (w64 (z12 + 1))))
    else (
    K3 z10 z11)
def spec_KidPut.f (a0 : List Kid) (a1 : Int) (a2 : Int) : Option ((List Kid)) :=
  joinK (fun (y1 : List Kid) (y2 : Bool) =>
  bif (bo3 (bo3 y2 false true) (decide (0 < a2)) false) then (
  (some [(Kid.mk a1 a2)]).bind fun l40 =>
  (appO 16 y1 l40).bind fun l41 =>
  some l41)
  else (
  some y1)) (fun K3 =>
  spec_KidPut.l0 a0 a1 a2 K3 (((lenI a0) - 0).toNat + 1) [] false 0)

def spec_DrawKidPut.l0 (r1 : l1Cur) (K5 : Int → Int → (List Kid) → Option ((List Kid) × Int × Int)) : Nat → Int → Int → (List Kid) → Int → Option ((List Kid) × Int × Int)
  | 0, _, _, _, _ => none
  | k + 1, z11, z12, z13, z14 =>
    (spec_l1Below.f (l1Cur.mk r1.b z11 z12) 6).bind fun r15 =>
    bif (decide (z14 < r15.2)) then (
    (spec_l1Below.f (l1Cur.mk r1.b r15.1.i r15.1.h) 7).bind fun r17 =>
    (spec_l1Below.f (l1Cur.mk r1.b r17.1.i r17.1.h) 2).bind fun r18 =>
    (spec_KidPut.f z13 r17.2 (w64 (1 + r18.2))).bind fun r19 =>
    spec_DrawKidPut.l0 r1 K5 k r18.1.i r18.1.h r19 (w64 (z14 + 1)))
    else (
    K5 r15.1.i r15.1.h z13)
def spec_DrawKidPut.f (a0 : List Int) : Option ((List Kid) × Int × Int) :=
  (spec_l1New.f a0).bind fun r1 =>
  joinK (fun (y2 : Int) (y3 : Int) (y4 : List Kid) =>
  (spec_l1Below.f (l1Cur.mk r1.b y2 y3) 7).bind fun r20 =>
  (spec_l1Below.f (l1Cur.mk r1.b r20.1.i r20.1.h) 6).bind fun r21 =>
  some (y4, r20.2, (w64 (r21.2 - 3)))) (fun K5 =>
  spec_DrawKidPut.l0 r1 K5 1000 r1.i r1.h [] 0)

def slices_Insert_impl_Kid.f (a0 : List Kid) (a1 : Int) (a2 : List Kid) : Option (List Kid) := insO 16 a0 a1 a2

def slices_Delete_impl_Kid.f (a0 : List Kid) (a1 : Int) (a2 : Int) : Option (List Kid) := delO a0 a1 a2

def impl_KidPut.l0 (a1 : Int) (l1 : List Kid) (K3 : Int → Option ((List Kid))) : Nat → Int → Option ((List Kid))
  | 0, _ => none
  | k + 1, z8 =>
    (gd (decide (z8 < (lenI l1))) (getO l1 z8)).bind fun x9 =>
    bif (bo3 (decide (z8 < (lenI l1))) (decide (x9.Id < a1)) false) then (
    impl_KidPut.l0 a1 l1 K3 k (w64 (z8 + 1)))
    else (
    K3 z8)
def impl_KidPut.f (a0 : List Kid) (a1 : Int) (a2 : Int) : Option ((List Kid)) :=
  (appO 16 [] a0).bind fun l1 =>
  joinK (fun (y2 : Int) =>
  (gd (bo3 (decide (y2 = (lenI l1))) false true) (getO l1 y2)).bind fun x20 =>
  bif (bo3 (decide (y2 = (lenI l1))) true (decide (x20.Id ≠ a1))) then (
  bif (decide (a2 ≤ 0)) then (
  some l1)
  else (
  (some [(Kid.mk a1 a2)]).bind fun l32 =>
  (slices_Insert_impl_Kid.f l1 y2 l32).bind fun r33 =>
  some r33))
  else (
  (getO l1 y2).bind fun x34 =>
  (some (setI l1 y2 (Kid.mk x34.Id (w64 (x34.N + a2))))).bind fun l35 =>
  (getO l35 y2).bind fun x36 =>
  bif (decide (x36.N ≤ 0)) then (
  (slices_Delete_impl_Kid.f l35 y2 (w64 (y2 + 1))).bind fun r38 =>
  some r38)
  else (
  some l35))) (fun K3 =>
  impl_KidPut.l0 a1 l1 K3 (((lenI l1) - 0).toNat + 1) 0)

def impl_KidsIn.l0 (a0 : View) (a1 : Int) : Nat → Int → Option Int
  | 0, _ => none
  | k + 1, z5 =>
    bif (decide (z5 < (lenI a0.Kids))) then (
    (getO a0.Kids z5).bind fun x7 =>
    bif (decide (x7.Id = a1)) then (
    some x7.N)
    else (
    impl_KidsIn.l0 a0 a1 k (w64 (z5 + 1))))
    else (
    some 0)
def impl_KidsIn.f (a0 : View) (a1 : Int) : Option Int :=
  impl_KidsIn.l0 a0 a1 (((lenI a0.Kids) - 0).toNat + 1) 0

def laws_max0.f (a0 : Int) : Option Int :=
  bif (decide (a0 < 0)) then (
  some 0)
  else (
  some a0)

def laws_FnKidPut.l0 (r3 : (List Kid) × Int × Int) (r4 : (List Kid)) (K8 : Unit → Option Bool) : Nat → Int → Option Bool
  | 0, _ => none
  | k + 1, z28 =>
    bif (decide (z28 < 8)) then (
    (impl_KidsIn.f (View.mk (Query.mk 0 [] 0 false 0 [] false 0 0) [] r3.1) z28).bind fun r30 =>
    joinK (fun (y31 : Int) =>
    (impl_KidsIn.f (View.mk (Query.mk 0 [] 0 false 0 [] false 0 0) [] r4) z28).bind fun r35 =>
    bif (decide (r35 ≠ y31)) then (
    some false)
    else (
    laws_FnKidPut.l0 r3 r4 K8 k (w64 (z28 + 1)))) (fun K32 =>
    bif (decide (z28 = r3.2.1)) then (
    (laws_max0.f (w64 (r30 + r3.2.2))).bind fun r34 =>
    K32 r34)
    else (
    K32 r30)))
    else (
    K8 ())
def laws_FnKidPut.l1 (r4 : (List Kid)) : Nat → Int → Option Bool
  | 0, _ => none
  | k + 1, z39 =>
    bif (decide (z39 < (lenI r4))) then (
    (getO r4 (w64 (z39 - 1))).bind fun x41 =>
    (getO r4 z39).bind fun x42 =>
    bif (decide (x42.Id ≤ x41.Id)) then (
    some false)
    else (
    laws_FnKidPut.l1 r4 k (w64 (z39 + 1))))
    else (
    some true)
def laws_FnKidPut.f (a0 : List Int) : Option Bool :=
  (laws_big.f a0).bind fun r1 =>
  bif r1 then (
  some true)
  else (
  (spec_DrawKidPut.f a0).bind fun r3 =>
  (impl_KidPut.f r3.1 r3.2.1 r3.2.2).bind fun r4 =>
  (spec_KidPut.f r3.1 r3.2.1 r3.2.2).bind fun r5 =>
  bif (decide ((lenI r4) ≠ (lenI r5))) then (
  some false)
  else (
  joinK (fun (y7 : Unit) =>
  laws_FnKidPut.l1 r4 (((lenI r4) - 1).toNat + 1) 1) (fun K8 =>
  laws_FnKidPut.l0 r3 r4 K8 (((8 : Int) - 0).toNat + 1) 0)))

end Go.Proofs.Yteihbneplbpklaa.L
