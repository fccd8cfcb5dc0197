/- The pure functions of the program. -/
import Derived.Test.YtkpoiinkmodlnaaSl42
namespace Go.Proofs.Ytkpoiinkmodlnaa.L
open Go
set_option linter.unusedVariables false
structure Kid where
  Id : Int
  N : Int
  deriving Inhabited, DecidableEq

def laws_szKidS.f (a0 : List Kid) (a1 : Int) : Option Int :=
  bif (decide ((w64 (a1 - (lenI a0))) < 0)) then (
  some (-1))
  else (
  some (w64 (a1 - (lenI a0))))

def spec_KidPut.l0 (a0 : List Kid) (a1 : Int) (a2 : Int) (K3 : (List Kid) → Bool → Option ((List Kid))) : Nat → (List Kid) → Bool → Int → Option ((List Kid))
  | 0, _, _, _ => none
  | k + 1, z10, z11, z12 =>
    bif (decide (z12 < (lenI a0))) then (
    (getO a0 z12).bind fun x14 =>
    bif (bo3 (bo3 z11 false true) (decide (a1 ≤ x14.Id)) false) then (
    joinK (fun (y22 : Int) =>
    joinK (fun (y25 : List Kid) =>
    bif (decide (x14.Id = a1)) then (
    spec_KidPut.l0 a0 a1 a2 K3 k y25 true (w64 (z12 + 1)))
    else (
    (some [x14]).bind fun l31 =>
    (appO 16 y25 l31).bind fun l32 =>
    spec_KidPut.l0 a0 a1 a2 K3 k l32 true (w64 (z12 + 1)))) (fun K26 =>
    bif (decide (0 < y22)) then (
    (some [(Kid.mk a1 y22)]).bind fun l28 =>
    (appO 16 z10 l28).bind fun l29 =>
    K26 l29)
    else (
    K26 z10))) (fun K23 =>
    bif (decide (x14.Id = a1)) then (
    K23 (w64 (x14.N + a2)))
    else (
    K23 a2)))
    else (
    (some [x14]).bind fun l33 =>
    (appO 16 z10 l33).bind fun l34 =>
    spec_KidPut.l0 a0 a1 a2 K3 k l34 z11 (w64 (z12 + 1))))
    else (
    K3 z10 z11)
def spec_KidPut.f (a0 : List Kid) (a1 : Int) (a2 : Int) : Option ((List Kid)) :=
  joinK (fun (y1 : List Kid) (y2 : Bool) =>
  bif (bo3 (bo3 y2 false true) (decide (0 < a2)) false) then (
  (some [(Kid.mk a1 a2)]).bind fun l40 =>
  (appO 16 y1 l40).bind fun l41 =>
  some l41)
  else (
  some y1)) (fun K3 =>
  spec_KidPut.l0 a0 a1 a2 K3 (((lenI a0) - 0).toNat + 1) [] false 0)

def laws_toKid.f (a0 : Kid) : Option Kid :=
  some a0

def laws_toKidS.l0 (a0 : List Kid) : Nat → (List Kid) → Int → Option ((List Kid))
  | 0, _, _ => none
  | k + 1, z5, z6 =>
    bif (decide (z6 < (lenI a0))) then (
    (getO a0 z6).bind fun x8 =>
    (laws_toKid.f x8).bind fun r9 =>
    (getO z5 z6).bind fun x10 =>
    (some (setI z5 z6 r9)).bind fun l11 =>
    laws_toKidS.l0 a0 k l11 (w64 (z6 + 1)))
    else (
    some z5)
def laws_toKidS.f (a0 : List Kid) : Option ((List Kid)) :=
  (mkO 16 (lenI a0) (Kid.mk 0 0)).bind fun l1 =>
  laws_toKidS.l0 a0 (((lenI a0) - 0).toNat + 1) l1 0

def slices_Insert_impl_Kid.f (a0 : List Kid) (a1 : Int) (a2 : List Kid) : Option (List Kid) := insO 16 a0 a1 a2

def slices_Delete_impl_Kid.f (a0 : List Kid) (a1 : Int) (a2 : Int) : Option (List Kid) := delO a0 a1 a2

def impl_KidPut.l0 (a1 : Int) (l1 : List Kid) (K3 : Int → Option ((List Kid))) : Nat → Int → Option ((List Kid))
  | 0, _ => none
  | k + 1, z8 =>
    (gd (decide (z8 < (lenI l1))) (getO l1 z8)).bind fun x9 =>
    bif (bo3 (decide (z8 < (lenI l1))) (decide (x9.Id < a1)) false) then (
    impl_KidPut.l0 a1 l1 K3 k (w64 (z8 + 1)))
    else (
    K3 z8)
def impl_KidPut.f (a0 : List Kid) (a1 : Int) (a2 : Int) : Option ((List Kid)) :=
  (appO 16 [] a0).bind fun l1 =>
  joinK (fun (y2 : Int) =>
  (gd (bo3 (decide (y2 = (lenI l1))) false true) (getO l1 y2)).bind fun x20 =>
  bif (bo3 (decide (y2 = (lenI l1))) true (decide (x20.Id ≠ a1))) then (
  bif (decide (a2 ≤ 0)) then (
  some l1)
  else (
  (some [(Kid.mk a1 a2)]).bind fun l32 =>
  (slices_Insert_impl_Kid.f l1 y2 l32).bind fun r33 =>
  some r33))
  else (
  (getO l1 y2).bind fun x34 =>
  (some (setI l1 y2 (Kid.mk x34.Id (w64 (x34.N + a2))))).bind fun l35 =>
  (getO l35 y2).bind fun x36 =>
  bif (decide (x36.N ≤ 0)) then (
  (slices_Delete_impl_Kid.f l35 y2 (w64 (y2 + 1))).bind fun r38 =>
  some r38)
  else (
  some l35))) (fun K3 =>
  impl_KidPut.l0 a1 l1 K3 (((lenI l1) - 0).toNat + 1) 0)

def laws_eqKid.f (a0 : Kid) (a1 : Kid) : Option Bool :=
  bif (decide (a0.Id ≠ a1.Id)) then (
  some false)
  else (
  bif (decide (a0.N ≠ a1.N)) then (
  some false)
  else (
  some true))

def laws_eqKidS.l0 (a0 : List Kid) (a1 : List Kid) : Nat → Int → Option Bool
  | 0, _ => none
  | k + 1, z5 =>
    bif (decide (z5 < (lenI a0))) then (
    (getO a0 z5).bind fun x7 =>
    (getO a1 z5).bind fun x8 =>
    (laws_eqKid.f x7 x8).bind fun r9 =>
    bif (bo3 r9 false true) then (
    some false)
    else (
    laws_eqKidS.l0 a0 a1 k (w64 (z5 + 1))))
    else (
    some true)
def laws_eqKidS.f (a0 : List Kid) (a1 : List Kid) : Option Bool :=
  bif (decide ((lenI a0) ≠ (lenI a1))) then (
  some false)
  else (
  laws_eqKidS.l0 a0 a1 (((lenI a0) - 0).toNat + 1) 0)

def laws_markKidS.l0  : Nat → (List Kid) → Int → Int → Option ((List Kid) × Int)
  | 0, _, _, _ => none
  | k + 1, z4, z5, z6 =>
    bif (decide (z6 < (lenI z4))) then (
    (getO z4 z6).bind fun x8 =>
    (some (setI z4 z6 (Kid.mk z5 x8.N))).bind fun l9 =>
    (getO l9 z6).bind fun x10 =>
    (some (setI l9 z6 (Kid.mk x10.Id (w64 (z5 + 1))))).bind fun l11 =>
    laws_markKidS.l0 k l11 (w64 ((w64 (z5 + 1)) + 1)) (w64 (z6 + 1)))
    else (
    some (z4, z5))
def laws_markKidS.f (a0 : List Kid) (a1 : Int) : Option ((List Kid) × Int) :=
  laws_markKidS.l0 (((lenI a0) - 0).toNat + 1) a0 a1 0

def laws_heldKidS.l0 (a0 : List Kid) : Nat → Int → Int → Option Int
  | 0, _, _ => none
  | k + 1, z4, z5 =>
    bif (decide (z5 < (lenI a0))) then (
    (getO a0 z5).bind fun x7 =>
    bif (decide (x7.Id ≠ z4)) then (
    some (-1))
    else (
    bif (decide (x7.N ≠ (w64 (z4 + 1)))) then (
    some (-1))
    else (
    laws_heldKidS.l0 a0 k (w64 ((w64 (z4 + 1)) + 1)) (w64 (z5 + 1)))))
    else (
    some z4)
def laws_heldKidS.f (a0 : List Kid) (a1 : Int) : Option Int :=
  laws_heldKidS.l0 a0 (((lenI a0) - 0).toNat + 1) a1 0

def laws_FnExactKidPut.f (a0 : List Kid) (a1 : Int) (a2 : Int) : Option Bool :=
  (laws_szKidS.f a0 1048576).bind fun r1 =>
  bif (decide (r1 < 0)) then (
  some true)
  else (
  (laws_toKidS.f a0).bind fun r3 =>
  (spec_KidPut.f r3 a1 a2).bind fun r4 =>
  (laws_toKidS.f a0).bind fun r5 =>
  (impl_KidPut.f r5 a1 a2).bind fun r6 =>
  (laws_eqKidS.f r6 r4).bind fun r7 =>
  bif (bo3 r7 false true) then (
  some false)
  else (
  (laws_toKidS.f a0).bind fun r9 =>
  (laws_eqKidS.f r5 r9).bind fun r10 =>
  bif (bo3 r10 false true) then (
  some false)
  else (
  (laws_markKidS.f r5 1).bind fun r12 =>
  (gd (bo3 (decide (r12.2 < 0)) false true) (laws_eqKidS.f r6 r4)).bind fun r13 =>
  bif (bo3 (decide (r12.2 < 0)) true (bo3 r13 false true)) then (
  some false)
  else (
  (laws_markKidS.f r6 1).bind fun r21 =>
  (laws_heldKidS.f r21.1 1).bind fun r22 =>
  bif (decide (r22 < 0)) then (
  some false)
  else (
  bif (decide (r22 ≠ r21.2)) then (
  some false)
  else (
  (laws_toKidS.f a0).bind fun r25 =>
  (impl_KidPut.f r25 a1 a2).bind fun r26 =>
  (laws_eqKidS.f r26 r4).bind fun r27 =>
  bif (bo3 r27 false true) then (
  some false)
  else (
  (laws_heldKidS.f r21.1 1).bind fun r29 =>
  bif (decide (r29 < 0)) then (
  some false)
  else (
  bif (decide (r29 ≠ r21.2)) then (
  some false)
  else (
  some true)))))))))

end Go.Proofs.Ytkpoiinkmodlnaa.L
