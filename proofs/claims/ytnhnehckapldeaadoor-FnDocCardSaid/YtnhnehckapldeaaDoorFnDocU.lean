/- The pure functions of the program. -/
import Derived.Test.YtnhnehckapldeaaDoorSl48
namespace Go.Proofs.YtnhnehckapldeaaDoor.L
open Go
set_option linter.unusedVariables false
structure Cond where
  Col : Int
  Op : Int
  V : Int
  deriving Inhabited, DecidableEq
structure Query where
  Table : Int
  Where : List Cond
  Order : Int
  Down : Bool
  First : Int
  Show : List Int
  Kids : Bool
  KidTable : Int
  KidCol : Int
  deriving Inhabited, DecidableEq
structure Row where
  Id : Int
  Cells : List Int
  deriving Inhabited, DecidableEq
structure Json where
  Kind : Int
  N : Int
  S : ByteArray
  List_ : List Json
  Names : List ByteArray
instance : Inhabited Json := ⟨⟨0, 0, ByteArray.empty, [], []⟩⟩
noncomputable instance : DecidableEq Json := fun _ _ => Classical.propDecidable _
structure l1Cur where
  b : List Int
  i : Int
  h : Int
  deriving Inhabited, DecidableEq
structure Schema where
  Cols : List Int
  deriving Inhabited, DecidableEq

def slices_Index_string.l0 (a0 : List ByteArray) (a1 : ByteArray) : Nat → Int → Option Int
  | 0, _ => none
  | k + 1, z5 =>
    bif (decide (z5 < (lenI a0))) then (
    (getO a0 z5).bind fun x7 =>
    bif (Ls.sc .eql a1 x7) then (
    some z5)
    else (
    slices_Index_string.l0 a0 a1 k (w64 (z5 + 1))))
    else (
    some (-1))
def slices_Index_string.f (a0 : List ByteArray) (a1 : ByteArray) : Option Int :=
  slices_Index_string.l0 a0 a1 (((lenI a0) - 0).toNat + 1) 0

def impl_within.f (a0 : Int) (a1 : Int) (a2 : Int) : Option Bool :=
  some (bo3 (decide (a1 ≤ a0)) (decide (a0 ≤ a2)) false)

def impl_textOk.l0 (a0 : ByteArray) : Nat → Int → Int → Option Bool
  | 0, _, _ => none
  | k + 1, z4, z5 =>
    bif (decide (z5 < z4)) then (
    (inS a0 z5).bind fun u7 =>
    (impl_within.f (w64 (Ls.sx a0 z5)) 32 126).bind fun r8 =>
    bif (bo3 r8 false true) then (
    some false)
    else (
    impl_textOk.l0 a0 k z4 (w64 (z5 + 1))))
    else (
    some (decide ((Ls.sl a0) ≤ 60)))
def impl_textOk.f (a0 : ByteArray) : Option Bool :=
  impl_textOk.l0 a0 (((Ls.sl a0) - 0).toNat + 1) (Ls.sl a0) 0

def impl_namesOk.l0 (a0 : List ByteArray) : Nat → Int → Option Bool
  | 0, _ => none
  | k + 1, z5 =>
    bif (decide (z5 < (lenI a0))) then (
    (getO a0 z5).bind fun x7 =>
    (impl_textOk.f x7).bind fun r8 =>
    (gd (bo3 (bo3 (bo3 r8 false true) false true) (decide (0 < z5)) false) (getO a0 (w64 (z5 - 1)))).bind fun x9 =>
    bif (bo3 (bo3 r8 false true) true (bo3 (decide (0 < z5)) (Ls.sc .geq x9 x7) false)) then (
    some false)
    else (
    impl_namesOk.l0 a0 k (w64 (z5 + 1))))
    else (
    some true)
def impl_namesOk.f (a0 : List ByteArray) : Option Bool :=
  impl_namesOk.l0 a0 (((lenI a0) - 0).toNat + 1) 0

def impl_isNum.f (a0 : Int) : Option Bool :=
  (impl_within.f a0 (-1000000000) 1000000000).bind fun r1 =>
  some r1

def impl_ownOk.f (a0 : Json) : Option Bool :=
  bif (bo3 (bo3 (bo3 (decide (0 < (lenI a0.List_))) (decide (a0.Kind ≠ 4)) false) (decide (a0.Kind ≠ 5)) false) true (bo3 (decide (0 < (lenI a0.Names))) (decide (a0.Kind ≠ 5)) false)) then (
  some false)
  else (
  bif (bo3 (bo3 (bo3 (decide (a0.N ≠ 0)) (decide (a0.Kind ≠ 1)) false) (decide (a0.Kind ≠ 2)) false) true (bo3 (Ls.sc .neq a0.S (ByteArray.mk #[])) (decide (a0.Kind ≠ 3)) false)) then (
  some false)
  else (
  bif (decide (a0.Kind = 1)) then (
  (impl_within.f a0.N 0 1).bind fun r49 =>
  some r49)
  else (
  bif (decide (a0.Kind = 2)) then (
  (impl_isNum.f a0.N).bind fun r51 =>
  some r51)
  else (
  bif (decide (a0.Kind = 3)) then (
  (impl_textOk.f a0.S).bind fun r53 =>
  some r53)
  else (
  bif (decide (a0.Kind = 5)) then (
  (gd (decide ((lenI a0.Names) = (lenI a0.List_))) (impl_namesOk.f a0.Names)).bind fun r55 =>
  some (bo3 (decide ((lenI a0.Names) = (lenI a0.List_))) r55 false))
  else (
  some (bo3 (decide (a0.Kind = 0)) true (decide (a0.Kind = 4)))))))))

def impl_sizeIn.l0 (a0 : Json) (a1 : Int) (self : Json → Int → Option Int) : Nat → Int → Int → Option Int
  | 0, _, _ => none
  | k + 1, z13, z14 =>
    bif (decide (z14 < (lenI a0.List_))) then (
    (getO a0.List_ z14).bind fun x16 =>
    (self x16 (w64 (a1 - 1))).bind fun r17 =>
    bif (decide (400 < (w64 (z13 + r17)))) then (
    some 401)
    else (
    impl_sizeIn.l0 a0 a1 self k (w64 (z13 + r17)) (w64 (z14 + 1))))
    else (
    some z13)
def impl_sizeIn.b (self : Json → Int → Option Int) (a0 : Json) (a1 : Int) : Option Int :=
  (gd (bo3 (decide (a1 < 1)) false true) (impl_ownOk.f a0)).bind fun r1 =>
  bif (bo3 (decide (a1 < 1)) true (bo3 r1 false true)) then (
  some 401)
  else (
  impl_sizeIn.l0 a0 a1 self (((lenI a0.List_) - 0).toNat + 1) 1 0)
def impl_sizeIn.g : Nat → Json → Int → Option Int
  | 0 => fun _ _ => none
  | k + 1 => impl_sizeIn.b (impl_sizeIn.g k)
def impl_sizeIn.f (a0 : Json) (a1 : Int) : Option Int := impl_sizeIn.g 20 a0 a1

def impl_JsonOk.f (a0 : Json) : Option Bool :=
  (impl_sizeIn.f a0 6).bind fun r1 =>
  some (decide (r1 ≤ 400))

def impl_copyTexts.f (a0 : List ByteArray) : Option ((List ByteArray)) :=
  (appO 16 [] a0).bind fun l1 =>
  some l1

def impl_copyJson.l0 (a0 : Json) (r1 : (List ByteArray)) (self : Json → Option Json) : Nat → (List Json) → Int → Option Json
  | 0, _, _ => none
  | k + 1, z23, z24 =>
    bif (decide (z24 < (lenI a0.List_))) then (
    (getO a0.List_ z24).bind fun x26 =>
    (self x26).bind fun r27 =>
    (some [r27]).bind fun l28 =>
    (appO 80 z23 l28).bind fun l29 =>
    impl_copyJson.l0 a0 r1 self k l29 (w64 (z24 + 1)))
    else (
    some (Json.mk a0.Kind a0.N a0.S z23 r1))
def impl_copyJson.b (self : Json → Option Json) (a0 : Json) : Option Json :=
  (impl_copyTexts.f a0.Names).bind fun r1 =>
  impl_copyJson.l0 a0 r1 self (((lenI a0.List_) - 0).toNat + 1) [] 0
def impl_copyJson.g : Nat → Json → Option Json
  | 0 => fun _ => none
  | k + 1 => impl_copyJson.b (impl_copyJson.g k)
def impl_copyJson.f (a0 : Json) : Option Json := impl_copyJson.g 20 a0

def impl_Field.f (a0 : Json) (a1 : ByteArray) : Option (Json × Bool) :=
  (slices_Index_string.f a0.Names a1).bind fun r1 =>
  (impl_JsonOk.f a0).bind fun r2 =>
  bif (bo3 (bo3 r2 false true) true (decide (r1 < 0))) then (
  some ((Json.mk 0 0 ByteArray.empty [] []), false))
  else (
  (getO a0.List_ r1).bind fun x8 =>
  (impl_copyJson.f x8).bind fun r9 =>
  some (r9, true))

def slices_Equal_string.l0 (a0 : List ByteArray) (a1 : List ByteArray) : Nat → Int → Option Bool
  | 0, _ => none
  | k + 1, z6 =>
    bif (decide (z6 < (lenI a0))) then (
    (getO a0 z6).bind fun x8 =>
    (getO a1 z6).bind fun x9 =>
    bif (Ls.sc .neq x8 x9) then (
    some false)
    else (
    slices_Equal_string.l0 a0 a1 k (w64 (z6 + 1))))
    else (
    some true)
def slices_Equal_string.f (a0 : List ByteArray) (a1 : List ByteArray) : Option Bool :=
  bif (decide ((lenI a0) ≠ (lenI a1))) then (
  some false)
  else (
  slices_Equal_string.l0 a0 a1 (((lenI a0) - 0).toNat + 1) 0)

def slices_EqualFunc_impl_Json__impl_alike.l0 (a0 : List Json) (a1 : List Json) (self : Json → Json → Option Bool) : Nat → Int → Option Bool
  | 0, _ => none
  | k + 1, z6 =>
    bif (decide (z6 < (lenI a0))) then (
    (getO a0 z6).bind fun x8 =>
    (getO a1 z6).bind fun x9 =>
    (self x8 x9).bind fun r10 =>
    bif (bo3 r10 false true) then (
    some false)
    else (
    slices_EqualFunc_impl_Json__impl_alike.l0 a0 a1 self k (w64 (z6 + 1))))
    else (
    some true)
def slices_EqualFunc_impl_Json__impl_alike.f (self : Json → Json → Option Bool) (a0 : List Json) (a1 : List Json) : Option Bool :=
  bif (decide ((lenI a0) ≠ (lenI a1))) then (
  some false)
  else (
  slices_EqualFunc_impl_Json__impl_alike.l0 a0 a1 self (((lenI a0) - 0).toNat + 1) 0)

def impl_alike.b (self : Json → Json → Option Bool) (a0 : Json) (a1 : Json) : Option Bool :=
  (gd (bo3 (bo3 (decide (a0.Kind = a1.Kind)) (decide (a0.N = a1.N)) false) (Ls.sc .eql a0.S a1.S) false) (slices_Equal_string.f a0.Names a1.Names)).bind fun r1 =>
  (gd (bo3 (bo3 (bo3 (decide (a0.Kind = a1.Kind)) (decide (a0.N = a1.N)) false) (Ls.sc .eql a0.S a1.S) false) r1 false) (slices_EqualFunc_impl_Json__impl_alike.f self a0.List_ a1.List_)).bind fun r2 =>
  some (bo3 (bo3 (bo3 (bo3 (decide (a0.Kind = a1.Kind)) (decide (a0.N = a1.N)) false) (Ls.sc .eql a0.S a1.S) false) r1 false) r2 false)
def impl_alike.g : Nat → Json → Json → Option Bool
  | 0 => fun _ _ => none
  | k + 1 => impl_alike.b (impl_alike.g k)
def impl_alike.f (a0 : Json) (a1 : Json) : Option Bool := impl_alike.g 20 a0 a1

def impl_JsonSame.f (a0 : Json) (a1 : Json) : Option Bool :=
  (impl_JsonOk.f a0).bind fun r1 =>
  (gd r1 (impl_JsonOk.f a1)).bind fun r2 =>
  (gd (bo3 r1 r2 false) (impl_alike.f a0 a1)).bind fun r3 =>
  some (bo3 (bo3 r1 r2 false) r3 false)

def impl_orNull.f (a0 : Json) : Option Json :=
  (impl_JsonOk.f a0).bind fun r1 =>
  bif (bo3 r1 false true) then (
  some (Json.mk 0 0 ByteArray.empty [] []))
  else (
  some a0)

def slices_Index_int.l0 (a0 : List Int) (a1 : Int) : Nat → Int → Option Int
  | 0, _ => none
  | k + 1, z5 =>
    bif (decide (z5 < (lenI a0))) then (
    (getO a0 z5).bind fun x7 =>
    bif (decide (a1 = x7)) then (
    some z5)
    else (
    slices_Index_int.l0 a0 a1 k (w64 (z5 + 1))))
    else (
    some (-1))
def slices_Index_int.f (a0 : List Int) (a1 : Int) : Option Int :=
  slices_Index_int.l0 a0 a1 (((lenI a0) - 0).toNat + 1) 0

def slices_Contains_int.f (a0 : List Int) (a1 : Int) : Option Bool :=
  (slices_Index_int.f a0 a1).bind fun r1 =>
  some (decide (0 ≤ r1))

def strconv_Itoa.f (a0 : Int) : Option ByteArray := itoaO a0

def impl_digits.f (a0 : Int) : Option ByteArray :=
  (strconv_Itoa.f a0).bind fun r1 =>
  some r1

def impl_cellOf.f (a0 : Row) (a1 : Int) : Option Int :=
  (impl_within.f a1 0 (w64 ((lenI a0.Cells) - 1))).bind fun r1 =>
  bif (bo3 r1 false true) then (
  some 0)
  else (
  (getO a0.Cells a1).bind fun x3 =>
  some x3)

def cmp_isNaN_string.f (a0 : ByteArray) : Option Bool :=
  some (Ls.sc .neq a0 a0)

def cmp_Less_string.f (a0 : ByteArray) (a1 : ByteArray) : Option Bool :=
  (cmp_isNaN_string.f a0).bind fun r1 =>
  (gd r1 (cmp_isNaN_string.f a1)).bind fun r2 =>
  some (bo3 (bo3 r1 (bo3 r2 false true) false) true (Ls.sc .lss a0 a1))

def slices_isNaN_string.f (a0 : ByteArray) : Option Bool :=
  some (Ls.sc .neq a0 a0)

def slices_BinarySearch_string.l0 (a0 : List ByteArray) (a1 : ByteArray) (K2 : Int → Option (Int × Bool)) : Nat → Int → Int → Option (Int × Bool)
  | 0, _, _ => none
  | k + 1, z8, z9 =>
    bif (decide (z8 < z9)) then (
    (getO a0 (w64 (Ls.ar .shr .u64 (IntKind.wrap .u64 (w64 (z8 + z9))) 1))).bind fun x11 =>
    (cmp_Less_string.f x11 a1).bind fun r12 =>
    bif r12 then (
    slices_BinarySearch_string.l0 a0 a1 K2 k (w64 ((w64 (Ls.ar .shr .u64 (IntKind.wrap .u64 (w64 (z8 + z9))) 1)) + 1)) z9)
    else (
    slices_BinarySearch_string.l0 a0 a1 K2 k z8 (w64 (Ls.ar .shr .u64 (IntKind.wrap .u64 (w64 (z8 + z9))) 1))))
    else (
    K2 z8)
def slices_BinarySearch_string.f (a0 : List ByteArray) (a1 : ByteArray) : Option (Int × Bool) :=
  joinK (fun (y1 : Int) =>
  (gd (decide (y1 < (lenI a0))) (getO a0 y1)).bind fun x14 =>
  (gd (bo3 (decide (y1 < (lenI a0))) (bo3 (Ls.sc .eql x14 a1) false true) false) (getO a0 y1)).bind fun x15 =>
  (gd (bo3 (decide (y1 < (lenI a0))) (bo3 (Ls.sc .eql x14 a1) false true) false) (slices_isNaN_string.f x15)).bind fun r16 =>
  (gd (bo3 (bo3 (decide (y1 < (lenI a0))) (bo3 (Ls.sc .eql x14 a1) false true) false) r16 false) (slices_isNaN_string.f a1)).bind fun r17 =>
  some (y1, (bo3 (decide (y1 < (lenI a0))) (bo3 (Ls.sc .eql x14 a1) true (bo3 r16 r17 false)) false))) (fun K2 =>
  slices_BinarySearch_string.l0 a0 a1 K2 (((lenI a0) - 0).toNat + 1) 0 (lenI a0))

def slices_Insert_string.f (a0 : List ByteArray) (a1 : Int) (a2 : List ByteArray) : Option (List ByteArray) := insO 16 a0 a1 a2

def slices_Insert_impl_Json.f (a0 : List Json) (a1 : Int) (a2 : List Json) : Option (List Json) := insO 80 a0 a1 a2

def impl_objOf.l0 (a0 : List ByteArray) (a1 : List Int) : Nat → (List Json) → (List ByteArray) → Int → Option Json
  | 0, _, _, _ => none
  | k + 1, z23, z24, z25 =>
    bif (decide (z25 < (lenI a0))) then (
    (getO a0 z25).bind fun x27 =>
    (slices_BinarySearch_string.f z24 x27).bind fun r28 =>
    (some [x27]).bind fun l29 =>
    (slices_Insert_string.f z24 r28.1 l29).bind fun r30 =>
    (getO a1 z25).bind fun x31 =>
    (some [(Json.mk 2 x31 ByteArray.empty [] [])]).bind fun l32 =>
    (slices_Insert_impl_Json.f z23 r28.1 l32).bind fun r33 =>
    impl_objOf.l0 a0 a1 k r33 r30 (w64 (z25 + 1)))
    else (
    some (Json.mk 5 0 ByteArray.empty z23 z24))
def impl_objOf.f (a0 : List ByteArray) (a1 : List Int) : Option Json :=
  impl_objOf.l0 a0 a1 (((lenI a0) - 0).toNat + 1) [] [] 0

def impl_RowDoc.l0 (a0 : Query) (a1 : Row) (K5 : (List ByteArray) → (List Int) → Option Json) : Nat → (List ByteArray) → (List Int) → Int → Option Json
  | 0, _, _, _ => none
  | k + 1, z26, z27, z28 =>
    bif (decide (z28 < (lenI a0.Show))) then (
    (getO a0.Show z28).bind fun x30 =>
    (cutO a0.Show 0 z28).bind fun l31 =>
    (slices_Contains_int.f l31 x30).bind fun r32 =>
    bif r32 then (
    impl_RowDoc.l0 a0 a1 K5 k z26 z27 (w64 (z28 + 1)))
    else (
    (impl_digits.f x30).bind fun r34 =>
    (smO (ByteArray.mk #[99]) r34).bind fun u35 =>
    (some [(Ls.sa (ByteArray.mk #[99]) r34)]).bind fun l36 =>
    (appO 16 z26 l36).bind fun l37 =>
    (impl_cellOf.f a1 x30).bind fun r38 =>
    (some [r38]).bind fun l39 =>
    (appO 8 z27 l39).bind fun l40 =>
    impl_RowDoc.l0 a0 a1 K5 k l37 l40 (w64 (z28 + 1))))
    else (
    K5 z26 z27)
def impl_RowDoc.f (a0 : Query) (a1 : Row) (a2 : Int) : Option Json :=
  (some [(ByteArray.mk #[105, 100])]).bind fun l1 =>
  (some [a1.Id]).bind fun l2 =>
  joinK (fun (y3 : List ByteArray) (y4 : List Int) =>
  joinK (fun (y41 : List ByteArray) (y42 : List Int) =>
  (impl_objOf.f y41 y42).bind fun r49 =>
  (impl_orNull.f r49).bind fun r50 =>
  some r50) (fun K43 =>
  bif a0.Kids then (
  (some [(ByteArray.mk #[107, 105, 100, 115])]).bind fun l45 =>
  (appO 16 y3 l45).bind fun l46 =>
  (some [a2]).bind fun l47 =>
  (appO 8 y4 l47).bind fun l48 =>
  K43 l46 l48)
  else (
  K43 y3 y4))) (fun K5 =>
  impl_RowDoc.l0 a0 a1 K5 (((lenI a0.Show) - 0).toNat + 1) l1 l2 0)

def laws_big.f (a0 : List Int) : Option Bool :=
  some (decide (1048576 < (lenI a0)))

def spec_l1New.l0 (a0 : List Int) : Nat → Int → Int → Option l1Cur
  | 0, _, _ => none
  | k + 1, z4, z5 =>
    bif (bo3 (decide (z5 < (lenI a0))) (decide (z5 < 4000)) false) then (
    (getO a0 z5).bind fun x11 =>
    spec_l1New.l0 a0 k (Ls.ar .and .i64 (w64 ((w64 ((w64 (z4 * 131)) + (w64 x11))) + 7)) 1073741823) (w64 (z5 + 1)))
    else (
    some (l1Cur.mk a0 0 z4))
def spec_l1New.f (a0 : List Int) : Option l1Cur :=
  spec_l1New.l0 a0 (((lenI a0) - 0).toNat + 1) (w64 (17333 + (lenI a0))) 0

def spec_l1Byte.f (a0 : l1Cur) : Option (l1Cur × Int) :=
  bif (decide (a0.i < (lenI a0.b))) then (
  (getO a0.b a0.i).bind fun x2 =>
  some ((l1Cur.mk a0.b (w64 (a0.i + 1)) (w64 ((w64 (a0.h * 6364136223846793005)) + 1442695040888963407))), (Ls.ar .and .i64 (w64 ((Ls.ar .and .i64 (Ls.ar .xor .i64 (Ls.ar .shr .i64 (w64 ((w64 (a0.h * 6364136223846793005)) + 1442695040888963407)) 33) (Ls.ar .shr .i64 (w64 ((w64 (a0.h * 6364136223846793005)) + 1442695040888963407)) 45)) 255) + (w64 x2))) 255)))
  else (
  some ((l1Cur.mk a0.b a0.i (w64 ((w64 (a0.h * 6364136223846793005)) + 1442695040888963407))), (Ls.ar .and .i64 (Ls.ar .xor .i64 (Ls.ar .shr .i64 (w64 ((w64 (a0.h * 6364136223846793005)) + 1442695040888963407)) 33) (Ls.ar .shr .i64 (w64 ((w64 (a0.h * 6364136223846793005)) + 1442695040888963407)) 45)) 255)))

def spec_l1Below.f (a0 : l1Cur) (a1 : Int) : Option (l1Cur × Int) :=
  bif (decide (a1 ≤ 0)) then (
  some (a0, 0))
  else (
  bif (decide (a1 ≤ 256)) then (
  (spec_l1Byte.f a0).bind fun r3 =>
  (nzO a1).bind fun u4 =>
  some ((l1Cur.mk a0.b r3.1.i r3.1.h), (Int.tmod r3.2 a1)))
  else (
  (spec_l1Byte.f a0).bind fun r5 =>
  (spec_l1Byte.f (l1Cur.mk a0.b r5.1.i r5.1.h)).bind fun r6 =>
  (spec_l1Byte.f (l1Cur.mk a0.b r6.1.i r6.1.h)).bind fun r7 =>
  (spec_l1Byte.f (l1Cur.mk a0.b r7.1.i r7.1.h)).bind fun r8 =>
  (nzO a1).bind fun u9 =>
  some ((l1Cur.mk a0.b r8.1.i r8.1.h), (Int.tmod (w64 ((w64 ((w64 ((w64 (r5.2 * 16777216)) + (w64 (r6.2 * 65536)))) + (w64 (r7.2 * 256)))) + r8.2)) a1))))

def spec_l6DrawSchema.l0 (a0 : l1Cur) : Nat → Int → Int → (List Int) → Int → Option (l1Cur × Schema)
  | 0, _, _, _, _ => none
  | k + 1, z10, z11, z12, z13 =>
    (spec_l1Below.f (l1Cur.mk a0.b z10 z11) 3).bind fun r14 =>
    bif (decide (z13 < (w64 (1 + r14.2)))) then (
    (spec_l1Below.f (l1Cur.mk a0.b r14.1.i r14.1.h) 4).bind fun r16 =>
    (some [(w64 (1 + r16.2))]).bind fun l17 =>
    (appO 8 z12 l17).bind fun l18 =>
    spec_l6DrawSchema.l0 a0 k r16.1.i r16.1.h l18 (w64 (z13 + 1)))
    else (
    some ((l1Cur.mk a0.b r14.1.i r14.1.h), (Schema.mk z12)))
def spec_l6DrawSchema.f (a0 : l1Cur) : Option (l1Cur × Schema) :=
  spec_l6DrawSchema.l0 a0 1000 a0.i a0.h [] 0

def spec_l1PickInt.f (a0 : l1Cur) (a1 : List Int) : Option (l1Cur × Int) :=
  (spec_l1Below.f a0 (lenI a1)).bind fun r1 =>
  (getO a1 r1.2).bind fun x2 =>
  some ((l1Cur.mk a0.b r1.1.i r1.1.h), x2)

def spec_l1Once.f (a0 : l1Cur) (a1 : Int) : Option (l1Cur × Bool) :=
  (spec_l1Below.f a0 a1).bind fun r1 =>
  some ((l1Cur.mk a0.b r1.1.i r1.1.h), (decide (r1.2 = 0)))

def spec_l1Max.f (a0 : Int) (a1 : Int) : Option Int :=
  bif (decide (a1 < a0)) then (
  some a0)
  else (
  some a1)

def spec_l9DrawRight.l0 (a0 : l1Cur) (y3 : Int) (K11 : Int → Int → (List Cond) → Option (l1Cur × Query)) : Nat → Int → Int → (List Cond) → Int → Option (l1Cur × Query)
  | 0, _, _, _, _ => none
  | k + 1, z53, z54, z55, z56 =>
    (spec_l1Below.f (l1Cur.mk a0.b z53 z54) 3).bind fun r57 =>
    bif (decide (z56 < r57.2)) then (
    (spec_l1Below.f (l1Cur.mk a0.b r57.1.i r57.1.h) y3).bind fun r59 =>
    (spec_l1Below.f (l1Cur.mk a0.b r59.1.i r59.1.h) 4).bind fun r60 =>
    (spec_l1Below.f (l1Cur.mk a0.b r60.1.i r60.1.h) 6).bind fun r61 =>
    (some [(Cond.mk r59.2 (w64 (1 + r60.2)) r61.2)]).bind fun l62 =>
    (appO 24 z55 l62).bind fun l63 =>
    spec_l9DrawRight.l0 a0 y3 K11 k r61.1.i r61.1.h l63 (w64 (z56 + 1)))
    else (
    K11 r57.1.i r57.1.h z55)
def spec_l9DrawRight.l1 (a0 : l1Cur) (y3 : Int) (K76 : Int → Int → Bool → (List Int) → Option (l1Cur × Query)) : Nat → Int → Int → Bool → (List Int) → Int → Option (l1Cur × Query)
  | 0, _, _, _, _, _ => none
  | k + 1, z120, z121, z122, z123, z124 =>
    bif (decide (z124 < y3)) then (
    (spec_l1Once.f (l1Cur.mk a0.b z120 z121) 2).bind fun r126 =>
    bif r126.2 then (
    (some [z124]).bind fun l128 =>
    (appO 8 z123 l128).bind fun l129 =>
    spec_l9DrawRight.l1 a0 y3 K76 k r126.1.i r126.1.h z122 l129 (w64 (z124 + 1)))
    else (
    spec_l9DrawRight.l1 a0 y3 K76 k r126.1.i r126.1.h z122 z123 (w64 (z124 + 1))))
    else (
    K76 z120 z121 z122 z123)
def spec_l9DrawRight.f (a0 : l1Cur) (a1 : Schema) : Option (l1Cur × Query) :=
  (spec_l1Max.f (lenI a1.Cols) 1).bind fun r1 =>
  (spec_l1Below.f a0 r1).bind fun r2 =>
  joinK (fun (y3 : Int) =>
  joinK (fun (y8 : Int) (y9 : Int) (y10 : List Cond) =>
  (spec_l1Below.f (l1Cur.mk a0.b y8 y9) (w64 (y3 + 1))).bind fun r64 =>
  (gd (decide (0 < r64.2)) (spec_l1Once.f (l1Cur.mk a0.b r64.1.i r64.1.h) 2)).bind fun r65 =>
  (some [0, 0, 1, 2, 3, 5]).bind fun l70 =>
  (spec_l1PickInt.f (l1Cur.mk a0.b (ci3 (decide (0 < r64.2)) r65.1.i r64.1.i) (ci3 (decide (0 < r64.2)) r65.1.h r64.1.h)) l70).bind fun r71 =>
  joinK (fun (y72 : Int) (y73 : Int) (y74 : Bool) (y75 : List Int) =>
  (spec_l1Once.f (l1Cur.mk a0.b y72 y73) 2).bind fun r130 =>
  bif r130.2 then (
  (spec_l1Max.f (lenI a1.Cols) 1).bind fun r132 =>
  (spec_l1Below.f (l1Cur.mk a0.b r130.1.i r130.1.h) r132).bind fun r133 =>
  bif (decide (r133.2 < (lenI a1.Cols))) then (
  (getO a1.Cols r133.2).bind fun x135 =>
  (spec_l1Max.f x135 1).bind fun r136 =>
  (spec_l1Below.f (l1Cur.mk a0.b r133.1.i r133.1.h) r136).bind fun r137 =>
  some ((l1Cur.mk a0.b r137.1.i r137.1.h), (Query.mk r2.2 y10 r64.2 y74 r71.2 y75 true r133.2 r137.2)))
  else (
  some ((l1Cur.mk a0.b r133.1.i r133.1.h), (Query.mk r2.2 y10 r64.2 y74 r71.2 y75 true r133.2 0))))
  else (
  some ((l1Cur.mk a0.b r130.1.i r130.1.h), (Query.mk r2.2 y10 r64.2 y74 r71.2 y75 false 0 0)))) (fun K76 =>
  spec_l9DrawRight.l1 a0 y3 K76 ((y3 - 0).toNat + 1) r71.1.i r71.1.h (bo3 (decide (0 < r64.2)) r65.2 false) [] 0)) (fun K11 =>
  spec_l9DrawRight.l0 a0 y3 K11 1000 r2.1.i r2.1.h [] 0)) (fun K4 =>
  bif (decide (r2.2 < (lenI a1.Cols))) then (
  (getO a1.Cols r2.2).bind fun x6 =>
  (spec_l1Max.f x6 1).bind fun r7 =>
  K4 r7)
  else (
  K4 1))

def spec_l9Draw.f (a0 : l1Cur) (a1 : Schema) : Option (l1Cur × Query) :=
  (spec_l9DrawRight.f a0 a1).bind fun r1 =>
  (spec_l1Below.f (l1Cur.mk a0.b r1.1.i r1.1.h) 25).bind fun r2 =>
  bif (decide (r2.2 = 0)) then (
  (spec_l1Below.f (l1Cur.mk a0.b r2.1.i r2.1.h) 5).bind fun r4 =>
  some ((l1Cur.mk a0.b r4.1.i r4.1.h), (Query.mk (w64 (r4.2 - 1)) r1.2.Where r1.2.Order r1.2.Down r1.2.First r1.2.Show r1.2.Kids r1.2.KidTable r1.2.KidCol)))
  else (
  bif (decide (r2.2 = 1)) then (
  (spec_l1Below.f (l1Cur.mk a0.b r2.1.i r2.1.h) 6).bind fun r6 =>
  (spec_l1Below.f (l1Cur.mk a0.b r6.1.i r6.1.h) 6).bind fun r7 =>
  (some [0, 1000000001]).bind fun l8 =>
  (spec_l1PickInt.f (l1Cur.mk a0.b r7.1.i r7.1.h) l8).bind fun r9 =>
  (some [(Cond.mk (w64 (r6.2 - 1)) r7.2 r9.2)]).bind fun l10 =>
  (appO 24 r1.2.Where l10).bind fun l11 =>
  some ((l1Cur.mk a0.b r9.1.i r9.1.h), (Query.mk r1.2.Table l11 r1.2.Order r1.2.Down r1.2.First r1.2.Show r1.2.Kids r1.2.KidTable r1.2.KidCol)))
  else (
  bif (decide (r2.2 = 2)) then (
  (spec_l1Below.f (l1Cur.mk a0.b r2.1.i r2.1.h) 7).bind fun r13 =>
  some ((l1Cur.mk a0.b r13.1.i r13.1.h), (Query.mk r1.2.Table r1.2.Where (w64 (r13.2 - 1)) r1.2.Down r1.2.First r1.2.Show r1.2.Kids r1.2.KidTable r1.2.KidCol)))
  else (
  bif (decide (r2.2 = 3)) then (
  (some [(-1), 24, 25]).bind fun l15 =>
  (spec_l1PickInt.f (l1Cur.mk a0.b r2.1.i r2.1.h) l15).bind fun r16 =>
  some ((l1Cur.mk a0.b r16.1.i r16.1.h), (Query.mk r1.2.Table r1.2.Where r1.2.Order r1.2.Down r16.2 r1.2.Show r1.2.Kids r1.2.KidTable r1.2.KidCol)))
  else (
  bif (decide (r2.2 = 4)) then (
  (spec_l1Below.f (l1Cur.mk a0.b r2.1.i r2.1.h) 5).bind fun r18 =>
  (some [r18.2]).bind fun l19 =>
  (appO 8 r1.2.Show l19).bind fun l20 =>
  some ((l1Cur.mk a0.b r18.1.i r18.1.h), (Query.mk r1.2.Table r1.2.Where r1.2.Order r1.2.Down r1.2.First l20 r1.2.Kids r1.2.KidTable r1.2.KidCol)))
  else (
  bif (decide (r2.2 = 5)) then (
  (spec_l1Below.f (l1Cur.mk a0.b r2.1.i r2.1.h) 6).bind fun r22 =>
  some ((l1Cur.mk a0.b r22.1.i r22.1.h), (Query.mk r1.2.Table r1.2.Where r1.2.Order r1.2.Down r1.2.First r1.2.Show r1.2.Kids r1.2.KidTable (w64 (r22.2 - 1)))))
  else (
  some ((l1Cur.mk a0.b r2.1.i r2.1.h), r1.2)))))))

def spec_l6DrawRow.l0 (a0 : l1Cur) (a1 : Int) : Nat → Int → Int → Int → (List Int) → Int → Option (l1Cur × Row)
  | 0, _, _, _, _, _ => none
  | k + 1, z17, z18, z19, z20, z21 =>
    bif (decide (z21 < a1)) then (
    (spec_l1Below.f (l1Cur.mk a0.b z17 z18) 6).bind fun r23 =>
    (some [r23.2]).bind fun l24 =>
    (appO 8 z20 l24).bind fun l25 =>
    spec_l6DrawRow.l0 a0 a1 k r23.1.i r23.1.h z19 l25 (w64 (z21 + 1)))
    else (
    some ((l1Cur.mk a0.b z17 z18), (Row.mk z19 z20)))
def spec_l6DrawRow.f (a0 : l1Cur) (a1 : Int) : Option (l1Cur × Row) :=
  (spec_l1Below.f a0 12).bind fun r1 =>
  spec_l6DrawRow.l0 a0 a1 ((a1 - 0).toNat + 1) r1.1.i r1.1.h (w64 (1 + r1.2)) [] 0

def spec_RowAt.l0 (a0 : List Row) (a1 : Int) : Nat → Int → Option Int
  | 0, _ => none
  | k + 1, z4 =>
    bif (decide (z4 < (lenI a0))) then (
    (getO a0 z4).bind fun x6 =>
    bif (decide (x6.Id = a1)) then (
    some z4)
    else (
    spec_RowAt.l0 a0 a1 k (w64 (z4 + 1))))
    else (
    some (-1))
def spec_RowAt.f (a0 : List Row) (a1 : Int) : Option Int :=
  spec_RowAt.l0 a0 a1 (((lenI a0) - 0).toNat + 1) 0

def spec_l6Copy.f (a0 : Row) : Option Row :=
  (appO 8 [] a0.Cells).bind fun l1 =>
  some (Row.mk a0.Id l1)

def spec_RowDrop.l0 (a0 : List Row) (r1 : Int) : Nat → (List Row) → Int → Option ((List Row))
  | 0, _, _ => none
  | k + 1, z6, z7 =>
    bif (decide (z7 < (lenI a0))) then (
    bif (decide (z7 ≠ r1)) then (
    (getO a0 z7).bind fun x10 =>
    (spec_l6Copy.f x10).bind fun r11 =>
    (some [r11]).bind fun l12 =>
    (appO 32 z6 l12).bind fun l13 =>
    spec_RowDrop.l0 a0 r1 k l13 (w64 (z7 + 1)))
    else (
    spec_RowDrop.l0 a0 r1 k z6 (w64 (z7 + 1))))
    else (
    some z6)
def spec_RowDrop.f (a0 : List Row) (a1 : Int) : Option ((List Row)) :=
  (spec_RowAt.f a0 a1).bind fun r1 =>
  spec_RowDrop.l0 a0 r1 (((lenI a0) - 0).toNat + 1) [] 0

def spec_RowPut.l0 (a1 : Row) (r1 : (List Row)) (K3 : Int → Option ((List Row))) : Nat → Int → Int → Option ((List Row))
  | 0, _, _ => none
  | k + 1, z12, z13 =>
    bif (decide (0 ≤ z13)) then (
    (getO r1 z13).bind fun x15 =>
    bif (decide (a1.Id < x15.Id)) then (
    spec_RowPut.l0 a1 r1 K3 k z13 (w64 (z13 - 1)))
    else (
    spec_RowPut.l0 a1 r1 K3 k z12 (w64 (z13 - 1))))
    else (
    K3 z12)
def spec_RowPut.f (a0 : List Row) (a1 : Row) : Option ((List Row)) :=
  (spec_RowDrop.f a0 a1.Id).bind fun r1 =>
  joinK (fun (y2 : Int) =>
  (cutO r1 0 y2).bind fun l17 =>
  (appO 32 [] l17).bind fun l18 =>
  (spec_l6Copy.f a1).bind fun r19 =>
  (some [r19]).bind fun l20 =>
  (appO 32 l18 l20).bind fun l21 =>
  (cutO r1 y2 (lenI r1)).bind fun l22 =>
  (appO 32 l21 l22).bind fun l23 =>
  some l23) (fun K3 =>
  (spec_RowAt.f a0 a1.Id).bind fun r4 =>
  bif (decide (0 ≤ r4)) then (
  (spec_RowAt.f a0 a1.Id).bind fun r6 =>
  K3 r6)
  else (
  spec_RowPut.l0 a1 r1 K3 (((w64 ((lenI r1) - 1)) - 0).toNat + 2) (lenI r1) (w64 ((lenI r1) - 1))))

def spec_l6DrawRows.l0 (a0 : l1Cur) (a1 : Int) : Nat → Int → Int → (List Row) → Int → Option (l1Cur × (List Row))
  | 0, _, _, _, _ => none
  | k + 1, z7, z8, z9, z10 =>
    (spec_l1Below.f (l1Cur.mk a0.b z7 z8) 9).bind fun r11 =>
    bif (decide (z10 < r11.2)) then (
    (spec_l6DrawRow.f (l1Cur.mk a0.b r11.1.i r11.1.h) a1).bind fun r13 =>
    (spec_RowPut.f z9 r13.2).bind fun r14 =>
    spec_l6DrawRows.l0 a0 a1 k r13.1.i r13.1.h r14 (w64 (z10 + 1)))
    else (
    some ((l1Cur.mk a0.b r11.1.i r11.1.h), z9))
def spec_l6DrawRows.f (a0 : l1Cur) (a1 : Int) : Option (l1Cur × (List Row)) :=
  spec_l6DrawRows.l0 a0 a1 1000 a0.i a0.h [] 0

def spec_DrawDocOf.l0 (r1 : l1Cur) (r4 : l1Cur × (List Row)) (K8 : Int → Int → (List Int) → Option (Query × (List Row) × (List Int))) : Nat → Int → Int → (List Int) → Int → Option (Query × (List Row) × (List Int))
  | 0, _, _, _, _ => none
  | k + 1, z31, z32, z33, z34 =>
    (spec_l1Below.f (l1Cur.mk r1.b z31 z32) 3).bind fun r35 =>
    bif (decide (z34 < (w64 ((w64 ((lenI r4.2) + r35.2)) - 1)))) then (
    (spec_l1Below.f (l1Cur.mk r1.b r35.1.i r35.1.h) 4).bind fun r37 =>
    (some [r37.2]).bind fun l38 =>
    (appO 8 z33 l38).bind fun l39 =>
    spec_DrawDocOf.l0 r1 r4 K8 k r37.1.i r37.1.h l39 (w64 (z34 + 1)))
    else (
    K8 r35.1.i r35.1.h z33)
def spec_DrawDocOf.l1 (r1 : l1Cur) (r3 : l1Cur × Query) (y7 : List Int) : Nat → Int → Int → (List Row) → Option (Query × (List Row) × (List Int))
  | 0, _, _, _ => none
  | k + 1, z63, z64, z65 =>
    bif (decide ((lenI z65) < 90)) then (
    (spec_l6DrawRow.f (l1Cur.mk r1.b z63 z64) 2).bind fun r67 =>
    (some [r67.2]).bind fun l68 =>
    (appO 32 z65 l68).bind fun l69 =>
    spec_DrawDocOf.l1 r1 r3 y7 k r67.1.i r67.1.h l69)
    else (
    some (r3.2, z65, y7))
def spec_DrawDocOf.f (a0 : List Int) : Option (Query × (List Row) × (List Int)) :=
  (spec_l1New.f a0).bind fun r1 =>
  (spec_l6DrawSchema.f r1).bind fun r2 =>
  (spec_l9Draw.f (l1Cur.mk r1.b r2.1.i r2.1.h) r2.2).bind fun r3 =>
  (spec_l6DrawRows.f (l1Cur.mk r1.b r3.1.i r3.1.h) 2).bind fun r4 =>
  joinK (fun (y5 : Int) (y6 : Int) (y7 : List Int) =>
  (spec_l1Once.f (l1Cur.mk r1.b y5 y6) 30).bind fun r40 =>
  bif r40.2 then (
  spec_DrawDocOf.l1 r1 r3 y7 (((90 : Int) - (lenI r4.2)).toNat + 1) r40.1.i r40.1.h r4.2)
  else (
  some (r3.2, r4.2, y7))) (fun K8 =>
  spec_DrawDocOf.l0 r1 r4 K8 1000 r4.1.i r4.1.h [] 0)

def impl_firstOf.f (a0 : Query) (a1 : Int) : Option Int :=
  bif (decide (a0.First = 0)) then (
  some a1)
  else (
  (some (maxO a0.First 0)).bind fun m2 =>
  (some (minO m2 a1)).bind fun m3 =>
  some m3)

def impl_rowDocs.l0 (a0 : Query) (a2 : List Int) (l2 : List Row) : Nat → (List Json) → Int → Option ((List Json))
  | 0, _, _ => none
  | k + 1, z17, z18 =>
    bif (decide (z18 < (lenI l2))) then (
    (getO l2 z18).bind fun x20 =>
    joinK (fun (y21 : Int) =>
    (impl_RowDoc.f a0 x20 y21).bind fun r25 =>
    (some [r25]).bind fun l26 =>
    (appO 80 z17 l26).bind fun l27 =>
    impl_rowDocs.l0 a0 a2 l2 k l27 (w64 (z18 + 1))) (fun K22 =>
    bif (decide (z18 < (lenI a2))) then (
    (getO a2 z18).bind fun x24 =>
    K22 x24)
    else (
    K22 0)))
    else (
    some z17)
def impl_rowDocs.f (a0 : Query) (a1 : List Row) (a2 : List Int) : Option ((List Json)) :=
  (impl_firstOf.f a0 (lenI a1)).bind fun r1 =>
  (cutO a1 0 r1).bind fun l2 =>
  impl_rowDocs.l0 a0 a2 l2 (((lenI l2) - 0).toNat + 1) [] 0

def impl_DocOf_1.f (a0 : Json) : Option Bool :=
  some (decide (a0.Kind = 0))

def slices_IndexFunc_impl_Json__impl_DocOf_1.l0 (a0 : List Json) : Nat → Int → Option Int
  | 0, _ => none
  | k + 1, z4 =>
    bif (decide (z4 < (lenI a0))) then (
    (getO a0 z4).bind fun x6 =>
    (impl_DocOf_1.f x6).bind fun r7 =>
    bif r7 then (
    some z4)
    else (
    slices_IndexFunc_impl_Json__impl_DocOf_1.l0 a0 k (w64 (z4 + 1))))
    else (
    some (-1))
def slices_IndexFunc_impl_Json__impl_DocOf_1.f (a0 : List Json) : Option Int :=
  slices_IndexFunc_impl_Json__impl_DocOf_1.l0 a0 (((lenI a0) - 0).toNat + 1) 0

def slices_ContainsFunc_impl_Json__impl_DocOf_1.f (a0 : List Json) : Option Bool :=
  (slices_IndexFunc_impl_Json__impl_DocOf_1.f a0).bind fun r1 =>
  some (decide (0 ≤ r1))

def impl_DocOf.f (a0 : Query) (a1 : List Row) (a2 : List Int) : Option Json :=
  (impl_rowDocs.f a0 a1 a2).bind fun r1 =>
  (slices_ContainsFunc_impl_Json__impl_DocOf_1.f r1).bind fun r2 =>
  bif r2 then (
  some (Json.mk 0 0 ByteArray.empty [] []))
  else (
  (some [(ByteArray.mk #[99, 111, 117, 110, 116]), (ByteArray.mk #[114, 111, 119, 115])]).bind fun l4 =>
  (some [(Json.mk 2 (lenI a1) ByteArray.empty [] []), (Json.mk 4 0 ByteArray.empty r1 [])]).bind fun l5 =>
  (impl_orNull.f (Json.mk 5 0 ByteArray.empty l5 l4)).bind fun r6 =>
  some r6)

def laws_sameTexts.l0 (a0 : List ByteArray) (a1 : List ByteArray) : Nat → Int → Option Bool
  | 0, _ => none
  | k + 1, z5 =>
    bif (decide (z5 < (lenI a0))) then (
    (getO a0 z5).bind fun x7 =>
    (getO a1 z5).bind fun x8 =>
    bif (Ls.sc .neq x7 x8) then (
    some false)
    else (
    laws_sameTexts.l0 a0 a1 k (w64 (z5 + 1))))
    else (
    some true)
def laws_sameTexts.f (a0 : List ByteArray) (a1 : List ByteArray) : Option Bool :=
  bif (decide ((lenI a0) ≠ (lenI a1))) then (
  some false)
  else (
  laws_sameTexts.l0 a0 a1 (((lenI a0) - 0).toNat + 1) 0)

def laws_sameJson.l0 (a0 : Json) (a1 : Json) (self : Json → Json → Option Bool) : Nat → Int → Option Bool
  | 0, _ => none
  | k + 1, z45 =>
    bif (decide (z45 < (lenI a0.List_))) then (
    (getO a0.List_ z45).bind fun x47 =>
    (getO a1.List_ z45).bind fun x48 =>
    (self x47 x48).bind fun r49 =>
    bif (bo3 r49 false true) then (
    some false)
    else (
    laws_sameJson.l0 a0 a1 self k (w64 (z45 + 1))))
    else (
    some true)
def laws_sameJson.b (self : Json → Json → Option Bool) (a0 : Json) (a1 : Json) : Option Bool :=
  (gd (bo3 (bo3 (bo3 (bo3 (decide (a0.Kind ≠ a1.Kind)) true (decide (a0.N ≠ a1.N))) true (Ls.sc .neq a0.S a1.S)) true (decide ((lenI a0.List_) ≠ (lenI a1.List_)))) false true) (laws_sameTexts.f a0.Names a1.Names)).bind fun r1 =>
  bif (bo3 (bo3 (bo3 (bo3 (decide (a0.Kind ≠ a1.Kind)) true (decide (a0.N ≠ a1.N))) true (Ls.sc .neq a0.S a1.S)) true (decide ((lenI a0.List_) ≠ (lenI a1.List_)))) true (bo3 r1 false true)) then (
  some false)
  else (
  laws_sameJson.l0 a0 a1 self (((lenI a0.List_) - 0).toNat + 1) 0)
def laws_sameJson.g : Nat → Json → Json → Option Bool
  | 0 => fun _ _ => none
  | k + 1 => laws_sameJson.b (laws_sameJson.g k)
def laws_sameJson.f (a0 : Json) (a1 : Json) : Option Bool := laws_sameJson.g 20 a0 a1

def spec_l1Min.f (a0 : Int) (a1 : Int) : Option Int :=
  bif (decide (a0 < a1)) then (
  some a0)
  else (
  some a1)

def spec_l11First.f (a0 : Query) (a1 : Int) : Option Int :=
  bif (decide (a0.First = 0)) then (
  some a1)
  else (
  (spec_l1Min.f a1 a0.First).bind fun r2 =>
  (spec_l1Max.f r2 0).bind fun r3 =>
  some r3)

def spec_l11Num.f (a0 : Int) : Option Json :=
  some (Json.mk 2 a0 ByteArray.empty [] [])

def spec_l1Put.l0 (a0 : Json) (a1 : ByteArray) (a2 : Json) (K4 : (List Json) → (List ByteArray) → Bool → Option Json) : Nat → (List Json) → (List ByteArray) → Bool → Int → Option Json
  | 0, _, _, _, _ => none
  | k + 1, z45, z46, z47, z48 =>
    bif (decide (z48 < (lenI a0.Names))) then (
    joinK (fun (y50 : List Json) (y51 : List ByteArray) (y52 : Bool) =>
    (getO a0.Names z48).bind fun x69 =>
    bif (Ls.sc .neq x69 a1) then (
    (some [x69]).bind fun l71 =>
    (appO 16 y51 l71).bind fun l72 =>
    (getO a0.List_ z48).bind fun x73 =>
    (some [x73]).bind fun l74 =>
    (appO 80 y50 l74).bind fun l75 =>
    spec_l1Put.l0 a0 a1 a2 K4 k l75 l72 y52 (w64 (z48 + 1)))
    else (
    spec_l1Put.l0 a0 a1 a2 K4 k y50 y51 y52 (w64 (z48 + 1)))) (fun K53 =>
    (gd (bo3 z47 false true) (getO a0.Names z48)).bind fun x54 =>
    bif (bo3 (bo3 z47 false true) (Ls.sc .geq x54 a1) false) then (
    (some [a1]).bind fun l65 =>
    (appO 16 z46 l65).bind fun l66 =>
    (some [a2]).bind fun l67 =>
    (appO 80 z45 l67).bind fun l68 =>
    K53 l68 l66 true)
    else (
    K53 z45 z46 z47)))
    else (
    K4 z45 z46 z47)
def spec_l1Put.f (a0 : Json) (a1 : ByteArray) (a2 : Json) : Option Json :=
  joinK (fun (y1 : List Json) (y2 : List ByteArray) (y3 : Bool) =>
  bif (bo3 y3 false true) then (
  (some [a1]).bind fun l77 =>
  (appO 16 y2 l77).bind fun l78 =>
  (some [a2]).bind fun l79 =>
  (appO 80 y1 l79).bind fun l80 =>
  some (Json.mk 5 0 ByteArray.empty l80 l78))
  else (
  some (Json.mk 5 0 ByteArray.empty y1 y2))) (fun K4 =>
  spec_l1Put.l0 a0 a1 a2 K4 (((lenI a0.Names) - 0).toNat + 1) [] [] false 0)

def spec_l2Digits.l0 (K4 : Bool → ByteArray → Option ByteArray) : Nat → Int → Bool → ByteArray → Option ByteArray
  | 0, _, _, _ => none
  | k + 1, z8, z9, z10 =>
    bif (decide (z8 ≠ 0)) then (
    bif (decide ((Int.tmod z8 10) < 0)) then (
    (some [(IntKind.wrap .u8 (w64 (48 + (w64 (0 - (Int.tmod z8 10))))))]).bind fun l13 =>
    (some (bsO l13)).bind fun s14 =>
    (smO s14 z10).bind fun u15 =>
    spec_l2Digits.l0 K4 k (w64 (Int.tdiv z8 10)) z9 (Ls.sa s14 z10))
    else (
    (some [(IntKind.wrap .u8 (w64 (48 + (Int.tmod z8 10))))]).bind fun l16 =>
    (some (bsO l16)).bind fun s17 =>
    (smO s17 z10).bind fun u18 =>
    spec_l2Digits.l0 K4 k (w64 (Int.tdiv z8 10)) z9 (Ls.sa s17 z10)))
    else (
    K4 z9 z10)
def spec_l2Digits.f (a0 : Int) : Option ByteArray :=
  bif (decide (a0 = 0)) then (
  some (ByteArray.mk #[48]))
  else (
  joinK (fun (y2 : Bool) (y3 : ByteArray) =>
  bif y2 then (
  (smO (ByteArray.mk #[45]) y3).bind fun u20 =>
  some (Ls.sa (ByteArray.mk #[45]) y3))
  else (
  some y3)) (fun K4 =>
  spec_l2Digits.l0 K4 30 a0 (decide (a0 < 0)) (ByteArray.mk #[])))

def spec_l1In.f (a0 : Int) (a1 : Int) (a2 : Int) : Option Bool :=
  some (bo3 (decide (a1 ≤ a0)) (decide (a0 ≤ a2)) false)

def spec_l9Cell.f (a0 : Row) (a1 : Int) : Option Int :=
  (spec_l1In.f a1 0 (w64 ((lenI a0.Cells) - 1))).bind fun r1 =>
  bif (bo3 r1 false true) then (
  some 0)
  else (
  (getO a0.Cells a1).bind fun x3 =>
  some x3)

def spec_l11Row.l0 (a0 : Query) (a1 : Row) (K6 : Int → Int → ByteArray → (List Json) → (List ByteArray) → Option Json) : Nat → Int → Int → ByteArray → (List Json) → (List ByteArray) → Int → Option Json
  | 0, _, _, _, _, _, _ => none
  | k + 1, z47, z48, z49, z50, z51, z52 =>
    bif (decide (z52 < (lenI a0.Show))) then (
    (getO a0.Show z52).bind fun x54 =>
    (spec_l2Digits.f x54).bind fun r55 =>
    (smO (ByteArray.mk #[99]) r55).bind fun u56 =>
    (spec_l9Cell.f a1 x54).bind fun r57 =>
    (spec_l11Num.f r57).bind fun r58 =>
    (spec_l1Put.f (Json.mk z47 z48 z49 z50 z51) (Ls.sa (ByteArray.mk #[99]) r55) r58).bind fun r59 =>
    spec_l11Row.l0 a0 a1 K6 k r59.Kind r59.N r59.S r59.List_ r59.Names (w64 (z52 + 1)))
    else (
    K6 z47 z48 z49 z50 z51)
def spec_l11Row.f (a0 : Query) (a1 : Row) (a2 : Int) : Option Json :=
  joinK (fun (y1 : Int) (y2 : Int) (y3 : ByteArray) (y4 : List Json) (y5 : List ByteArray) =>
  (spec_l11Num.f a1.Id).bind fun r60 =>
  (spec_l1Put.f (Json.mk y1 y2 y3 y4 y5) (ByteArray.mk #[105, 100]) r60).bind fun r61 =>
  bif a0.Kids then (
  (spec_l11Num.f a2).bind fun r63 =>
  (spec_l1Put.f r61 (ByteArray.mk #[107, 105, 100, 115]) r63).bind fun r64 =>
  some r64)
  else (
  some r61)) (fun K6 =>
  spec_l11Row.l0 a0 a1 K6 (((lenI a0.Show) - 0).toNat + 1) 5 0 ByteArray.empty [] [] 0)

def spec_l1Text.l0 (a0 : ByteArray) : Nat → Int → Option Bool
  | 0, _ => none
  | k + 1, z3 =>
    bif (decide (z3 < (Ls.sl a0))) then (
    (inS a0 z3).bind fun u5 =>
    (gd (bo3 (decide ((Ls.sx a0 z3) < 32)) false true) (inS a0 z3)).bind fun u6 =>
    bif (bo3 (decide ((Ls.sx a0 z3) < 32)) true (decide (126 < (Ls.sx a0 z3)))) then (
    some false)
    else (
    spec_l1Text.l0 a0 k (w64 (z3 + 1))))
    else (
    some (decide ((Ls.sl a0) ≤ 60)))
def spec_l1Text.f (a0 : ByteArray) : Option Bool :=
  spec_l1Text.l0 a0 (((Ls.sl a0) - 0).toNat + 1) 0

def spec_l1Names.l0 (a0 : Json) : Nat → Int → Option Bool
  | 0, _ => none
  | k + 1, z8 =>
    bif (decide (z8 < (lenI a0.Names))) then (
    (getO a0.Names z8).bind fun x10 =>
    (spec_l1Text.f x10).bind fun r11 =>
    (gd (bo3 (bo3 (bo3 r11 false true) false true) (decide (0 < z8)) false) (getO a0.Names (w64 (z8 - 1)))).bind fun x12 =>
    bif (bo3 (bo3 r11 false true) true (bo3 (decide (0 < z8)) (Ls.sc .geq x12 x10) false)) then (
    some false)
    else (
    spec_l1Names.l0 a0 k (w64 (z8 + 1))))
    else (
    some (decide ((lenI a0.Names) = (lenI a0.List_))))
def spec_l1Names.f (a0 : Json) : Option Bool :=
  bif (decide (a0.Kind ≠ 5)) then (
  some (decide ((lenI a0.Names) = 0)))
  else (
  spec_l1Names.l0 a0 (((lenI a0.Names) - 0).toNat + 1) 0)

def spec_l1Great.l0 (a0 : Json) (a1 : Int) (self : Json → Int → Option Int) (K3 : Int → Option Int) : Nat → Int → Int → Option Int
  | 0, _, _ => none
  | k + 1, z28, z29 =>
    bif (bo3 (decide (z29 < (lenI a0.List_))) (decide (z28 ≤ 400)) false) then (
    (getO a0.List_ z29).bind fun x35 =>
    (self x35 (w64 (a1 - 1))).bind fun r36 =>
    spec_l1Great.l0 a0 a1 self K3 k (w64 (z28 + r36)) (w64 (z29 + 1)))
    else (
    K3 z28)
def spec_l1Great.b (self : Json → Int → Option Int) (a0 : Json) (a1 : Int) : Option Int :=
  bif (decide (a1 = 0)) then (
  some 401)
  else (
  joinK (fun (y2 : Int) =>
  (gd (bo3 (bo3 (bo3 (bo3 (decide (a0.Kind ≠ 3)) (Ls.sc .neq a0.S (ByteArray.mk #[])) false) true (bo3 (bo3 (decide (a0.Kind = 3)) true (decide (4 ≤ a0.Kind))) (decide (a0.N ≠ 0)) false)) true (bo3 (decide (a0.Kind < 4)) (decide (0 < (lenI a0.List_))) false)) false true) (spec_l1Names.f a0)).bind fun r37 =>
  bif (bo3 (bo3 (bo3 (bo3 (decide (a0.Kind ≠ 3)) (Ls.sc .neq a0.S (ByteArray.mk #[])) false) true (bo3 (bo3 (decide (a0.Kind = 3)) true (decide (4 ≤ a0.Kind))) (decide (a0.N ≠ 0)) false)) true (bo3 (decide (a0.Kind < 4)) (decide (0 < (lenI a0.List_))) false)) true (bo3 r37 false true)) then (
  some 401)
  else (
  some y2)) (fun K3 =>
  bif (decide (a0.Kind = 0)) then (
  bif (decide (a0.N ≠ 0)) then (
  some 401)
  else (
  K3 1))
  else (
  bif (decide (a0.Kind = 1)) then (
  (spec_l1In.f a0.N 0 1).bind fun r7 =>
  bif (bo3 r7 false true) then (
  some 401)
  else (
  K3 1))
  else (
  bif (decide (a0.Kind = 2)) then (
  (spec_l1In.f a0.N (-1000000000) 1000000000).bind fun r10 =>
  bif (bo3 r10 false true) then (
  some 401)
  else (
  K3 1))
  else (
  bif (decide (a0.Kind = 3)) then (
  (spec_l1Text.f a0.S).bind fun r13 =>
  bif (bo3 r13 false true) then (
  some 401)
  else (
  K3 1))
  else (
  joinK (fun (y15 : Bool) =>
  bif y15 then (
  spec_l1Great.l0 a0 a1 self K3 (((lenI a0.List_) - 0).toNat + 1) 1 0)
  else (
  some 401)) (fun K16 =>
  bif (decide (a0.Kind = 4)) then (
  K16 (decide (a0.Kind = 4)))
  else (
  K16 (decide (a0.Kind = 5))))))))))
def spec_l1Great.g : Nat → Json → Int → Option Int
  | 0 => fun _ _ => none
  | k + 1 => spec_l1Great.b (spec_l1Great.g k)
def spec_l1Great.f (a0 : Json) (a1 : Int) : Option Int := spec_l1Great.g 20 a0 a1

def spec_JsonOk.f (a0 : Json) : Option Bool :=
  (spec_l1Great.f a0 6).bind fun r1 =>
  some (decide (r1 ≤ 400))

def spec_l11Right__w.f (a0 : Json) : Option Json :=
  (spec_JsonOk.f a0).bind fun r1 =>
  bif (bo3 r1 false true) then (
  some (Json.mk 0 0 ByteArray.empty [] []))
  else (
  some a0)

def spec_DocOf.l0 (a0 : Query) (a1 : List Row) (a2 : List Int) (K2 : (List Json) → Option Json) : Nat → (List Json) → Int → Option Json
  | 0, _, _ => none
  | k + 1, z40, z41 =>
    (spec_l11First.f a0 (lenI a1)).bind fun r42 =>
    bif (decide (z41 < r42)) then (
    joinK (fun (y44 : Int) =>
    (getO a1 z41).bind fun x48 =>
    (spec_l11Row.f a0 x48 y44).bind fun r49 =>
    (some [r49]).bind fun l50 =>
    (appO 80 z40 l50).bind fun l51 =>
    spec_DocOf.l0 a0 a1 a2 K2 k l51 (w64 (z41 + 1))) (fun K45 =>
    bif (decide (z41 < (lenI a2))) then (
    (getO a2 z41).bind fun x47 =>
    K45 x47)
    else (
    K45 0)))
    else (
    K2 z40)
def spec_DocOf.f (a0 : Query) (a1 : List Row) (a2 : List Int) : Option Json :=
  joinK (fun (y1 : List Json) =>
  (some [(ByteArray.mk #[99, 111, 117, 110, 116]), (ByteArray.mk #[114, 111, 119, 115])]).bind fun l52 =>
  (spec_l11Num.f (lenI a1)).bind fun r53 =>
  (some [r53, (Json.mk 4 0 ByteArray.empty y1 [])]).bind fun l54 =>
  (spec_l11Right__w.f (Json.mk 5 0 ByteArray.empty l54 l52)).bind fun r55 =>
  some r55) (fun K2 =>
  spec_DocOf.l0 a0 a1 a2 K2 ((lenI a1).toNat + 1) [] 0)

def laws_FnDoc.l0 (r3 : Query × (List Row) × (List Int)) (r9 : Json × Bool) : Nat → Int → Option Bool
  | 0, _ => none
  | k + 1, z28 =>
    bif (decide (z28 < (lenI r9.1.List_))) then (
    joinK (fun (y30 : Int) =>
    (getO r9.1.List_ z28).bind fun x34 =>
    (getO r3.2.1 z28).bind fun x35 =>
    (impl_RowDoc.f r3.1 x35 y30).bind fun r36 =>
    (impl_JsonSame.f x34 r36).bind fun r37 =>
    bif (bo3 r37 false true) then (
    some false)
    else (
    laws_FnDoc.l0 r3 r9 k (w64 (z28 + 1)))) (fun K31 =>
    bif (decide (z28 < (lenI r3.2.2))) then (
    (getO r3.2.2 z28).bind fun x33 =>
    K31 x33)
    else (
    K31 0)))
    else (
    some (bo3 r9.2 (decide ((lenI r9.1.List_) ≤ (lenI r3.2.1))) false))
def laws_FnDoc.f (a0 : List Int) : Option Bool :=
  (laws_big.f a0).bind fun r1 =>
  bif r1 then (
  some true)
  else (
  (spec_DrawDocOf.f a0).bind fun r3 =>
  (impl_DocOf.f r3.1 r3.2.1 r3.2.2).bind fun r4 =>
  (spec_DocOf.f r3.1 r3.2.1 r3.2.2).bind fun r5 =>
  (laws_sameJson.f r4 r5).bind fun r6 =>
  bif (bo3 r6 false true) then (
  some false)
  else (
  bif (decide (r4.Kind = 0)) then (
  some true)
  else (
  (impl_Field.f r4 (ByteArray.mk #[114, 111, 119, 115])).bind fun r9 =>
  laws_FnDoc.l0 r3 r9 (((lenI r9.1.List_) - 0).toNat + 1) 0)))

end Go.Proofs.YtnhnehckapldeaaDoor.L
