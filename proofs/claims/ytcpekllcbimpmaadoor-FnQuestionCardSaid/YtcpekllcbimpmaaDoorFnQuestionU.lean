/- The pure functions of the program. -/
import Derived.Test.YtcpekllcbimpmaaDoorSl50
namespace Go.Proofs.YtcpekllcbimpmaaDoor.L
open Go
set_option linter.unusedVariables false
structure Schema where
  Cols : List Int
  deriving Inhabited, DecidableEq
structure Cond where
  Col : Int
  Op : Int
  V : Int
  deriving Inhabited, DecidableEq
structure Query where
  Table : Int
  Where : List Cond
  Order : Int
  Down : Bool
  First : Int
  Show : List Int
  Kids : Bool
  KidTable : Int
  KidCol : Int
  deriving Inhabited, DecidableEq
structure l2Cur where
  s : ByteArray
  at_ : Int
  ok : Bool
  left : Int
  deriving Inhabited, DecidableEq
structure asker where
  words : List ByteArray
  bad : Bool
  deriving Inhabited, DecidableEq
structure l1Cur where
  b : List Int
  i : Int
  h : Int
  deriving Inhabited, DecidableEq

def impl_within.f (a0 : Int) (a1 : Int) (a2 : Int) : Option Bool :=
  some (bo3 (decide (a1 ≤ a0)) (decide (a0 ≤ a2)) false)

def impl_SchemaOk.l0 (a0 : Schema) (K2 : Unit → Option Bool) : Nat → Int → Option Bool
  | 0, _ => none
  | k + 1, z7 =>
    bif (decide (z7 < (lenI a0.Cols))) then (
    (getO a0.Cols z7).bind fun x9 =>
    (impl_within.f x9 1 4).bind fun r10 =>
    bif (bo3 r10 false true) then (
    some false)
    else (
    impl_SchemaOk.l0 a0 K2 k (w64 (z7 + 1))))
    else (
    K2 ())
def impl_SchemaOk.f (a0 : Schema) : Option Bool :=
  joinK (fun (y1 : Unit) =>
  (impl_within.f (lenI a0.Cols) 1 3).bind fun r12 =>
  some r12) (fun K2 =>
  impl_SchemaOk.l0 a0 K2 (((lenI a0.Cols) - 0).toNat + 1) 0)

def impl_hasTable.f (a0 : Schema) (a1 : Int) : Option Bool :=
  (impl_within.f a1 0 (w64 ((lenI a0.Cols) - 1))).bind fun r1 =>
  some r1

def impl_isNum.f (a0 : Int) : Option Bool :=
  (impl_within.f a0 (-1000000000) 1000000000).bind fun r1 =>
  some r1

def impl_kidsFit.f (a0 : Schema) (a1 : Query) : Option Bool :=
  bif (bo3 a1.Kids false true) then (
  some (bo3 (decide (a1.KidTable = 0)) (decide (a1.KidCol = 0)) false))
  else (
  (impl_hasTable.f a0 a1.KidTable).bind fun r7 =>
  (gd r7 (getO a0.Cols a1.KidTable)).bind fun x8 =>
  (gd r7 (impl_within.f a1.KidCol 0 (w64 (x8 - 1)))).bind fun r9 =>
  some (bo3 r7 r9 false))

def impl_QueryOk.l0 (a1 : Query) (x11 : Int) (K13 : Unit → Option Bool) : Nat → Int → Option Bool
  | 0, _ => none
  | k + 1, z28 =>
    bif (decide (z28 < (lenI a1.Where))) then (
    (getO a1.Where z28).bind fun x30 =>
    (impl_within.f x30.Col 0 (w64 (x11 - 1))).bind fun r31 =>
    (gd (bo3 (bo3 r31 false true) false true) (impl_within.f x30.Op 1 4)).bind fun r32 =>
    (gd (bo3 (bo3 (bo3 r31 false true) true (bo3 r32 false true)) false true) (impl_isNum.f x30.V)).bind fun r33 =>
    bif (bo3 (bo3 (bo3 r31 false true) true (bo3 r32 false true)) true (bo3 r33 false true)) then (
    some false)
    else (
    impl_QueryOk.l0 a1 x11 K13 k (w64 (z28 + 1))))
    else (
    K13 ())
def impl_QueryOk.l1 (a1 : Query) (x11 : Int) (K48 : Unit → Option Bool) : Nat → Int → Option Bool
  | 0, _ => none
  | k + 1, z63 =>
    bif (decide (z63 < (lenI a1.Show))) then (
    (getO a1.Show z63).bind fun x65 =>
    (impl_within.f x65 0 (w64 (x11 - 1))).bind fun r66 =>
    (gd (bo3 (bo3 (bo3 r66 false true) false true) (decide (0 < z63)) false) (getO a1.Show (w64 (z63 - 1)))).bind fun x67 =>
    bif (bo3 (bo3 r66 false true) true (bo3 (decide (0 < z63)) (decide (x65 ≤ x67)) false)) then (
    some false)
    else (
    impl_QueryOk.l1 a1 x11 K48 k (w64 (z63 + 1))))
    else (
    K48 ())
def impl_QueryOk.f (a0 : Schema) (a1 : Query) : Option Bool :=
  (impl_SchemaOk.f a0).bind fun r1 =>
  (gd (bo3 (bo3 r1 false true) false true) (impl_hasTable.f a0 a1.Table)).bind fun r2 =>
  bif (bo3 (bo3 r1 false true) true (bo3 r2 false true)) then (
  some false)
  else (
  (getO a0.Cols a1.Table).bind fun x11 =>
  joinK (fun (y12 : Unit) =>
  joinK (fun (y47 : Unit) =>
  (impl_within.f a1.Order 0 x11).bind fun r85 =>
  (gd (bo3 (decide ((lenI a1.Where) ≤ 3)) (bo3 r85 (bo3 (bo3 a1.Down false true) true (decide (0 < a1.Order))) false) false) (impl_within.f a1.First 0 24)).bind fun r98 =>
  (gd (bo3 (bo3 (decide ((lenI a1.Where) ≤ 3)) (bo3 r85 (bo3 (bo3 a1.Down false true) true (decide (0 < a1.Order))) false) false) r98 false) (impl_kidsFit.f a0 a1)).bind fun r99 =>
  some (bo3 (bo3 (bo3 (decide ((lenI a1.Where) ≤ 3)) (bo3 r85 (bo3 (bo3 a1.Down false true) true (decide (0 < a1.Order))) false) false) r98 false) r99 false)) (fun K48 =>
  impl_QueryOk.l1 a1 x11 K48 (((lenI a1.Show) - 0).toNat + 1) 0)) (fun K13 =>
  impl_QueryOk.l0 a1 x11 K13 (((lenI a1.Where) - 0).toNat + 1) 0))

def strconv_Itoa.f (a0 : Int) : Option ByteArray := itoaO a0

def impl_digits.f (a0 : Int) : Option ByteArray :=
  (strconv_Itoa.f a0).bind fun r1 =>
  some r1

def strings_Join.f (a0 : List ByteArray) (a1 : ByteArray) : Option ByteArray := joinO a0 a1

def impl_QueryText.l0 (a1 : Query) (K6 : (List ByteArray) → Option ByteArray) : Nat → (List ByteArray) → Int → Option ByteArray
  | 0, _, _ => none
  | k + 1, z20, z21 =>
    bif (decide (z21 < (lenI a1.Where))) then (
    (getO a1.Where z21).bind fun x23 =>
    (impl_digits.f x23.Col).bind fun r24 =>
    (cutS (ByteArray.mk #[61, 60, 62, 33]) (w64 (x23.Op - 1)) x23.Op).bind fun u25 =>
    (impl_digits.f x23.V).bind fun r26 =>
    (some [(ByteArray.mk #[119, 104, 101, 114, 101]), r24, (Ls.ss (ByteArray.mk #[61, 60, 62, 33]) (w64 (x23.Op - 1)) x23.Op), r26]).bind fun l27 =>
    (appO 16 z20 l27).bind fun l28 =>
    impl_QueryText.l0 a1 K6 k l28 (w64 (z21 + 1)))
    else (
    K6 z20)
def impl_QueryText.l1 (a1 : Query) (K45 : (List ByteArray) → Option ByteArray) : Nat → (List ByteArray) → Int → Option ByteArray
  | 0, _, _ => none
  | k + 1, z62, z63 =>
    bif (decide (z63 < (lenI a1.Show))) then (
    (getO a1.Show z63).bind fun x65 =>
    (impl_digits.f x65).bind fun r66 =>
    (some [r66]).bind fun l67 =>
    (appO 16 z62 l67).bind fun l68 =>
    impl_QueryText.l1 a1 K45 k l68 (w64 (z63 + 1)))
    else (
    K45 z62)
def impl_QueryText.f (a0 : Schema) (a1 : Query) : Option ByteArray :=
  (impl_QueryOk.f a0 a1).bind fun r1 =>
  bif (bo3 r1 false true) then (
  some (ByteArray.mk #[]))
  else (
  (impl_digits.f a1.Table).bind fun r3 =>
  (some [(ByteArray.mk #[102, 114, 111, 109]), r3]).bind fun l4 =>
  joinK (fun (y5 : List ByteArray) =>
  joinK (fun (y29 : List ByteArray) =>
  joinK (fun (y38 : List ByteArray) =>
  joinK (fun (y44 : List ByteArray) =>
  joinK (fun (y69 : List ByteArray) =>
  (strings_Join.f y69 (ByteArray.mk #[32])).bind fun r76 =>
  some r76) (fun K70 =>
  bif a1.Kids then (
  (impl_digits.f a1.KidTable).bind fun r72 =>
  (impl_digits.f a1.KidCol).bind fun r73 =>
  (some [(ByteArray.mk #[107, 105, 100, 115]), r72, r73]).bind fun l74 =>
  (appO 16 y44 l74).bind fun l75 =>
  K70 l75)
  else (
  K70 y44))) (fun K45 =>
  bif (decide (0 < (lenI a1.Show))) then (
  (some [(ByteArray.mk #[115, 104, 111, 119])]).bind fun l47 =>
  (appO 16 y38 l47).bind fun l48 =>
  impl_QueryText.l1 a1 K45 (((lenI a1.Show) - 0).toNat + 1) l48 0)
  else (
  K45 y38))) (fun K39 =>
  bif (decide (a1.First ≠ 0)) then (
  (impl_digits.f a1.First).bind fun r41 =>
  (some [(ByteArray.mk #[102, 105, 114, 115, 116]), r41]).bind fun l42 =>
  (appO 16 y29 l42).bind fun l43 =>
  K39 l43)
  else (
  K39 y29))) (fun K30 =>
  bif (decide (a1.Order ≠ 0)) then (
  (impl_digits.f (w64 (a1.Order - 1))).bind fun r32 =>
  (some [(ByteArray.mk #[111, 114, 100, 101, 114]), r32]).bind fun l33 =>
  (appO 16 y5 l33).bind fun l34 =>
  bif a1.Down then (
  (some [(ByteArray.mk #[100, 111, 119, 110])]).bind fun l36 =>
  (appO 16 l34 l36).bind fun l37 =>
  K30 l37)
  else (
  K30 l34))
  else (
  K30 y5))) (fun K6 =>
  impl_QueryText.l0 a1 K6 (((lenI a1.Where) - 0).toNat + 1) l4 0))

def spec_l10Signs.f  : Option ((List ByteArray)) :=
  (some [(ByteArray.mk #[]), (ByteArray.mk #[61]), (ByteArray.mk #[60]), (ByteArray.mk #[62]), (ByteArray.mk #[33])]).bind fun l1 =>
  some l1

def spec_l10Words.l0 (a0 : ByteArray) : Nat → (List ByteArray) → Int → Int → Option ((List ByteArray))
  | 0, _, _, _ => none
  | k + 1, z5, z6, z7 =>
    bif (decide (z7 ≤ (Ls.sl a0))) then (
    (gd (bo3 (decide (z7 = (Ls.sl a0))) false true) (inS a0 z7)).bind fun u9 =>
    bif (bo3 (decide (z7 = (Ls.sl a0))) true (decide ((Ls.sx a0 z7) = 32))) then (
    (cutS a0 z6 z7).bind fun u17 =>
    (some [(Ls.ss a0 z6 z7)]).bind fun l18 =>
    (appO 16 z5 l18).bind fun l19 =>
    spec_l10Words.l0 a0 k l19 (w64 (z7 + 1)) (w64 (z7 + 1)))
    else (
    spec_l10Words.l0 a0 k z5 z6 (w64 (z7 + 1))))
    else (
    some z5)
def spec_l10Words.f (a0 : ByteArray) : Option ((List ByteArray)) :=
  spec_l10Words.l0 a0 (((Ls.sl a0) - 0).toNat + 2) [] 0 0

def spec_l2Digits.l0 (K4 : Bool → ByteArray → Option ByteArray) : Nat → Int → Bool → ByteArray → Option ByteArray
  | 0, _, _, _ => none
  | k + 1, z8, z9, z10 =>
    bif (decide (z8 ≠ 0)) then (
    bif (decide ((Int.tmod z8 10) < 0)) then (
    (some [(IntKind.wrap .u8 (w64 (48 + (w64 (0 - (Int.tmod z8 10))))))]).bind fun l13 =>
    (some (bsO l13)).bind fun s14 =>
    (smO s14 z10).bind fun u15 =>
    spec_l2Digits.l0 K4 k (w64 (Int.tdiv z8 10)) z9 (Ls.sa s14 z10))
    else (
    (some [(IntKind.wrap .u8 (w64 (48 + (Int.tmod z8 10))))]).bind fun l16 =>
    (some (bsO l16)).bind fun s17 =>
    (smO s17 z10).bind fun u18 =>
    spec_l2Digits.l0 K4 k (w64 (Int.tdiv z8 10)) z9 (Ls.sa s17 z10)))
    else (
    K4 z9 z10)
def spec_l2Digits.f (a0 : Int) : Option ByteArray :=
  bif (decide (a0 = 0)) then (
  some (ByteArray.mk #[48]))
  else (
  joinK (fun (y2 : Bool) (y3 : ByteArray) =>
  bif y2 then (
  (smO (ByteArray.mk #[45]) y3).bind fun u20 =>
  some (Ls.sa (ByteArray.mk #[45]) y3))
  else (
  some y3)) (fun K4 =>
  spec_l2Digits.l0 K4 30 a0 (decide (a0 < 0)) (ByteArray.mk #[])))

def spec_l2Peek.f (a0 : l2Cur) : Option Int :=
  bif (decide ((Ls.sl a0.s) ≤ a0.at_)) then (
  some 0)
  else (
  (inS a0.s a0.at_).bind fun u2 =>
  some (Ls.sx a0.s a0.at_))

def spec_l2Number.l0 (a0 : l2Cur) (y2 : Int) (K8 : Int → Int → Option (l2Cur × Int)) : Nat → Int → Int → Option (l2Cur × Int)
  | 0, _, _ => none
  | k + 1, z16, z17 =>
    (spec_l2Peek.f (l2Cur.mk a0.s z16 a0.ok a0.left)).bind fun r18 =>
    (gd (decide (48 ≤ r18)) (spec_l2Peek.f (l2Cur.mk a0.s z16 a0.ok a0.left))).bind fun r19 =>
    bif (bo3 (bo3 (decide (48 ≤ r18)) (decide (r19 ≤ 57)) false) (decide ((w64 (z16 - y2)) < 11)) false) then (
    (spec_l2Peek.f (l2Cur.mk a0.s z16 a0.ok a0.left)).bind fun r35 =>
    spec_l2Number.l0 a0 y2 K8 k (w64 (z16 + 1)) (w64 ((w64 ((w64 (10 * z17)) + (w64 r35))) - 48)))
    else (
    K8 z16 z17)
def spec_l2Number.f (a0 : l2Cur) : Option (l2Cur × Int) :=
  (spec_l2Peek.f a0).bind fun r1 =>
  joinK (fun (y2 : Int) (y3 : Bool) =>
  joinK (fun (y6 : Int) (y7 : Int) =>
  joinK (fun (y36 : Bool) =>
  bif y3 then (
  some ((l2Cur.mk a0.s y6 y36 a0.left), (w64 (0 - y7))))
  else (
  some ((l2Cur.mk a0.s y6 y36 a0.left), y7))) (fun K37 =>
  bif (decide (y6 = y2)) then (
  K37 false)
  else (
  K37 a0.ok))) (fun K8 =>
  spec_l2Number.l0 a0 y2 K8 20 y2 0)) (fun K4 =>
  bif (decide (r1 = 45)) then (
  K4 (w64 (a0.at_ + 1)) (decide (r1 = 45)))
  else (
  K4 a0.at_ (decide (r1 = 45))))

def spec_l10Num.f (a0 : ByteArray) : Option (Int × Bool) :=
  (spec_l2Number.f (l2Cur.mk a0 0 true 0)).bind fun r1 =>
  (gd r1.1.ok (spec_l2Digits.f r1.2)).bind fun r2 =>
  some (r1.2, (bo3 r1.1.ok (Ls.sc .eql r2 a0) false))

def spec_l10Arg.f (a0 : List ByteArray) (a1 : Int) : Option Int :=
  bif (decide ((lenI a0) ≤ a1)) then (
  some 0)
  else (
  (getO a0 a1).bind fun x2 =>
  (spec_l10Num.f x2).bind fun r3 =>
  some r3.1)

def spec_l1In.f (a0 : Int) (a1 : Int) (a2 : Int) : Option Bool :=
  some (bo3 (decide (a1 ≤ a0)) (decide (a0 ≤ a2)) false)

def spec_SchemaOk.l0 (a0 : Schema) (K2 : Unit → Option Bool) : Nat → Int → Option Bool
  | 0, _ => none
  | k + 1, z5 =>
    bif (decide (z5 < (lenI a0.Cols))) then (
    (getO a0.Cols z5).bind fun x7 =>
    (spec_l1In.f x7 1 4).bind fun r8 =>
    bif (bo3 r8 false true) then (
    some false)
    else (
    spec_SchemaOk.l0 a0 K2 k (w64 (z5 + 1))))
    else (
    K2 ())
def spec_SchemaOk.f (a0 : Schema) : Option Bool :=
  joinK (fun (y1 : Unit) =>
  (spec_l1In.f (lenI a0.Cols) 1 3).bind fun r10 =>
  some r10) (fun K2 =>
  spec_SchemaOk.l0 a0 K2 (((lenI a0.Cols) - 0).toNat + 1) 0)

def spec_QueryOk.l0 (a1 : Query) (x20 : Int) (K22 : Unit → Option Bool) : Nat → Int → Option Bool
  | 0, _ => none
  | k + 1, z35 =>
    bif (decide (z35 < (lenI a1.Where))) then (
    (getO a1.Where z35).bind fun x37 =>
    (spec_l1In.f x37.Col 0 (w64 (x20 - 1))).bind fun r38 =>
    (gd (bo3 (bo3 r38 false true) false true) (spec_l1In.f x37.Op 1 4)).bind fun r39 =>
    (gd (bo3 (bo3 (bo3 r38 false true) true (bo3 r39 false true)) false true) (spec_l1In.f x37.V (-1000000000) 1000000000)).bind fun r40 =>
    bif (bo3 (bo3 (bo3 r38 false true) true (bo3 r39 false true)) true (bo3 r40 false true)) then (
    some false)
    else (
    spec_QueryOk.l0 a1 x20 K22 k (w64 (z35 + 1))))
    else (
    K22 ())
def spec_QueryOk.l1 (a1 : Query) (x20 : Int) (K55 : Unit → Option Bool) : Nat → Int → Option Bool
  | 0, _ => none
  | k + 1, z68 =>
    bif (decide (z68 < (lenI a1.Show))) then (
    (getO a1.Show z68).bind fun x70 =>
    (spec_l1In.f x70 0 (w64 (x20 - 1))).bind fun r71 =>
    (gd (bo3 (bo3 (bo3 r71 false true) false true) (decide (0 < z68)) false) (getO a1.Show (w64 (z68 - 1)))).bind fun x72 =>
    bif (bo3 (bo3 r71 false true) true (bo3 (decide (0 < z68)) (decide (x70 ≤ x72)) false)) then (
    some false)
    else (
    spec_QueryOk.l1 a1 x20 K55 k (w64 (z68 + 1))))
    else (
    K55 ())
def spec_QueryOk.f (a0 : Schema) (a1 : Query) : Option Bool :=
  (spec_SchemaOk.f a0).bind fun r1 =>
  (gd (bo3 (bo3 r1 false true) false true) (spec_l1In.f a1.Table 0 (w64 ((lenI a0.Cols) - 1)))).bind fun r2 =>
  bif (bo3 (bo3 (bo3 r1 false true) true (bo3 r2 false true)) true (decide (3 < (lenI a1.Where)))) then (
  some false)
  else (
  (getO a0.Cols a1.Table).bind fun x20 =>
  joinK (fun (y21 : Unit) =>
  joinK (fun (y54 : Unit) =>
  (spec_l1In.f a1.Order 0 x20).bind fun r94 =>
  (gd (bo3 (bo3 r94 false true) false true) (spec_l1In.f a1.First 0 24)).bind fun r95 =>
  bif (bo3 (bo3 (bo3 r94 false true) true (bo3 r95 false true)) true (bo3 (decide (a1.Order = 0)) a1.Down false)) then (
  some false)
  else (
  bif (bo3 a1.Kids false true) then (
  some (bo3 (decide (a1.KidTable = 0)) (decide (a1.KidCol = 0)) false))
  else (
  (spec_l1In.f a1.KidTable 0 (w64 ((lenI a0.Cols) - 1))).bind fun r120 =>
  (gd r120 (getO a0.Cols a1.KidTable)).bind fun x121 =>
  (gd r120 (spec_l1In.f a1.KidCol 0 (w64 (x121 - 1)))).bind fun r122 =>
  some (bo3 r120 r122 false)))) (fun K55 =>
  spec_QueryOk.l1 a1 x20 K55 (((lenI a1.Show) - 0).toNat + 1) 0)) (fun K22 =>
  spec_QueryOk.l0 a1 x20 K22 (((lenI a1.Where) - 0).toNat + 1) 0))

def spec_QueryText.l0 (a1 : Query) (K6 : ByteArray → Option ByteArray) : Nat → ByteArray → Int → Option ByteArray
  | 0, _, _ => none
  | k + 1, z18, z19 =>
    bif (decide (z19 < (lenI a1.Where))) then (
    (getO a1.Where z19).bind fun x21 =>
    (addO z18 (ByteArray.mk #[32, 119, 104, 101, 114, 101, 32])).bind fun s22 =>
    (spec_l2Digits.f x21.Col).bind fun r23 =>
    (addO s22 r23).bind fun s24 =>
    (addO s24 (ByteArray.mk #[32])).bind fun s25 =>
    (spec_l10Signs.f).bind fun r26 =>
    (getO r26 x21.Op).bind fun x27 =>
    (addO s25 x27).bind fun s28 =>
    (addO s28 (ByteArray.mk #[32])).bind fun s29 =>
    (spec_l2Digits.f x21.V).bind fun r30 =>
    (addO s29 r30).bind fun s31 =>
    spec_QueryText.l0 a1 K6 k s31 (w64 (z19 + 1)))
    else (
    K6 z18)
def spec_QueryText.l1 (a1 : Query) (K47 : ByteArray → Option ByteArray) : Nat → ByteArray → Int → Option ByteArray
  | 0, _, _ => none
  | k + 1, z59, z60 =>
    bif (decide (z60 < (lenI a1.Show))) then (
    joinK (fun (y62 : ByteArray) =>
    (addO y62 (ByteArray.mk #[32])).bind fun s66 =>
    (getO a1.Show z60).bind fun x67 =>
    (spec_l2Digits.f x67).bind fun r68 =>
    (addO s66 r68).bind fun s69 =>
    spec_QueryText.l1 a1 K47 k s69 (w64 (z60 + 1))) (fun K63 =>
    bif (decide (z60 = 0)) then (
    (addO z59 (ByteArray.mk #[32, 115, 104, 111, 119])).bind fun s65 =>
    K63 s65)
    else (
    K63 z59)))
    else (
    K47 z59)
def spec_QueryText.f (a0 : Schema) (a1 : Query) : Option ByteArray :=
  (spec_QueryOk.f a0 a1).bind fun r1 =>
  bif (bo3 r1 false true) then (
  some (ByteArray.mk #[]))
  else (
  (spec_l2Digits.f a1.Table).bind fun r3 =>
  (addO (ByteArray.mk #[102, 114, 111, 109, 32]) r3).bind fun s4 =>
  joinK (fun (y5 : ByteArray) =>
  joinK (fun (y32 : ByteArray) =>
  joinK (fun (y40 : ByteArray) =>
  joinK (fun (y46 : ByteArray) =>
  bif a1.Kids then (
  (addO y46 (ByteArray.mk #[32, 107, 105, 100, 115, 32])).bind fun s71 =>
  (spec_l2Digits.f a1.KidTable).bind fun r72 =>
  (addO s71 r72).bind fun s73 =>
  (addO s73 (ByteArray.mk #[32])).bind fun s74 =>
  (spec_l2Digits.f a1.KidCol).bind fun r75 =>
  (addO s74 r75).bind fun s76 =>
  some s76)
  else (
  some y46)) (fun K47 =>
  spec_QueryText.l1 a1 K47 (((lenI a1.Show) - 0).toNat + 1) y40 0)) (fun K41 =>
  bif (decide (a1.First ≠ 0)) then (
  (addO y32 (ByteArray.mk #[32, 102, 105, 114, 115, 116, 32])).bind fun s43 =>
  (spec_l2Digits.f a1.First).bind fun r44 =>
  (addO s43 r44).bind fun s45 =>
  K41 s45)
  else (
  K41 y32))) (fun K33 =>
  bif (decide (a1.Order ≠ 0)) then (
  (addO y5 (ByteArray.mk #[32, 111, 114, 100, 101, 114, 32])).bind fun s35 =>
  (spec_l2Digits.f (w64 (a1.Order - 1))).bind fun r36 =>
  (addO s35 r36).bind fun s37 =>
  bif a1.Down then (
  (addO s37 (ByteArray.mk #[32, 100, 111, 119, 110])).bind fun s39 =>
  K33 s39)
  else (
  K33 s37))
  else (
  K33 y5))) (fun K6 =>
  spec_QueryText.l0 a1 K6 (((lenI a1.Where) - 0).toNat + 1) s4 0))

def spec_QueryRead.l1 (r1 : (List ByteArray)) (z59 : Int) (K83 : Int → Option (Query × Bool)) : Nat → Int → Int → Option (Query × Bool)
  | 0, _, _ => none
  | k + 1, z108, z109 =>
    bif (bo3 (decide (z109 ≤ 4)) (decide ((w64 (z59 + 2)) < (lenI r1))) false) then (
    (getO r1 (w64 (z59 + 2))).bind fun x118 =>
    (spec_l10Signs.f).bind fun r119 =>
    (getO r119 z109).bind fun x120 =>
    bif (Ls.sc .eql x118 x120) then (
    spec_QueryRead.l1 r1 z59 K83 k z109 (w64 (z109 + 1)))
    else (
    spec_QueryRead.l1 r1 z59 K83 k z108 (w64 (z109 + 1))))
    else (
    K83 z108)
def spec_QueryRead.l2 (r1 : (List ByteArray)) (z50 : Int) (z51 : List Cond) (z52 : Int) (z53 : Bool) (z54 : Int) (z56 : Bool) (z57 : Int) (z58 : Int) (K75 : Int → (List Cond) → Int → Bool → Int → (List Int) → Bool → Int → Int → Option (Query × Bool)) : Nat → (List Int) → Int → Option (Query × Bool)
  | 0, _, _ => none
  | k + 1, z151, z152 =>
    bif (decide (z152 < (lenI r1))) then (
    (getO r1 z152).bind fun x154 =>
    (spec_l10Num.f x154).bind fun r155 =>
    bif (bo3 r155.2 false true) then (
    K75 z50 z51 z52 z53 z54 z151 z56 z57 z58)
    else (
    (some [r155.1]).bind fun l157 =>
    (appO 8 z151 l157).bind fun l158 =>
    spec_QueryRead.l2 r1 z50 z51 z52 z53 z54 z56 z57 z58 K75 k l158 (w64 (z152 + 1))))
    else (
    K75 z50 z51 z52 z53 z54 z151 z56 z57 z58)
def spec_QueryRead.l0 (a1 : ByteArray) (r1 : (List ByteArray)) (K11 : Int → (List Cond) → Int → Bool → Int → (List Int) → Bool → Int → Int → Option (Query × Bool)) : Nat → Int → (List Cond) → Int → Bool → Int → (List Int) → Bool → Int → Int → Int → Option (Query × Bool)
  | 0, _, _, _, _, _, _, _, _, _, _ => none
  | k + 1, z50, z51, z52, z53, z54, z55, z56, z57, z58, z59 =>
    bif (bo3 (decide (z59 < (lenI r1))) (decide ((Ls.sl a1) ≤ 400)) false) then (
    joinK (fun (y66 : Int) (y67 : List Cond) (y68 : Int) (y69 : Bool) (y70 : Int) (y71 : List Int) (y72 : Bool) (y73 : Int) (y74 : Int) =>
    spec_QueryRead.l0 a1 r1 K11 k y66 y67 y68 y69 y70 y71 y72 y73 y74 (w64 (z59 + 1))) (fun K75 =>
    (getO r1 z59).bind fun x76 =>
    bif (Ls.sc .eql x76 (ByteArray.mk #[102, 114, 111, 109])) then (
    (spec_l10Arg.f r1 (w64 (z59 + 1))).bind fun r78 =>
    K75 r78 z51 z52 z53 z54 z55 z56 z57 z58)
    else (
    bif (Ls.sc .eql x76 (ByteArray.mk #[119, 104, 101, 114, 101])) then (
    (spec_l10Arg.f r1 (w64 (z59 + 1))).bind fun r80 =>
    (spec_l10Arg.f r1 (w64 (z59 + 3))).bind fun r81 =>
    joinK (fun (y82 : Int) =>
    (some [(Cond.mk r80 y82 r81)]).bind fun l122 =>
    (appO 24 z51 l122).bind fun l123 =>
    K75 z50 l123 z52 z53 z54 z55 z56 z57 z58) (fun K83 =>
    spec_QueryRead.l1 r1 z59 K83 (((4 : Int) - 1).toNat + 2) 0 1))
    else (
    bif (Ls.sc .eql x76 (ByteArray.mk #[111, 114, 100, 101, 114])) then (
    (spec_l10Arg.f r1 (w64 (z59 + 1))).bind fun r125 =>
    K75 z50 z51 (w64 (r125 + 1)) z53 z54 z55 z56 z57 z58)
    else (
    bif (Ls.sc .eql x76 (ByteArray.mk #[100, 111, 119, 110])) then (
    K75 z50 z51 z52 true z54 z55 z56 z57 z58)
    else (
    bif (Ls.sc .eql x76 (ByteArray.mk #[102, 105, 114, 115, 116])) then (
    (spec_l10Arg.f r1 (w64 (z59 + 1))).bind fun r128 =>
    K75 z50 z51 z52 z53 r128 z55 z56 z57 z58)
    else (
    bif (Ls.sc .eql x76 (ByteArray.mk #[115, 104, 111, 119])) then (
    spec_QueryRead.l2 r1 z50 z51 z52 z53 z54 z56 z57 z58 K75 (((lenI r1) - (w64 (z59 + 1))).toNat + 1) z55 (w64 (z59 + 1)))
    else (
    bif (Ls.sc .eql x76 (ByteArray.mk #[107, 105, 100, 115])) then (
    (spec_l10Arg.f r1 (w64 (z59 + 1))).bind fun r160 =>
    (spec_l10Arg.f r1 (w64 (z59 + 2))).bind fun r161 =>
    K75 z50 z51 z52 z53 z54 z55 true r160 r161)
    else (
    K75 z50 z51 z52 z53 z54 z55 z56 z57 z58)))))))))
    else (
    K11 z50 z51 z52 z53 z54 z55 z56 z57 z58)
def spec_QueryRead.f (a0 : Schema) (a1 : ByteArray) : Option (Query × Bool) :=
  (spec_l10Words.f a1).bind fun r1 =>
  joinK (fun (y2 : Int) (y3 : List Cond) (y4 : Int) (y5 : Bool) (y6 : Int) (y7 : List Int) (y8 : Bool) (y9 : Int) (y10 : Int) =>
  (gd (bo3 (Ls.sc .eql a1 (ByteArray.mk #[])) false true) (spec_QueryText.f a0 (Query.mk y2 y3 y4 y5 y6 y7 y8 y9 y10))).bind fun r162 =>
  bif (bo3 (Ls.sc .eql a1 (ByteArray.mk #[])) true (Ls.sc .neq r162 a1)) then (
  some ((Query.mk 0 [] 0 false 0 [] false 0 0), false))
  else (
  some ((Query.mk y2 y3 y4 y5 y6 y7 y8 y9 y10), true))) (fun K11 =>
  spec_QueryRead.l0 a1 r1 K11 (((lenI r1) - 0).toNat + 1) 0 [] 0 false 0 [] false 0 0 0)

def strings_Split.f (a0 a1 : ByteArray) : Option (List ByteArray) := splitO a0 a1

def impl_asker_take.f (a0 : asker) (a1 : ByteArray) : Option (asker × Bool) :=
  (gd (decide (0 < (lenI a0.words))) (getO a0.words 0)).bind fun x1 =>
  bif (bo3 (decide (0 < (lenI a0.words))) (Ls.sc .eql x1 a1) false) then (
  (cutO a0.words 1 (lenI a0.words)).bind fun l13 =>
  some ((asker.mk l13 a0.bad), (bo3 (decide (0 < (lenI a0.words))) (Ls.sc .eql x1 a1) false)))
  else (
  some (a0, (bo3 (decide (0 < (lenI a0.words))) (Ls.sc .eql x1 a1) false)))

def strconv_Atoi.f (a0 : ByteArray) : Option (Int × Bool) := atoiO a0

def impl_asker_isNumber.f (a0 : asker) : Option Bool :=
  bif (decide ((lenI a0.words) = 0)) then (
  some false)
  else (
  (getO a0.words 0).bind fun x2 =>
  (strconv_Atoi.f x2).bind fun r3 =>
  bif r3.2 then (
  some true)
  else (
  some false))

def impl_asker_number.f (a0 : asker) : Option (asker × Int) :=
  (impl_asker_isNumber.f a0).bind fun r1 =>
  bif (bo3 r1 false true) then (
  some ((asker.mk a0.words true), 0))
  else (
  (getO a0.words 0).bind fun x3 =>
  (strconv_Atoi.f x3).bind fun r4 =>
  bif r4.2 then (
  (cutO a0.words 1 (lenI a0.words)).bind fun l6 =>
  some ((asker.mk l6 a0.bad), r4.1))
  else (
  (cutO a0.words 1 (lenI a0.words)).bind fun l7 =>
  some ((asker.mk l7 a0.bad), r4.1)))

def impl_asker_cond.l0 (K5 : (List ByteArray) → Bool → Int → Option (asker × Cond)) : Nat → (List ByteArray) → Bool → Int → Option (asker × Cond)
  | 0, _, _, _ => none
  | k + 1, z15, z16, z17 =>
    bif (decide (z17 < 4)) then (
    (cutS (ByteArray.mk #[61, 60, 62, 33]) z17 (w64 (z17 + 1))).bind fun u19 =>
    (impl_asker_take.f (asker.mk z15 z16) (Ls.ss (ByteArray.mk #[61, 60, 62, 33]) z17 (w64 (z17 + 1)))).bind fun r20 =>
    bif r20.2 then (
    K5 r20.1.words r20.1.bad (w64 (z17 + 1)))
    else (
    impl_asker_cond.l0 K5 k r20.1.words r20.1.bad (w64 (z17 + 1))))
    else (
    K5 z15 z16 0)
def impl_asker_cond.f (a0 : asker) : Option (asker × Cond) :=
  (impl_asker_number.f a0).bind fun r1 =>
  joinK (fun (y2 : List ByteArray) (y3 : Bool) (y4 : Int) =>
  (impl_asker_number.f (asker.mk y2 y3)).bind fun r22 =>
  some (r22.1, (Cond.mk r1.2 y4 r22.2))) (fun K5 =>
  impl_asker_cond.l0 K5 (((4 : Int) - 0).toNat + 1) r1.1.words r1.1.bad 0)

def impl_asker_query.l0 (K6 : (List ByteArray) → Bool → (List Cond) → Option (asker × Query)) : Nat → (List ByteArray) → Bool → (List Cond) → Option (asker × Query)
  | 0, _, _, _ => none
  | k + 1, z40, z41, z42 =>
    bif (bo3 z41 false true) then (
    (impl_asker_take.f (asker.mk z40 z41) (ByteArray.mk #[119, 104, 101, 114, 101])).bind fun r44 =>
    bif (bo3 (bo3 z41 false true) r44.2 false) then (
    (impl_asker_cond.f r44.1).bind fun r48 =>
    (some [r48.2]).bind fun l49 =>
    (appO 24 z42 l49).bind fun l50 =>
    impl_asker_query.l0 K6 k r48.1.words r48.1.bad l50)
    else (
    K6 r44.1.words r44.1.bad z42))
    else (
    bif (bo3 (bo3 z41 false true) false false) then (
    (impl_asker_cond.f (asker.mk z40 z41)).bind fun r54 =>
    (some [r54.2]).bind fun l55 =>
    (appO 24 z42 l55).bind fun l56 =>
    impl_asker_query.l0 K6 k r54.1.words r54.1.bad l56)
    else (
    K6 z40 z41 z42))
def impl_asker_query.l1 (K76 : (List ByteArray) → Bool → (List Int) → Option (asker × Query)) : Nat → (List ByteArray) → Bool → (List Int) → Option (asker × Query)
  | 0, _, _, _ => none
  | k + 1, z114, z115, z116 =>
    (impl_asker_isNumber.f (asker.mk z114 z115)).bind fun r117 =>
    bif r117 then (
    (impl_asker_number.f (asker.mk z114 z115)).bind fun r119 =>
    (some [r119.2]).bind fun l120 =>
    (appO 8 z116 l120).bind fun l121 =>
    impl_asker_query.l1 K76 k r119.1.words r119.1.bad l121)
    else (
    K76 z114 z115 z116)
def impl_asker_query.f (a0 : asker) : Option (asker × Query) :=
  (impl_asker_take.f a0 (ByteArray.mk #[102, 114, 111, 109])).bind fun r1 =>
  (impl_asker_number.f (asker.mk r1.1.words (bo3 r1.2 false true))).bind fun r2 =>
  joinK (fun (y3 : List ByteArray) (y4 : Bool) (y5 : List Cond) =>
  joinK (fun (y57 : List ByteArray) (y58 : Bool) (y59 : Int) (y60 : Bool) =>
  joinK (fun (y66 : List ByteArray) (y67 : Bool) (y68 : Int) =>
  joinK (fun (y73 : List ByteArray) (y74 : Bool) (y75 : List Int) =>
  (impl_asker_take.f (asker.mk y73 y74) (ByteArray.mk #[107, 105, 100, 115])).bind fun r122 =>
  bif r122.2 then (
  (impl_asker_number.f r122.1).bind fun r124 =>
  (impl_asker_number.f r124.1).bind fun r125 =>
  some (r125.1, (Query.mk r2.2 y5 y59 y60 y68 y75 true r124.2 r125.2)))
  else (
  some (r122.1, (Query.mk r2.2 y5 y59 y60 y68 y75 false 0 0)))) (fun K76 =>
  (impl_asker_take.f (asker.mk y66 y67) (ByteArray.mk #[115, 104, 111, 119])).bind fun r77 =>
  bif r77.2 then (
  impl_asker_query.l1 K76 (a0.words.length + 2) r77.1.words r77.1.bad [])
  else (
  K76 r77.1.words r77.1.bad []))) (fun K69 =>
  (impl_asker_take.f (asker.mk y57 y58) (ByteArray.mk #[102, 105, 114, 115, 116])).bind fun r70 =>
  bif r70.2 then (
  (impl_asker_number.f r70.1).bind fun r72 =>
  K69 r72.1.words r72.1.bad r72.2)
  else (
  K69 r70.1.words r70.1.bad 0))) (fun K61 =>
  (impl_asker_take.f (asker.mk y3 y4) (ByteArray.mk #[111, 114, 100, 101, 114])).bind fun r62 =>
  bif r62.2 then (
  (impl_asker_number.f r62.1).bind fun r64 =>
  (impl_asker_take.f r64.1 (ByteArray.mk #[100, 111, 119, 110])).bind fun r65 =>
  K61 r65.1.words r65.1.bad (w64 (r64.2 + 1)) r65.2)
  else (
  K61 r62.1.words r62.1.bad 0 false))) (fun K6 =>
  impl_asker_query.l0 K6 (a0.words.length + 2) r2.1.words r2.1.bad [])

def impl_QueryRead.f (a0 : Schema) (a1 : ByteArray) : Option (Query × Bool) :=
  (strings_Split.f a1 (ByteArray.mk #[32])).bind fun r1 =>
  (impl_asker_query.f (asker.mk r1 false)).bind fun r2 =>
  (gd (bo3 (bo3 r2.1.bad true (decide (0 < (lenI r2.1.words)))) false true) (impl_QueryOk.f a0 r2.2)).bind fun r3 =>
  (gd (bo3 (bo3 (bo3 r2.1.bad true (decide (0 < (lenI r2.1.words)))) true (bo3 r3 false true)) false true) (impl_QueryText.f a0 r2.2)).bind fun r4 =>
  bif (bo3 (bo3 (bo3 r2.1.bad true (decide (0 < (lenI r2.1.words)))) true (bo3 r3 false true)) true (Ls.sc .neq r4 a1)) then (
  some ((Query.mk 0 [] 0 false 0 [] false 0 0), false))
  else (
  some (r2.2, true))

def laws_big.f (a0 : List Int) : Option Bool :=
  some (decide (1048576 < (lenI a0)))

def spec_l1Byte.f (a0 : l1Cur) : Option (l1Cur × Int) :=
  bif (decide (a0.i < (lenI a0.b))) then (
  (getO a0.b a0.i).bind fun x2 =>
  some ((l1Cur.mk a0.b (w64 (a0.i + 1)) (w64 ((w64 (a0.h * 6364136223846793005)) + 1442695040888963407))), (Ls.ar .and .i64 (w64 ((Ls.ar .and .i64 (Ls.ar .xor .i64 (Ls.ar .shr .i64 (w64 ((w64 (a0.h * 6364136223846793005)) + 1442695040888963407)) 33) (Ls.ar .shr .i64 (w64 ((w64 (a0.h * 6364136223846793005)) + 1442695040888963407)) 45)) 255) + (w64 x2))) 255)))
  else (
  some ((l1Cur.mk a0.b a0.i (w64 ((w64 (a0.h * 6364136223846793005)) + 1442695040888963407))), (Ls.ar .and .i64 (Ls.ar .xor .i64 (Ls.ar .shr .i64 (w64 ((w64 (a0.h * 6364136223846793005)) + 1442695040888963407)) 33) (Ls.ar .shr .i64 (w64 ((w64 (a0.h * 6364136223846793005)) + 1442695040888963407)) 45)) 255)))

def spec_l1Below.f (a0 : l1Cur) (a1 : Int) : Option (l1Cur × Int) :=
  bif (decide (a1 ≤ 0)) then (
  some (a0, 0))
  else (
  bif (decide (a1 ≤ 256)) then (
  (spec_l1Byte.f a0).bind fun r3 =>
  (nzO a1).bind fun u4 =>
  some ((l1Cur.mk a0.b r3.1.i r3.1.h), (Int.tmod r3.2 a1)))
  else (
  (spec_l1Byte.f a0).bind fun r5 =>
  (spec_l1Byte.f (l1Cur.mk a0.b r5.1.i r5.1.h)).bind fun r6 =>
  (spec_l1Byte.f (l1Cur.mk a0.b r6.1.i r6.1.h)).bind fun r7 =>
  (spec_l1Byte.f (l1Cur.mk a0.b r7.1.i r7.1.h)).bind fun r8 =>
  (nzO a1).bind fun u9 =>
  some ((l1Cur.mk a0.b r8.1.i r8.1.h), (Int.tmod (w64 ((w64 ((w64 ((w64 (r5.2 * 16777216)) + (w64 (r6.2 * 65536)))) + (w64 (r7.2 * 256)))) + r8.2)) a1))))

def spec_l1PickInt.f (a0 : l1Cur) (a1 : List Int) : Option (l1Cur × Int) :=
  (spec_l1Below.f a0 (lenI a1)).bind fun r1 =>
  (getO a1 r1.2).bind fun x2 =>
  some ((l1Cur.mk a0.b r1.1.i r1.1.h), x2)

def spec_l6DrawSchema.l0 (a0 : l1Cur) : Nat → Int → Int → (List Int) → Int → Option (l1Cur × Schema)
  | 0, _, _, _, _ => none
  | k + 1, z10, z11, z12, z13 =>
    (spec_l1Below.f (l1Cur.mk a0.b z10 z11) 3).bind fun r14 =>
    bif (decide (z13 < (w64 (1 + r14.2)))) then (
    (spec_l1Below.f (l1Cur.mk a0.b r14.1.i r14.1.h) 4).bind fun r16 =>
    (some [(w64 (1 + r16.2))]).bind fun l17 =>
    (appO 8 z12 l17).bind fun l18 =>
    spec_l6DrawSchema.l0 a0 k r16.1.i r16.1.h l18 (w64 (z13 + 1)))
    else (
    some ((l1Cur.mk a0.b r14.1.i r14.1.h), (Schema.mk z12)))
def spec_l6DrawSchema.f (a0 : l1Cur) : Option (l1Cur × Schema) :=
  spec_l6DrawSchema.l0 a0 1000 a0.i a0.h [] 0

def spec_l6DrawBad.f (a0 : l1Cur) : Option (l1Cur × Schema) :=
  (spec_l6DrawSchema.f a0).bind fun r1 =>
  (spec_l1Below.f (l1Cur.mk a0.b r1.1.i r1.1.h) 12).bind fun r2 =>
  bif (decide (r2.2 = 0)) then (
  (some [1, 1, 1]).bind fun l4 =>
  (appO 8 r1.2.Cols l4).bind fun l5 =>
  some ((l1Cur.mk a0.b r2.1.i r2.1.h), (Schema.mk l5)))
  else (
  bif (decide (r2.2 = 1)) then (
  (some [0, 5, (-1)]).bind fun l7 =>
  (spec_l1PickInt.f (l1Cur.mk a0.b r2.1.i r2.1.h) l7).bind fun r8 =>
  (getO r1.2.Cols 0).bind fun x9 =>
  (some (setI r1.2.Cols 0 r8.2)).bind fun l10 =>
  some ((l1Cur.mk a0.b r8.1.i r8.1.h), (Schema.mk l10)))
  else (
  bif (decide (r2.2 = 2)) then (
  some ((l1Cur.mk a0.b r2.1.i r2.1.h), (Schema.mk [])))
  else (
  some ((l1Cur.mk a0.b r2.1.i r2.1.h), r1.2))))

def spec_l1Max.f (a0 : Int) (a1 : Int) : Option Int :=
  bif (decide (a1 < a0)) then (
  some a0)
  else (
  some a1)

def spec_l1Once.f (a0 : l1Cur) (a1 : Int) : Option (l1Cur × Bool) :=
  (spec_l1Below.f a0 a1).bind fun r1 =>
  some ((l1Cur.mk a0.b r1.1.i r1.1.h), (decide (r1.2 = 0)))

def spec_l9DrawRight.l0 (a0 : l1Cur) (y3 : Int) (K11 : Int → Int → (List Cond) → Option (l1Cur × Query)) : Nat → Int → Int → (List Cond) → Int → Option (l1Cur × Query)
  | 0, _, _, _, _ => none
  | k + 1, z53, z54, z55, z56 =>
    (spec_l1Below.f (l1Cur.mk a0.b z53 z54) 3).bind fun r57 =>
    bif (decide (z56 < r57.2)) then (
    (spec_l1Below.f (l1Cur.mk a0.b r57.1.i r57.1.h) y3).bind fun r59 =>
    (spec_l1Below.f (l1Cur.mk a0.b r59.1.i r59.1.h) 4).bind fun r60 =>
    (spec_l1Below.f (l1Cur.mk a0.b r60.1.i r60.1.h) 6).bind fun r61 =>
    (some [(Cond.mk r59.2 (w64 (1 + r60.2)) r61.2)]).bind fun l62 =>
    (appO 24 z55 l62).bind fun l63 =>
    spec_l9DrawRight.l0 a0 y3 K11 k r61.1.i r61.1.h l63 (w64 (z56 + 1)))
    else (
    K11 r57.1.i r57.1.h z55)
def spec_l9DrawRight.l1 (a0 : l1Cur) (y3 : Int) (K76 : Int → Int → Bool → (List Int) → Option (l1Cur × Query)) : Nat → Int → Int → Bool → (List Int) → Int → Option (l1Cur × Query)
  | 0, _, _, _, _, _ => none
  | k + 1, z120, z121, z122, z123, z124 =>
    bif (decide (z124 < y3)) then (
    (spec_l1Once.f (l1Cur.mk a0.b z120 z121) 2).bind fun r126 =>
    bif r126.2 then (
    (some [z124]).bind fun l128 =>
    (appO 8 z123 l128).bind fun l129 =>
    spec_l9DrawRight.l1 a0 y3 K76 k r126.1.i r126.1.h z122 l129 (w64 (z124 + 1)))
    else (
    spec_l9DrawRight.l1 a0 y3 K76 k r126.1.i r126.1.h z122 z123 (w64 (z124 + 1))))
    else (
    K76 z120 z121 z122 z123)
def spec_l9DrawRight.f (a0 : l1Cur) (a1 : Schema) : Option (l1Cur × Query) :=
  (spec_l1Max.f (lenI a1.Cols) 1).bind fun r1 =>
  (spec_l1Below.f a0 r1).bind fun r2 =>
  joinK (fun (y3 : Int) =>
  joinK (fun (y8 : Int) (y9 : Int) (y10 : List Cond) =>
  (spec_l1Below.f (l1Cur.mk a0.b y8 y9) (w64 (y3 + 1))).bind fun r64 =>
  (gd (decide (0 < r64.2)) (spec_l1Once.f (l1Cur.mk a0.b r64.1.i r64.1.h) 2)).bind fun r65 =>
  (some [0, 0, 1, 2, 3, 5]).bind fun l70 =>
  (spec_l1PickInt.f (l1Cur.mk a0.b (ci3 (decide (0 < r64.2)) r65.1.i r64.1.i) (ci3 (decide (0 < r64.2)) r65.1.h r64.1.h)) l70).bind fun r71 =>
  joinK (fun (y72 : Int) (y73 : Int) (y74 : Bool) (y75 : List Int) =>
  (spec_l1Once.f (l1Cur.mk a0.b y72 y73) 2).bind fun r130 =>
  bif r130.2 then (
  (spec_l1Max.f (lenI a1.Cols) 1).bind fun r132 =>
  (spec_l1Below.f (l1Cur.mk a0.b r130.1.i r130.1.h) r132).bind fun r133 =>
  bif (decide (r133.2 < (lenI a1.Cols))) then (
  (getO a1.Cols r133.2).bind fun x135 =>
  (spec_l1Max.f x135 1).bind fun r136 =>
  (spec_l1Below.f (l1Cur.mk a0.b r133.1.i r133.1.h) r136).bind fun r137 =>
  some ((l1Cur.mk a0.b r137.1.i r137.1.h), (Query.mk r2.2 y10 r64.2 y74 r71.2 y75 true r133.2 r137.2)))
  else (
  some ((l1Cur.mk a0.b r133.1.i r133.1.h), (Query.mk r2.2 y10 r64.2 y74 r71.2 y75 true r133.2 0))))
  else (
  some ((l1Cur.mk a0.b r130.1.i r130.1.h), (Query.mk r2.2 y10 r64.2 y74 r71.2 y75 false 0 0)))) (fun K76 =>
  spec_l9DrawRight.l1 a0 y3 K76 ((y3 - 0).toNat + 1) r71.1.i r71.1.h (bo3 (decide (0 < r64.2)) r65.2 false) [] 0)) (fun K11 =>
  spec_l9DrawRight.l0 a0 y3 K11 1000 r2.1.i r2.1.h [] 0)) (fun K4 =>
  bif (decide (r2.2 < (lenI a1.Cols))) then (
  (getO a1.Cols r2.2).bind fun x6 =>
  (spec_l1Max.f x6 1).bind fun r7 =>
  K4 r7)
  else (
  K4 1))

def spec_l9Draw.f (a0 : l1Cur) (a1 : Schema) : Option (l1Cur × Query) :=
  (spec_l9DrawRight.f a0 a1).bind fun r1 =>
  (spec_l1Below.f (l1Cur.mk a0.b r1.1.i r1.1.h) 25).bind fun r2 =>
  bif (decide (r2.2 = 0)) then (
  (spec_l1Below.f (l1Cur.mk a0.b r2.1.i r2.1.h) 5).bind fun r4 =>
  some ((l1Cur.mk a0.b r4.1.i r4.1.h), (Query.mk (w64 (r4.2 - 1)) r1.2.Where r1.2.Order r1.2.Down r1.2.First r1.2.Show r1.2.Kids r1.2.KidTable r1.2.KidCol)))
  else (
  bif (decide (r2.2 = 1)) then (
  (spec_l1Below.f (l1Cur.mk a0.b r2.1.i r2.1.h) 6).bind fun r6 =>
  (spec_l1Below.f (l1Cur.mk a0.b r6.1.i r6.1.h) 6).bind fun r7 =>
  (some [0, 1000000001]).bind fun l8 =>
  (spec_l1PickInt.f (l1Cur.mk a0.b r7.1.i r7.1.h) l8).bind fun r9 =>
  (some [(Cond.mk (w64 (r6.2 - 1)) r7.2 r9.2)]).bind fun l10 =>
  (appO 24 r1.2.Where l10).bind fun l11 =>
  some ((l1Cur.mk a0.b r9.1.i r9.1.h), (Query.mk r1.2.Table l11 r1.2.Order r1.2.Down r1.2.First r1.2.Show r1.2.Kids r1.2.KidTable r1.2.KidCol)))
  else (
  bif (decide (r2.2 = 2)) then (
  (spec_l1Below.f (l1Cur.mk a0.b r2.1.i r2.1.h) 7).bind fun r13 =>
  some ((l1Cur.mk a0.b r13.1.i r13.1.h), (Query.mk r1.2.Table r1.2.Where (w64 (r13.2 - 1)) r1.2.Down r1.2.First r1.2.Show r1.2.Kids r1.2.KidTable r1.2.KidCol)))
  else (
  bif (decide (r2.2 = 3)) then (
  (some [(-1), 24, 25]).bind fun l15 =>
  (spec_l1PickInt.f (l1Cur.mk a0.b r2.1.i r2.1.h) l15).bind fun r16 =>
  some ((l1Cur.mk a0.b r16.1.i r16.1.h), (Query.mk r1.2.Table r1.2.Where r1.2.Order r1.2.Down r16.2 r1.2.Show r1.2.Kids r1.2.KidTable r1.2.KidCol)))
  else (
  bif (decide (r2.2 = 4)) then (
  (spec_l1Below.f (l1Cur.mk a0.b r2.1.i r2.1.h) 5).bind fun r18 =>
  (some [r18.2]).bind fun l19 =>
  (appO 8 r1.2.Show l19).bind fun l20 =>
  some ((l1Cur.mk a0.b r18.1.i r18.1.h), (Query.mk r1.2.Table r1.2.Where r1.2.Order r1.2.Down r1.2.First l20 r1.2.Kids r1.2.KidTable r1.2.KidCol)))
  else (
  bif (decide (r2.2 = 5)) then (
  (spec_l1Below.f (l1Cur.mk a0.b r2.1.i r2.1.h) 6).bind fun r22 =>
  some ((l1Cur.mk a0.b r22.1.i r22.1.h), (Query.mk r1.2.Table r1.2.Where r1.2.Order r1.2.Down r1.2.First r1.2.Show r1.2.Kids r1.2.KidTable (w64 (r22.2 - 1)))))
  else (
  some ((l1Cur.mk a0.b r2.1.i r2.1.h), r1.2)))))))

def spec_l1New.l0 (a0 : List Int) : Nat → Int → Int → Option l1Cur
  | 0, _, _ => none
  | k + 1, z4, z5 =>
    bif (bo3 (decide (z5 < (lenI a0))) (decide (z5 < 4000)) false) then (
    (getO a0 z5).bind fun x11 =>
    spec_l1New.l0 a0 k (Ls.ar .and .i64 (w64 ((w64 ((w64 (z4 * 131)) + (w64 x11))) + 7)) 1073741823) (w64 (z5 + 1)))
    else (
    some (l1Cur.mk a0 0 z4))
def spec_l1New.f (a0 : List Int) : Option l1Cur :=
  spec_l1New.l0 a0 (((lenI a0) - 0).toNat + 1) (w64 (17333 + (lenI a0))) 0

def spec_DrawQueryOk.f (a0 : List Int) : Option (Schema × Query) :=
  (spec_l1New.f a0).bind fun r1 =>
  (spec_l6DrawBad.f r1).bind fun r2 =>
  (spec_l9Draw.f (l1Cur.mk r1.b r2.1.i r2.1.h) r2.2).bind fun r3 =>
  some (r2.2, r3.2)

def spec_DrawQueryText.f (a0 : List Int) : Option (Schema × Query) :=
  (spec_DrawQueryOk.f a0).bind fun r1 =>
  some (r1.1, r1.2)

def slices_Equal_impl_Cond.l0 (a0 : List Cond) (a1 : List Cond) : Nat → Int → Option Bool
  | 0, _ => none
  | k + 1, z6 =>
    bif (decide (z6 < (lenI a0))) then (
    (getO a0 z6).bind fun x8 =>
    (getO a1 z6).bind fun x9 =>
    bif (bo3 (bo3 (decide (x8.Col = x9.Col)) (bo3 (decide (x8.Op = x9.Op)) (bo3 (decide (x8.V = x9.V)) true false) false) false) false true) then (
    some false)
    else (
    slices_Equal_impl_Cond.l0 a0 a1 k (w64 (z6 + 1))))
    else (
    some true)
def slices_Equal_impl_Cond.f (a0 : List Cond) (a1 : List Cond) : Option Bool :=
  bif (decide ((lenI a0) ≠ (lenI a1))) then (
  some false)
  else (
  slices_Equal_impl_Cond.l0 a0 a1 (((lenI a0) - 0).toNat + 1) 0)

def slices_Equal_int.l0 (a0 : List Int) (a1 : List Int) : Nat → Int → Option Bool
  | 0, _ => none
  | k + 1, z6 =>
    bif (decide (z6 < (lenI a0))) then (
    (getO a0 z6).bind fun x8 =>
    (getO a1 z6).bind fun x9 =>
    bif (decide (x8 ≠ x9)) then (
    some false)
    else (
    slices_Equal_int.l0 a0 a1 k (w64 (z6 + 1))))
    else (
    some true)
def slices_Equal_int.f (a0 : List Int) (a1 : List Int) : Option Bool :=
  bif (decide ((lenI a0) ≠ (lenI a1))) then (
  some false)
  else (
  slices_Equal_int.l0 a0 a1 (((lenI a0) - 0).toNat + 1) 0)

def impl_QuerySame.f (a0 : Query) (a1 : Query) : Option Bool :=
  (gd (bo3 (bo3 (bo3 (bo3 (decide (a0.Table = a1.Table)) (decide (a0.Order = a1.Order)) false) (bo3 a0.Down a1.Down (bo3 a1.Down false true)) false) (decide (a0.First = a1.First)) false) (bo3 (bo3 (bo3 a0.Kids a1.Kids (bo3 a1.Kids false true)) (decide (a0.KidTable = a1.KidTable)) false) (decide (a0.KidCol = a1.KidCol)) false) false) (slices_Equal_impl_Cond.f a0.Where a1.Where)).bind fun r36 =>
  (gd (bo3 (bo3 (bo3 (bo3 (bo3 (decide (a0.Table = a1.Table)) (decide (a0.Order = a1.Order)) false) (bo3 a0.Down a1.Down (bo3 a1.Down false true)) false) (decide (a0.First = a1.First)) false) (bo3 (bo3 (bo3 a0.Kids a1.Kids (bo3 a1.Kids false true)) (decide (a0.KidTable = a1.KidTable)) false) (decide (a0.KidCol = a1.KidCol)) false) false) r36 false) (slices_Equal_int.f a0.Show a1.Show)).bind fun r37 =>
  some (bo3 (bo3 (bo3 (bo3 (bo3 (bo3 (decide (a0.Table = a1.Table)) (decide (a0.Order = a1.Order)) false) (bo3 a0.Down a1.Down (bo3 a1.Down false true)) false) (decide (a0.First = a1.First)) false) (bo3 (bo3 (bo3 a0.Kids a1.Kids (bo3 a1.Kids false true)) (decide (a0.KidTable = a1.KidTable)) false) (decide (a0.KidCol = a1.KidCol)) false) false) r36 false) r37 false)

def spec_l1Pick.f (a0 : l1Cur) (a1 : List ByteArray) : Option (l1Cur × ByteArray) :=
  (spec_l1Below.f a0 (lenI a1)).bind fun r1 =>
  (getO a1 r1.2).bind fun x2 =>
  some ((l1Cur.mk a0.b r1.1.i r1.1.h), x2)

def spec_DrawQueryRead.f (a0 : List Int) : Option (Schema × ByteArray) :=
  (spec_l1New.f a0).bind fun r1 =>
  (spec_l6DrawSchema.f r1).bind fun r2 =>
  (spec_l9DrawRight.f (l1Cur.mk r1.b r2.1.i r2.1.h) r2.2).bind fun r3 =>
  (spec_QueryText.f r2.2 r3.2).bind fun r4 =>
  (spec_l1Below.f (l1Cur.mk r1.b r3.1.i r3.1.h) (w64 ((Ls.sl r4) + 1))).bind fun r5 =>
  (spec_l1Below.f (l1Cur.mk r1.b r5.1.i r5.1.h) 5).bind fun r6 =>
  bif (decide (r6.2 = 0)) then (
  (cutS r4 0 r5.2).bind fun u8 =>
  some (r2.2, (Ls.ss r4 0 r5.2)))
  else (
  bif (decide (r6.2 = 1)) then (
  (cutS r4 0 r5.2).bind fun u10 =>
  (some [(ByteArray.mk #[32]), (ByteArray.mk #[48]), (ByteArray.mk #[45]), (ByteArray.mk #[120]), (ByteArray.mk #[32, 100, 111, 119, 110]), (ByteArray.mk #[32, 102, 105, 114, 115, 116, 32, 50]), (ByteArray.mk #[32, 119, 104, 101, 114, 101, 32, 48, 32, 61, 32, 49])]).bind fun l11 =>
  (spec_l1Pick.f (l1Cur.mk r1.b r6.1.i r6.1.h) l11).bind fun r12 =>
  (addO (Ls.ss r4 0 r5.2) r12.2).bind fun s13 =>
  (cutS r4 r5.2 (Ls.sl r4)).bind fun u14 =>
  (addO s13 (Ls.ss r4 r5.2 (Ls.sl r4))).bind fun s15 =>
  some (r2.2, s15))
  else (
  some (r2.2, r4)))

def laws_FnQuestion.f (a0 : List Int) : Option Bool :=
  (laws_big.f a0).bind fun r1 =>
  bif r1 then (
  some true)
  else (
  (spec_DrawQueryText.f a0).bind fun r3 =>
  (impl_QueryText.f r3.1 r3.2).bind fun r4 =>
  (spec_QueryText.f r3.1 r3.2).bind fun r5 =>
  (gd (bo3 (Ls.sc .neq r4 r5) false true) (impl_QueryOk.f r3.1 r3.2)).bind fun r6 =>
  bif (bo3 (Ls.sc .neq r4 r5) true (bo3 (Ls.sc .neq r4 (ByteArray.mk #[])) (bo3 r6 false true) r6)) then (
  some false)
  else (
  joinK (fun (y16 : Unit) =>
  (spec_DrawQueryRead.f a0).bind fun r28 =>
  (impl_QueryRead.f r28.1 r28.2).bind fun r29 =>
  (spec_QueryRead.f r28.1 r28.2).bind fun r30 =>
  (gd (bo3 (bo3 r29.2 r30.2 (bo3 r30.2 false true)) (bo3 (bo3 r29.2 false true) false true) false) (impl_QueryText.f r28.1 r29.1)).bind fun r31 =>
  some (bo3 (bo3 r29.2 r30.2 (bo3 r30.2 false true)) (bo3 (bo3 r29.2 false true) true (Ls.sc .eql r31 r28.2)) false)) (fun K17 =>
  bif (Ls.sc .neq r4 (ByteArray.mk #[])) then (
  (impl_QueryRead.f r3.1 r4).bind fun r19 =>
  (gd (bo3 (bo3 r19.2 false true) false true) (impl_QuerySame.f r19.1 r3.2)).bind fun r20 =>
  bif (bo3 (bo3 r19.2 false true) true (bo3 r20 false true)) then (
  some false)
  else (
  K17 ()))
  else (
  K17 ()))))

end Go.Proofs.YtcpekllcbimpmaaDoor.L
