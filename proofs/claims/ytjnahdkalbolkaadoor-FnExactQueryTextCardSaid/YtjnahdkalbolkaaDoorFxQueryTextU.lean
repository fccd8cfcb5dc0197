/- The pure functions of the program. -/
import Derived.Test.YtjnahdkalbolkaaDoorSl49
namespace Go.Proofs.YtjnahdkalbolkaaDoor.L
open Go
set_option linter.unusedVariables false
structure Schema where
  Cols : List Int
  deriving Inhabited, DecidableEq
structure Cond where
  Col : Int
  Op : Int
  V : Int
  deriving Inhabited, DecidableEq
structure Query where
  Table : Int
  Where : List Cond
  Order : Int
  Down : Bool
  First : Int
  Show : List Int
  Kids : Bool
  KidTable : Int
  KidCol : Int
  deriving Inhabited, DecidableEq

def laws_eqIntS.l0 (a0 : List Int) (a1 : List Int) : Nat → Int → Option Bool
  | 0, _ => none
  | k + 1, z5 =>
    bif (decide (z5 < (lenI a0))) then (
    (getO a0 z5).bind fun x7 =>
    (getO a1 z5).bind fun x8 =>
    bif (decide (x7 ≠ x8)) then (
    some false)
    else (
    laws_eqIntS.l0 a0 a1 k (w64 (z5 + 1))))
    else (
    some true)
def laws_eqIntS.f (a0 : List Int) (a1 : List Int) : Option Bool :=
  bif (decide ((lenI a0) ≠ (lenI a1))) then (
  some false)
  else (
  laws_eqIntS.l0 a0 a1 (((lenI a0) - 0).toNat + 1) 0)

def laws_eqSchema.f (a0 : Schema) (a1 : Schema) : Option Bool :=
  (laws_eqIntS.f a0.Cols a1.Cols).bind fun r1 =>
  bif (bo3 r1 false true) then (
  some false)
  else (
  some true)

def laws_eqCond.f (a0 : Cond) (a1 : Cond) : Option Bool :=
  bif (decide (a0.Col ≠ a1.Col)) then (
  some false)
  else (
  bif (decide (a0.Op ≠ a1.Op)) then (
  some false)
  else (
  bif (decide (a0.V ≠ a1.V)) then (
  some false)
  else (
  some true)))

def laws_eqCondS.l0 (a0 : List Cond) (a1 : List Cond) : Nat → Int → Option Bool
  | 0, _ => none
  | k + 1, z5 =>
    bif (decide (z5 < (lenI a0))) then (
    (getO a0 z5).bind fun x7 =>
    (getO a1 z5).bind fun x8 =>
    (laws_eqCond.f x7 x8).bind fun r9 =>
    bif (bo3 r9 false true) then (
    some false)
    else (
    laws_eqCondS.l0 a0 a1 k (w64 (z5 + 1))))
    else (
    some true)
def laws_eqCondS.f (a0 : List Cond) (a1 : List Cond) : Option Bool :=
  bif (decide ((lenI a0) ≠ (lenI a1))) then (
  some false)
  else (
  laws_eqCondS.l0 a0 a1 (((lenI a0) - 0).toNat + 1) 0)

def laws_eqQuery.f (a0 : Query) (a1 : Query) : Option Bool :=
  bif (decide (a0.Table ≠ a1.Table)) then (
  some false)
  else (
  (laws_eqCondS.f a0.Where a1.Where).bind fun r2 =>
  bif (bo3 r2 false true) then (
  some false)
  else (
  bif (decide (a0.Order ≠ a1.Order)) then (
  some false)
  else (
  bif (bo3 a0.Down (bo3 a1.Down false true) a1.Down) then (
  some false)
  else (
  bif (decide (a0.First ≠ a1.First)) then (
  some false)
  else (
  (laws_eqIntS.f a0.Show a1.Show).bind fun r7 =>
  bif (bo3 r7 false true) then (
  some false)
  else (
  bif (bo3 a0.Kids (bo3 a1.Kids false true) a1.Kids) then (
  some false)
  else (
  bif (decide (a0.KidTable ≠ a1.KidTable)) then (
  some false)
  else (
  bif (decide (a0.KidCol ≠ a1.KidCol)) then (
  some false)
  else (
  some true)))))))))

def laws_szIntS.f (a0 : List Int) (a1 : Int) : Option Int :=
  bif (decide ((w64 (a1 - (lenI a0))) < 0)) then (
  some (-1))
  else (
  some (w64 (a1 - (lenI a0))))

def laws_szSchema.f (a0 : Schema) (a1 : Int) : Option Int :=
  (laws_szIntS.f a0.Cols a1).bind fun r1 =>
  bif (decide (r1 < 0)) then (
  some (-1))
  else (
  some r1)

def laws_szCondS.f (a0 : List Cond) (a1 : Int) : Option Int :=
  bif (decide ((w64 (a1 - (lenI a0))) < 0)) then (
  some (-1))
  else (
  some (w64 (a1 - (lenI a0))))

def laws_szQuery.f (a0 : Query) (a1 : Int) : Option Int :=
  (laws_szCondS.f a0.Where a1).bind fun r1 =>
  bif (decide (r1 < 0)) then (
  some (-1))
  else (
  (laws_szIntS.f a0.Show r1).bind fun r3 =>
  bif (decide (r3 < 0)) then (
  some (-1))
  else (
  some r3))

def spec_l1In.f (a0 : Int) (a1 : Int) (a2 : Int) : Option Bool :=
  some (bo3 (decide (a1 ≤ a0)) (decide (a0 ≤ a2)) false)

def spec_SchemaOk.l0 (a0 : Schema) (K2 : Unit → Option Bool) : Nat → Int → Option Bool
  | 0, _ => none
  | k + 1, z5 =>
    bif (decide (z5 < (lenI a0.Cols))) then (
    (getO a0.Cols z5).bind fun x7 =>
    (spec_l1In.f x7 1 4).bind fun r8 =>
    bif (bo3 r8 false true) then (
    some false)
    else (
    spec_SchemaOk.l0 a0 K2 k (w64 (z5 + 1))))
    else (
    K2 ())
def spec_SchemaOk.f (a0 : Schema) : Option Bool :=
  joinK (fun (y1 : Unit) =>
  (spec_l1In.f (lenI a0.Cols) 1 3).bind fun r10 =>
  some r10) (fun K2 =>
  spec_SchemaOk.l0 a0 K2 (((lenI a0.Cols) - 0).toNat + 1) 0)

def spec_QueryOk.l0 (a1 : Query) (x20 : Int) (K22 : Unit → Option Bool) : Nat → Int → Option Bool
  | 0, _ => none
  | k + 1, z35 =>
    bif (decide (z35 < (lenI a1.Where))) then (
    (getO a1.Where z35).bind fun x37 =>
    (spec_l1In.f x37.Col 0 (w64 (x20 - 1))).bind fun r38 =>
    (gd (bo3 (bo3 r38 false true) false true) (spec_l1In.f x37.Op 1 4)).bind fun r39 =>
    (gd (bo3 (bo3 (bo3 r38 false true) true (bo3 r39 false true)) false true) (spec_l1In.f x37.V (-1000000000) 1000000000)).bind fun r40 =>
    bif (bo3 (bo3 (bo3 r38 false true) true (bo3 r39 false true)) true (bo3 r40 false true)) then (
    some false)
    else (
    spec_QueryOk.l0 a1 x20 K22 k (w64 (z35 + 1))))
    else (
    K22 ())
def spec_QueryOk.l1 (a1 : Query) (x20 : Int) (K55 : Unit → Option Bool) : Nat → Int → Option Bool
  | 0, _ => none
  | k + 1, z68 =>
    bif (decide (z68 < (lenI a1.Show))) then (
    (getO a1.Show z68).bind fun x70 =>
    (spec_l1In.f x70 0 (w64 (x20 - 1))).bind fun r71 =>
    (gd (bo3 (bo3 (bo3 r71 false true) false true) (decide (0 < z68)) false) (getO a1.Show (w64 (z68 - 1)))).bind fun x72 =>
    bif (bo3 (bo3 r71 false true) true (bo3 (decide (0 < z68)) (decide (x70 ≤ x72)) false)) then (
    some false)
    else (
    spec_QueryOk.l1 a1 x20 K55 k (w64 (z68 + 1))))
    else (
    K55 ())
def spec_QueryOk.f (a0 : Schema) (a1 : Query) : Option Bool :=
  (spec_SchemaOk.f a0).bind fun r1 =>
  (gd (bo3 (bo3 r1 false true) false true) (spec_l1In.f a1.Table 0 (w64 ((lenI a0.Cols) - 1)))).bind fun r2 =>
  bif (bo3 (bo3 (bo3 r1 false true) true (bo3 r2 false true)) true (decide (3 < (lenI a1.Where)))) then (
  some false)
  else (
  (getO a0.Cols a1.Table).bind fun x20 =>
  joinK (fun (y21 : Unit) =>
  joinK (fun (y54 : Unit) =>
  (spec_l1In.f a1.Order 0 x20).bind fun r94 =>
  (gd (bo3 (bo3 r94 false true) false true) (spec_l1In.f a1.First 0 24)).bind fun r95 =>
  bif (bo3 (bo3 (bo3 r94 false true) true (bo3 r95 false true)) true (bo3 (decide (a1.Order = 0)) a1.Down false)) then (
  some false)
  else (
  bif (bo3 a1.Kids false true) then (
  some (bo3 (decide (a1.KidTable = 0)) (decide (a1.KidCol = 0)) false))
  else (
  (spec_l1In.f a1.KidTable 0 (w64 ((lenI a0.Cols) - 1))).bind fun r120 =>
  (gd r120 (getO a0.Cols a1.KidTable)).bind fun x121 =>
  (gd r120 (spec_l1In.f a1.KidCol 0 (w64 (x121 - 1)))).bind fun r122 =>
  some (bo3 r120 r122 false)))) (fun K55 =>
  spec_QueryOk.l1 a1 x20 K55 (((lenI a1.Show) - 0).toNat + 1) 0)) (fun K22 =>
  spec_QueryOk.l0 a1 x20 K22 (((lenI a1.Where) - 0).toNat + 1) 0))

def spec_l2Digits.l0 (K4 : Bool → ByteArray → Option ByteArray) : Nat → Int → Bool → ByteArray → Option ByteArray
  | 0, _, _, _ => none
  | k + 1, z8, z9, z10 =>
    bif (decide (z8 ≠ 0)) then (
    bif (decide ((Int.tmod z8 10) < 0)) then (
    (some [(IntKind.wrap .u8 (w64 (48 + (w64 (0 - (Int.tmod z8 10))))))]).bind fun l13 =>
    (some (bsO l13)).bind fun s14 =>
    (smO s14 z10).bind fun u15 =>
    spec_l2Digits.l0 K4 k (w64 (Int.tdiv z8 10)) z9 (Ls.sa s14 z10))
    else (
    (some [(IntKind.wrap .u8 (w64 (48 + (Int.tmod z8 10))))]).bind fun l16 =>
    (some (bsO l16)).bind fun s17 =>
    (smO s17 z10).bind fun u18 =>
    spec_l2Digits.l0 K4 k (w64 (Int.tdiv z8 10)) z9 (Ls.sa s17 z10)))
    else (
    K4 z9 z10)
def spec_l2Digits.f (a0 : Int) : Option ByteArray :=
  bif (decide (a0 = 0)) then (
  some (ByteArray.mk #[48]))
  else (
  joinK (fun (y2 : Bool) (y3 : ByteArray) =>
  bif y2 then (
  (smO (ByteArray.mk #[45]) y3).bind fun u20 =>
  some (Ls.sa (ByteArray.mk #[45]) y3))
  else (
  some y3)) (fun K4 =>
  spec_l2Digits.l0 K4 30 a0 (decide (a0 < 0)) (ByteArray.mk #[])))

def spec_l10Signs.f  : Option ((List ByteArray)) :=
  (some [(ByteArray.mk #[]), (ByteArray.mk #[61]), (ByteArray.mk #[60]), (ByteArray.mk #[62]), (ByteArray.mk #[33])]).bind fun l1 =>
  some l1

def spec_QueryText.l0 (a1 : Query) (K6 : ByteArray → Option ByteArray) : Nat → ByteArray → Int → Option ByteArray
  | 0, _, _ => none
  | k + 1, z18, z19 =>
    bif (decide (z19 < (lenI a1.Where))) then (
    (getO a1.Where z19).bind fun x21 =>
    (addO z18 (ByteArray.mk #[32, 119, 104, 101, 114, 101, 32])).bind fun s22 =>
    (spec_l2Digits.f x21.Col).bind fun r23 =>
    (addO s22 r23).bind fun s24 =>
    (addO s24 (ByteArray.mk #[32])).bind fun s25 =>
    (spec_l10Signs.f).bind fun r26 =>
    (getO r26 x21.Op).bind fun x27 =>
    (addO s25 x27).bind fun s28 =>
    (addO s28 (ByteArray.mk #[32])).bind fun s29 =>
    (spec_l2Digits.f x21.V).bind fun r30 =>
    (addO s29 r30).bind fun s31 =>
    spec_QueryText.l0 a1 K6 k s31 (w64 (z19 + 1)))
    else (
    K6 z18)
def spec_QueryText.l1 (a1 : Query) (K47 : ByteArray → Option ByteArray) : Nat → ByteArray → Int → Option ByteArray
  | 0, _, _ => none
  | k + 1, z59, z60 =>
    bif (decide (z60 < (lenI a1.Show))) then (
    joinK (fun (y62 : ByteArray) =>
    (addO y62 (ByteArray.mk #[32])).bind fun s66 =>
    (getO a1.Show z60).bind fun x67 =>
    (spec_l2Digits.f x67).bind fun r68 =>
    (addO s66 r68).bind fun s69 =>
    spec_QueryText.l1 a1 K47 k s69 (w64 (z60 + 1))) (fun K63 =>
    bif (decide (z60 = 0)) then (
    (addO z59 (ByteArray.mk #[32, 115, 104, 111, 119])).bind fun s65 =>
    K63 s65)
    else (
    K63 z59)))
    else (
    K47 z59)
def spec_QueryText.f (a0 : Schema) (a1 : Query) : Option ByteArray :=
  (spec_QueryOk.f a0 a1).bind fun r1 =>
  bif (bo3 r1 false true) then (
  some (ByteArray.mk #[]))
  else (
  (spec_l2Digits.f a1.Table).bind fun r3 =>
  (addO (ByteArray.mk #[102, 114, 111, 109, 32]) r3).bind fun s4 =>
  joinK (fun (y5 : ByteArray) =>
  joinK (fun (y32 : ByteArray) =>
  joinK (fun (y40 : ByteArray) =>
  joinK (fun (y46 : ByteArray) =>
  bif a1.Kids then (
  (addO y46 (ByteArray.mk #[32, 107, 105, 100, 115, 32])).bind fun s71 =>
  (spec_l2Digits.f a1.KidTable).bind fun r72 =>
  (addO s71 r72).bind fun s73 =>
  (addO s73 (ByteArray.mk #[32])).bind fun s74 =>
  (spec_l2Digits.f a1.KidCol).bind fun r75 =>
  (addO s74 r75).bind fun s76 =>
  some s76)
  else (
  some y46)) (fun K47 =>
  spec_QueryText.l1 a1 K47 (((lenI a1.Show) - 0).toNat + 1) y40 0)) (fun K41 =>
  bif (decide (a1.First ≠ 0)) then (
  (addO y32 (ByteArray.mk #[32, 102, 105, 114, 115, 116, 32])).bind fun s43 =>
  (spec_l2Digits.f a1.First).bind fun r44 =>
  (addO s43 r44).bind fun s45 =>
  K41 s45)
  else (
  K41 y32))) (fun K33 =>
  bif (decide (a1.Order ≠ 0)) then (
  (addO y5 (ByteArray.mk #[32, 111, 114, 100, 101, 114, 32])).bind fun s35 =>
  (spec_l2Digits.f (w64 (a1.Order - 1))).bind fun r36 =>
  (addO s35 r36).bind fun s37 =>
  bif a1.Down then (
  (addO s37 (ByteArray.mk #[32, 100, 111, 119, 110])).bind fun s39 =>
  K33 s39)
  else (
  K33 s37))
  else (
  K33 y5))) (fun K6 =>
  spec_QueryText.l0 a1 K6 (((lenI a1.Where) - 0).toNat + 1) s4 0))

def laws_toIntS.l0 (a0 : List Int) : Nat → (List Int) → Int → Option ((List Int))
  | 0, _, _ => none
  | k + 1, z5, z6 =>
    bif (decide (z6 < (lenI a0))) then (
    (getO a0 z6).bind fun x8 =>
    (getO z5 z6).bind fun x9 =>
    (some (setI z5 z6 x8)).bind fun l10 =>
    laws_toIntS.l0 a0 k l10 (w64 (z6 + 1)))
    else (
    some z5)
def laws_toIntS.f (a0 : List Int) : Option ((List Int)) :=
  (mkO 8 (lenI a0) 0).bind fun l1 =>
  laws_toIntS.l0 a0 (((lenI a0) - 0).toNat + 1) l1 0

def laws_toSchema.f (a0 : Schema) : Option Schema :=
  (laws_toIntS.f a0.Cols).bind fun r1 =>
  some (Schema.mk r1)

def laws_toCond.f (a0 : Cond) : Option Cond :=
  some a0

def laws_toCondS.l0 (a0 : List Cond) : Nat → (List Cond) → Int → Option ((List Cond))
  | 0, _, _ => none
  | k + 1, z5, z6 =>
    bif (decide (z6 < (lenI a0))) then (
    (getO a0 z6).bind fun x8 =>
    (laws_toCond.f x8).bind fun r9 =>
    (getO z5 z6).bind fun x10 =>
    (some (setI z5 z6 r9)).bind fun l11 =>
    laws_toCondS.l0 a0 k l11 (w64 (z6 + 1)))
    else (
    some z5)
def laws_toCondS.f (a0 : List Cond) : Option ((List Cond)) :=
  (mkO 24 (lenI a0) (Cond.mk 0 0 0)).bind fun l1 =>
  laws_toCondS.l0 a0 (((lenI a0) - 0).toNat + 1) l1 0

def laws_toQuery.f (a0 : Query) : Option Query :=
  (laws_toCondS.f a0.Where).bind fun r1 =>
  (laws_toIntS.f a0.Show).bind fun r2 =>
  some (Query.mk a0.Table r1 a0.Order a0.Down a0.First r2 a0.Kids a0.KidTable a0.KidCol)

def impl_within.f (a0 : Int) (a1 : Int) (a2 : Int) : Option Bool :=
  some (bo3 (decide (a1 ≤ a0)) (decide (a0 ≤ a2)) false)

def impl_SchemaOk.l0 (a0 : Schema) (K2 : Unit → Option Bool) : Nat → Int → Option Bool
  | 0, _ => none
  | k + 1, z7 =>
    bif (decide (z7 < (lenI a0.Cols))) then (
    (getO a0.Cols z7).bind fun x9 =>
    (impl_within.f x9 1 4).bind fun r10 =>
    bif (bo3 r10 false true) then (
    some false)
    else (
    impl_SchemaOk.l0 a0 K2 k (w64 (z7 + 1))))
    else (
    K2 ())
def impl_SchemaOk.f (a0 : Schema) : Option Bool :=
  joinK (fun (y1 : Unit) =>
  (impl_within.f (lenI a0.Cols) 1 3).bind fun r12 =>
  some r12) (fun K2 =>
  impl_SchemaOk.l0 a0 K2 (((lenI a0.Cols) - 0).toNat + 1) 0)

def impl_hasTable.f (a0 : Schema) (a1 : Int) : Option Bool :=
  (impl_within.f a1 0 (w64 ((lenI a0.Cols) - 1))).bind fun r1 =>
  some r1

def impl_isNum.f (a0 : Int) : Option Bool :=
  (impl_within.f a0 (-1000000000) 1000000000).bind fun r1 =>
  some r1

def impl_kidsFit.f (a0 : Schema) (a1 : Query) : Option Bool :=
  bif (bo3 a1.Kids false true) then (
  some (bo3 (decide (a1.KidTable = 0)) (decide (a1.KidCol = 0)) false))
  else (
  (impl_hasTable.f a0 a1.KidTable).bind fun r7 =>
  (gd r7 (getO a0.Cols a1.KidTable)).bind fun x8 =>
  (gd r7 (impl_within.f a1.KidCol 0 (w64 (x8 - 1)))).bind fun r9 =>
  some (bo3 r7 r9 false))

def impl_QueryOk.l0 (a1 : Query) (x11 : Int) (K13 : Unit → Option Bool) : Nat → Int → Option Bool
  | 0, _ => none
  | k + 1, z28 =>
    bif (decide (z28 < (lenI a1.Where))) then (
    (getO a1.Where z28).bind fun x30 =>
    (impl_within.f x30.Col 0 (w64 (x11 - 1))).bind fun r31 =>
    (gd (bo3 (bo3 r31 false true) false true) (impl_within.f x30.Op 1 4)).bind fun r32 =>
    (gd (bo3 (bo3 (bo3 r31 false true) true (bo3 r32 false true)) false true) (impl_isNum.f x30.V)).bind fun r33 =>
    bif (bo3 (bo3 (bo3 r31 false true) true (bo3 r32 false true)) true (bo3 r33 false true)) then (
    some false)
    else (
    impl_QueryOk.l0 a1 x11 K13 k (w64 (z28 + 1))))
    else (
    K13 ())
def impl_QueryOk.l1 (a1 : Query) (x11 : Int) (K48 : Unit → Option Bool) : Nat → Int → Option Bool
  | 0, _ => none
  | k + 1, z63 =>
    bif (decide (z63 < (lenI a1.Show))) then (
    (getO a1.Show z63).bind fun x65 =>
    (impl_within.f x65 0 (w64 (x11 - 1))).bind fun r66 =>
    (gd (bo3 (bo3 (bo3 r66 false true) false true) (decide (0 < z63)) false) (getO a1.Show (w64 (z63 - 1)))).bind fun x67 =>
    bif (bo3 (bo3 r66 false true) true (bo3 (decide (0 < z63)) (decide (x65 ≤ x67)) false)) then (
    some false)
    else (
    impl_QueryOk.l1 a1 x11 K48 k (w64 (z63 + 1))))
    else (
    K48 ())
def impl_QueryOk.f (a0 : Schema) (a1 : Query) : Option Bool :=
  (impl_SchemaOk.f a0).bind fun r1 =>
  (gd (bo3 (bo3 r1 false true) false true) (impl_hasTable.f a0 a1.Table)).bind fun r2 =>
  bif (bo3 (bo3 r1 false true) true (bo3 r2 false true)) then (
  some false)
  else (
  (getO a0.Cols a1.Table).bind fun x11 =>
  joinK (fun (y12 : Unit) =>
  joinK (fun (y47 : Unit) =>
  (impl_within.f a1.Order 0 x11).bind fun r85 =>
  (gd (bo3 (decide ((lenI a1.Where) ≤ 3)) (bo3 r85 (bo3 (bo3 a1.Down false true) true (decide (0 < a1.Order))) false) false) (impl_within.f a1.First 0 24)).bind fun r98 =>
  (gd (bo3 (bo3 (decide ((lenI a1.Where) ≤ 3)) (bo3 r85 (bo3 (bo3 a1.Down false true) true (decide (0 < a1.Order))) false) false) r98 false) (impl_kidsFit.f a0 a1)).bind fun r99 =>
  some (bo3 (bo3 (bo3 (decide ((lenI a1.Where) ≤ 3)) (bo3 r85 (bo3 (bo3 a1.Down false true) true (decide (0 < a1.Order))) false) false) r98 false) r99 false)) (fun K48 =>
  impl_QueryOk.l1 a1 x11 K48 (((lenI a1.Show) - 0).toNat + 1) 0)) (fun K13 =>
  impl_QueryOk.l0 a1 x11 K13 (((lenI a1.Where) - 0).toNat + 1) 0))

def strconv_Itoa.f (a0 : Int) : Option ByteArray := itoaO a0

def impl_digits.f (a0 : Int) : Option ByteArray :=
  (strconv_Itoa.f a0).bind fun r1 =>
  some r1

def strings_Join.f (a0 : List ByteArray) (a1 : ByteArray) : Option ByteArray := joinO a0 a1

def impl_QueryText.l0 (a1 : Query) (K6 : (List ByteArray) → Option ByteArray) : Nat → (List ByteArray) → Int → Option ByteArray
  | 0, _, _ => none
  | k + 1, z20, z21 =>
    bif (decide (z21 < (lenI a1.Where))) then (
    (getO a1.Where z21).bind fun x23 =>
    (impl_digits.f x23.Col).bind fun r24 =>
    (cutS (ByteArray.mk #[61, 60, 62, 33]) (w64 (x23.Op - 1)) x23.Op).bind fun u25 =>
    (impl_digits.f x23.V).bind fun r26 =>
    (some [(ByteArray.mk #[119, 104, 101, 114, 101]), r24, (Ls.ss (ByteArray.mk #[61, 60, 62, 33]) (w64 (x23.Op - 1)) x23.Op), r26]).bind fun l27 =>
    (appO 16 z20 l27).bind fun l28 =>
    impl_QueryText.l0 a1 K6 k l28 (w64 (z21 + 1)))
    else (
    K6 z20)
def impl_QueryText.l1 (a1 : Query) (K45 : (List ByteArray) → Option ByteArray) : Nat → (List ByteArray) → Int → Option ByteArray
  | 0, _, _ => none
  | k + 1, z62, z63 =>
    bif (decide (z63 < (lenI a1.Show))) then (
    (getO a1.Show z63).bind fun x65 =>
    (impl_digits.f x65).bind fun r66 =>
    (some [r66]).bind fun l67 =>
    (appO 16 z62 l67).bind fun l68 =>
    impl_QueryText.l1 a1 K45 k l68 (w64 (z63 + 1)))
    else (
    K45 z62)
def impl_QueryText.f (a0 : Schema) (a1 : Query) : Option ByteArray :=
  (impl_QueryOk.f a0 a1).bind fun r1 =>
  bif (bo3 r1 false true) then (
  some (ByteArray.mk #[]))
  else (
  (impl_digits.f a1.Table).bind fun r3 =>
  (some [(ByteArray.mk #[102, 114, 111, 109]), r3]).bind fun l4 =>
  joinK (fun (y5 : List ByteArray) =>
  joinK (fun (y29 : List ByteArray) =>
  joinK (fun (y38 : List ByteArray) =>
  joinK (fun (y44 : List ByteArray) =>
  joinK (fun (y69 : List ByteArray) =>
  (strings_Join.f y69 (ByteArray.mk #[32])).bind fun r76 =>
  some r76) (fun K70 =>
  bif a1.Kids then (
  (impl_digits.f a1.KidTable).bind fun r72 =>
  (impl_digits.f a1.KidCol).bind fun r73 =>
  (some [(ByteArray.mk #[107, 105, 100, 115]), r72, r73]).bind fun l74 =>
  (appO 16 y44 l74).bind fun l75 =>
  K70 l75)
  else (
  K70 y44))) (fun K45 =>
  bif (decide (0 < (lenI a1.Show))) then (
  (some [(ByteArray.mk #[115, 104, 111, 119])]).bind fun l47 =>
  (appO 16 y38 l47).bind fun l48 =>
  impl_QueryText.l1 a1 K45 (((lenI a1.Show) - 0).toNat + 1) l48 0)
  else (
  K45 y38))) (fun K39 =>
  bif (decide (a1.First ≠ 0)) then (
  (impl_digits.f a1.First).bind fun r41 =>
  (some [(ByteArray.mk #[102, 105, 114, 115, 116]), r41]).bind fun l42 =>
  (appO 16 y29 l42).bind fun l43 =>
  K39 l43)
  else (
  K39 y29))) (fun K30 =>
  bif (decide (a1.Order ≠ 0)) then (
  (impl_digits.f (w64 (a1.Order - 1))).bind fun r32 =>
  (some [(ByteArray.mk #[111, 114, 100, 101, 114]), r32]).bind fun l33 =>
  (appO 16 y5 l33).bind fun l34 =>
  bif a1.Down then (
  (some [(ByteArray.mk #[100, 111, 119, 110])]).bind fun l36 =>
  (appO 16 l34 l36).bind fun l37 =>
  K30 l37)
  else (
  K30 l34))
  else (
  K30 y5))) (fun K6 =>
  impl_QueryText.l0 a1 K6 (((lenI a1.Where) - 0).toNat + 1) l4 0))

def laws_FnExactQueryText.f (a0 : Schema) (a1 : Query) : Option Bool :=
  (laws_szSchema.f a0 1048576).bind fun r1 =>
  bif (decide (r1 < 0)) then (
  some true)
  else (
  (laws_szQuery.f a1 r1).bind fun r3 =>
  bif (decide (r3 < 0)) then (
  some true)
  else (
  (laws_toSchema.f a0).bind fun r5 =>
  (laws_toQuery.f a1).bind fun r6 =>
  (spec_QueryText.f r5 r6).bind fun r7 =>
  (laws_toSchema.f a0).bind fun r8 =>
  (laws_toQuery.f a1).bind fun r9 =>
  (impl_QueryText.f r8 r9).bind fun r10 =>
  bif (Ls.sc .neq r10 r7) then (
  some false)
  else (
  (laws_toSchema.f a0).bind fun r12 =>
  (laws_eqSchema.f r8 r12).bind fun r13 =>
  bif (bo3 r13 false true) then (
  some false)
  else (
  (laws_toQuery.f a1).bind fun r15 =>
  (laws_eqQuery.f r9 r15).bind fun r16 =>
  bif (bo3 r16 false true) then (
  some false)
  else (
  some true)))))

end Go.Proofs.YtjnahdkalbolkaaDoor.L
