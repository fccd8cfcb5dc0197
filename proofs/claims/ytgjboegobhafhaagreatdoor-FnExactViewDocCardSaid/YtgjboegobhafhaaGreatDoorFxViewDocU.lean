/- The pure functions of the program. -/
import Derived.Test.YtgjboegobhafhaaGreatDoorSl48
namespace Go.Proofs.YtgjboegobhafhaaGreatDoor.L
open Go
set_option linter.unusedVariables false
structure Cond where
  Col : Int
  Op : Int
  V : Int
  deriving Inhabited, DecidableEq
structure Query where
  Table : Int
  Where : List Cond
  Order : Int
  Down : Bool
  First : Int
  Show : List Int
  Kids : Bool
  KidTable : Int
  KidCol : Int
  deriving Inhabited, DecidableEq
structure Row where
  Id : Int
  Cells : List Int
  deriving Inhabited, DecidableEq
structure Kid where
  Id : Int
  N : Int
  deriving Inhabited, DecidableEq
structure View where
  Q : Query
  Rows : List Row
  Kids : List Kid
  deriving Inhabited, DecidableEq
structure Json where
  Kind : Int
  N : Int
  S : ByteArray
  List_ : List Json
  Names : List ByteArray
instance : Inhabited Json := ⟨⟨0, 0, ByteArray.empty, [], []⟩⟩
noncomputable instance : DecidableEq Json := fun _ _ => Classical.propDecidable _

def laws_eqCond.f (a0 : Cond) (a1 : Cond) : Option Bool :=
  bif (decide (a0.Col ≠ a1.Col)) then (
  some false)
  else (
  bif (decide (a0.Op ≠ a1.Op)) then (
  some false)
  else (
  bif (decide (a0.V ≠ a1.V)) then (
  some false)
  else (
  some true)))

def laws_eqCondS.l0 (a0 : List Cond) (a1 : List Cond) : Nat → Int → Option Bool
  | 0, _ => none
  | k + 1, z5 =>
    bif (decide (z5 < (lenI a0))) then (
    (getO a0 z5).bind fun x7 =>
    (getO a1 z5).bind fun x8 =>
    (laws_eqCond.f x7 x8).bind fun r9 =>
    bif (bo3 r9 false true) then (
    some false)
    else (
    laws_eqCondS.l0 a0 a1 k (w64 (z5 + 1))))
    else (
    some true)
def laws_eqCondS.f (a0 : List Cond) (a1 : List Cond) : Option Bool :=
  bif (decide ((lenI a0) ≠ (lenI a1))) then (
  some false)
  else (
  laws_eqCondS.l0 a0 a1 (((lenI a0) - 0).toNat + 1) 0)

def laws_eqIntS.l0 (a0 : List Int) (a1 : List Int) : Nat → Int → Option Bool
  | 0, _ => none
  | k + 1, z5 =>
    bif (decide (z5 < (lenI a0))) then (
    (getO a0 z5).bind fun x7 =>
    (getO a1 z5).bind fun x8 =>
    bif (decide (x7 ≠ x8)) then (
    some false)
    else (
    laws_eqIntS.l0 a0 a1 k (w64 (z5 + 1))))
    else (
    some true)
def laws_eqIntS.f (a0 : List Int) (a1 : List Int) : Option Bool :=
  bif (decide ((lenI a0) ≠ (lenI a1))) then (
  some false)
  else (
  laws_eqIntS.l0 a0 a1 (((lenI a0) - 0).toNat + 1) 0)

def laws_eqQuery.f (a0 : Query) (a1 : Query) : Option Bool :=
  bif (decide (a0.Table ≠ a1.Table)) then (
  some false)
  else (
  (laws_eqCondS.f a0.Where a1.Where).bind fun r2 =>
  bif (bo3 r2 false true) then (
  some false)
  else (
  bif (decide (a0.Order ≠ a1.Order)) then (
  some false)
  else (
  bif (bo3 a0.Down (bo3 a1.Down false true) a1.Down) then (
  some false)
  else (
  bif (decide (a0.First ≠ a1.First)) then (
  some false)
  else (
  (laws_eqIntS.f a0.Show a1.Show).bind fun r7 =>
  bif (bo3 r7 false true) then (
  some false)
  else (
  bif (bo3 a0.Kids (bo3 a1.Kids false true) a1.Kids) then (
  some false)
  else (
  bif (decide (a0.KidTable ≠ a1.KidTable)) then (
  some false)
  else (
  bif (decide (a0.KidCol ≠ a1.KidCol)) then (
  some false)
  else (
  some true)))))))))

def laws_eqRow.f (a0 : Row) (a1 : Row) : Option Bool :=
  bif (decide (a0.Id ≠ a1.Id)) then (
  some false)
  else (
  (laws_eqIntS.f a0.Cells a1.Cells).bind fun r2 =>
  bif (bo3 r2 false true) then (
  some false)
  else (
  some true))

def laws_eqRowS.l0 (a0 : List Row) (a1 : List Row) : Nat → Int → Option Bool
  | 0, _ => none
  | k + 1, z5 =>
    bif (decide (z5 < (lenI a0))) then (
    (getO a0 z5).bind fun x7 =>
    (getO a1 z5).bind fun x8 =>
    (laws_eqRow.f x7 x8).bind fun r9 =>
    bif (bo3 r9 false true) then (
    some false)
    else (
    laws_eqRowS.l0 a0 a1 k (w64 (z5 + 1))))
    else (
    some true)
def laws_eqRowS.f (a0 : List Row) (a1 : List Row) : Option Bool :=
  bif (decide ((lenI a0) ≠ (lenI a1))) then (
  some false)
  else (
  laws_eqRowS.l0 a0 a1 (((lenI a0) - 0).toNat + 1) 0)

def laws_eqKid.f (a0 : Kid) (a1 : Kid) : Option Bool :=
  bif (decide (a0.Id ≠ a1.Id)) then (
  some false)
  else (
  bif (decide (a0.N ≠ a1.N)) then (
  some false)
  else (
  some true))

def laws_eqKidS.l0 (a0 : List Kid) (a1 : List Kid) : Nat → Int → Option Bool
  | 0, _ => none
  | k + 1, z5 =>
    bif (decide (z5 < (lenI a0))) then (
    (getO a0 z5).bind fun x7 =>
    (getO a1 z5).bind fun x8 =>
    (laws_eqKid.f x7 x8).bind fun r9 =>
    bif (bo3 r9 false true) then (
    some false)
    else (
    laws_eqKidS.l0 a0 a1 k (w64 (z5 + 1))))
    else (
    some true)
def laws_eqKidS.f (a0 : List Kid) (a1 : List Kid) : Option Bool :=
  bif (decide ((lenI a0) ≠ (lenI a1))) then (
  some false)
  else (
  laws_eqKidS.l0 a0 a1 (((lenI a0) - 0).toNat + 1) 0)

def laws_eqView.f (a0 : View) (a1 : View) : Option Bool :=
  (laws_eqQuery.f a0.Q a1.Q).bind fun r1 =>
  bif (bo3 r1 false true) then (
  some false)
  else (
  (laws_eqRowS.f a0.Rows a1.Rows).bind fun r3 =>
  bif (bo3 r3 false true) then (
  some false)
  else (
  (laws_eqKidS.f a0.Kids a1.Kids).bind fun r5 =>
  bif (bo3 r5 false true) then (
  some false)
  else (
  some true)))

def laws_markCondS.l0  : Nat → (List Cond) → Int → Int → Option ((List Cond) × Int)
  | 0, _, _, _ => none
  | k + 1, z4, z5, z6 =>
    bif (decide (z6 < (lenI z4))) then (
    (getO z4 z6).bind fun x8 =>
    (some (setI z4 z6 (Cond.mk z5 x8.Op x8.V))).bind fun l9 =>
    (getO l9 z6).bind fun x10 =>
    (some (setI l9 z6 (Cond.mk x10.Col (w64 (z5 + 1)) x10.V))).bind fun l11 =>
    (getO l11 z6).bind fun x12 =>
    (some (setI l11 z6 (Cond.mk x12.Col x12.Op (w64 ((w64 (z5 + 1)) + 1))))).bind fun l13 =>
    laws_markCondS.l0 k l13 (w64 ((w64 ((w64 (z5 + 1)) + 1)) + 1)) (w64 (z6 + 1)))
    else (
    some (z4, z5))
def laws_markCondS.f (a0 : List Cond) (a1 : Int) : Option ((List Cond) × Int) :=
  laws_markCondS.l0 (((lenI a0) - 0).toNat + 1) a0 a1 0

def laws_markIntS.l0  : Nat → (List Int) → Int → Int → Option ((List Int) × Int)
  | 0, _, _, _ => none
  | k + 1, z4, z5, z6 =>
    bif (decide (z6 < (lenI z4))) then (
    (getO z4 z6).bind fun x8 =>
    (some (setI z4 z6 z5)).bind fun l9 =>
    laws_markIntS.l0 k l9 (w64 (z5 + 1)) (w64 (z6 + 1)))
    else (
    some (z4, z5))
def laws_markIntS.f (a0 : List Int) (a1 : Int) : Option ((List Int) × Int) :=
  laws_markIntS.l0 (((lenI a0) - 0).toNat + 1) a0 a1 0

def laws_markQuery.f (a0 : Query) (a1 : Int) : Option (Query × Int) :=
  (laws_markCondS.f a0.Where a1).bind fun r1 =>
  (laws_markIntS.f a0.Show r1.2).bind fun r2 =>
  some ((Query.mk a0.Table r1.1 a0.Order a0.Down a0.First r2.1 a0.Kids a0.KidTable a0.KidCol), r2.2)

def laws_markRowS.l0  : Nat → (List Row) → Int → Int → Option ((List Row) × Int)
  | 0, _, _, _ => none
  | k + 1, z4, z5, z6 =>
    bif (decide (z6 < (lenI z4))) then (
    (getO z4 z6).bind fun x8 =>
    (some (setI z4 z6 (Row.mk z5 x8.Cells))).bind fun l9 =>
    (getO l9 z6).bind fun x10 =>
    (laws_markIntS.f x10.Cells (w64 (z5 + 1))).bind fun r11 =>
    (some (setI l9 z6 (Row.mk x10.Id r11.1))).bind fun l12 =>
    laws_markRowS.l0 k l12 r11.2 (w64 (z6 + 1)))
    else (
    some (z4, z5))
def laws_markRowS.f (a0 : List Row) (a1 : Int) : Option ((List Row) × Int) :=
  laws_markRowS.l0 (((lenI a0) - 0).toNat + 1) a0 a1 0

def laws_markKidS.l0  : Nat → (List Kid) → Int → Int → Option ((List Kid) × Int)
  | 0, _, _, _ => none
  | k + 1, z4, z5, z6 =>
    bif (decide (z6 < (lenI z4))) then (
    (getO z4 z6).bind fun x8 =>
    (some (setI z4 z6 (Kid.mk z5 x8.N))).bind fun l9 =>
    (getO l9 z6).bind fun x10 =>
    (some (setI l9 z6 (Kid.mk x10.Id (w64 (z5 + 1))))).bind fun l11 =>
    laws_markKidS.l0 k l11 (w64 ((w64 (z5 + 1)) + 1)) (w64 (z6 + 1)))
    else (
    some (z4, z5))
def laws_markKidS.f (a0 : List Kid) (a1 : Int) : Option ((List Kid) × Int) :=
  laws_markKidS.l0 (((lenI a0) - 0).toNat + 1) a0 a1 0

def laws_markView.f (a0 : View) (a1 : Int) : Option (View × Int) :=
  (laws_markQuery.f a0.Q a1).bind fun r1 =>
  (laws_markRowS.f a0.Rows r1.2).bind fun r2 =>
  (laws_markKidS.f a0.Kids r2.2).bind fun r3 =>
  some ((View.mk (Query.mk a0.Q.Table r1.1.Where a0.Q.Order a0.Q.Down a0.Q.First r1.1.Show a0.Q.Kids a0.Q.KidTable a0.Q.KidCol) r2.1 r3.1), r3.2)

def laws_markText.l0  : Nat → Int → ByteArray → Option ByteArray
  | 0, _, _ => none
  | k + 1, z4, z5 =>
    bif (decide (0 < z4)) then (
    (some [(IntKind.wrap .u8 (w64 (48 + (Int.tmod z4 10))))]).bind fun l7 =>
    (some (bsO l7)).bind fun s8 =>
    (smO s8 z5).bind fun u9 =>
    laws_markText.l0 k (w64 (Int.tdiv z4 10)) (Ls.sa s8 z5))
    else (
    (smO (ByteArray.mk #[109]) z5).bind fun u10 =>
    some (Ls.sa (ByteArray.mk #[109]) z5))
def laws_markText.f (a0 : Int) : Option ByteArray :=
  bif (decide (a0 ≤ 0)) then (
  some (ByteArray.mk #[109, 48]))
  else (
  laws_markText.l0 ((a0 - 0).toNat + 1) a0 (ByteArray.mk #[]))

def laws_markStringS.l0  : Nat → (List ByteArray) → Int → Int → Option ((List ByteArray) × Int)
  | 0, _, _, _ => none
  | k + 1, z4, z5, z6 =>
    bif (decide (z6 < (lenI z4))) then (
    (laws_markText.f z5).bind fun r8 =>
    (getO z4 z6).bind fun x9 =>
    (some (setI z4 z6 r8)).bind fun l10 =>
    laws_markStringS.l0 k l10 (w64 (z5 + 1)) (w64 (z6 + 1)))
    else (
    some (z4, z5))
def laws_markStringS.f (a0 : List ByteArray) (a1 : Int) : Option ((List ByteArray) × Int) :=
  laws_markStringS.l0 (((lenI a0) - 0).toNat + 1) a0 a1 0

def laws_markJsonS.l0 (self : (List Json) → Int → Option ((List Json) × Int)) : Nat → (List Json) → Int → Int → Option ((List Json) × Int)
  | 0, _, _, _ => none
  | k + 1, z4, z5, z6 =>
    bif (decide (z6 < (lenI z4))) then (
    (getO z4 z6).bind fun x8 =>
    (some (setI z4 z6 (Json.mk z5 x8.N x8.S x8.List_ x8.Names))).bind fun l9 =>
    (getO l9 z6).bind fun x10 =>
    (some (setI l9 z6 (Json.mk x10.Kind (w64 (z5 + 1)) x10.S x10.List_ x10.Names))).bind fun l11 =>
    (laws_markText.f (w64 ((w64 (z5 + 1)) + 1))).bind fun r12 =>
    (getO l11 z6).bind fun x13 =>
    (some (setI l11 z6 (Json.mk x13.Kind x13.N r12 x13.List_ x13.Names))).bind fun l14 =>
    (getO l14 z6).bind fun x15 =>
    (self x15.List_ (w64 ((w64 ((w64 (z5 + 1)) + 1)) + 1))).bind fun r16 =>
    (some (setI l14 z6 (Json.mk x15.Kind x15.N x15.S r16.1 x15.Names))).bind fun l17 =>
    (getO l17 z6).bind fun x18 =>
    (laws_markStringS.f x18.Names r16.2).bind fun r19 =>
    (some (setI l17 z6 (Json.mk x18.Kind x18.N x18.S x18.List_ r19.1))).bind fun l20 =>
    laws_markJsonS.l0 self k l20 r19.2 (w64 (z6 + 1)))
    else (
    some (z4, z5))
def laws_markJsonS.b (self : (List Json) → Int → Option ((List Json) × Int)) (a0 : List Json) (a1 : Int) : Option ((List Json) × Int) :=
  laws_markJsonS.l0 self (((lenI a0) - 0).toNat + 1) a0 a1 0
def laws_markJsonS.g : Nat → (List Json) → Int → Option ((List Json) × Int)
  | 0 => fun _ _ => none
  | k + 1 => laws_markJsonS.b (laws_markJsonS.g k)
def laws_markJsonS.f (a0 : List Json) (a1 : Int) : Option ((List Json) × Int) := laws_markJsonS.g 1000 a0 a1

def laws_markJson.f (a0 : Json) (a1 : Int) : Option (Json × Int) :=
  (laws_markJsonS.f a0.List_ a1).bind fun r1 =>
  (laws_markStringS.f a0.Names r1.2).bind fun r2 =>
  some ((Json.mk a0.Kind a0.N a0.S r1.1 r2.1), r2.2)

def laws_heldStringS.l0 (a0 : List ByteArray) : Nat → Int → Int → Option Int
  | 0, _, _ => none
  | k + 1, z4, z5 =>
    bif (decide (z5 < (lenI a0))) then (
    (getO a0 z5).bind fun x7 =>
    (laws_markText.f z4).bind fun r8 =>
    bif (Ls.sc .neq x7 r8) then (
    some (-1))
    else (
    laws_heldStringS.l0 a0 k (w64 (z4 + 1)) (w64 (z5 + 1))))
    else (
    some z4)
def laws_heldStringS.f (a0 : List ByteArray) (a1 : Int) : Option Int :=
  laws_heldStringS.l0 a0 (((lenI a0) - 0).toNat + 1) a1 0

def laws_heldJsonS.l0 (a0 : List Json) (self : (List Json) → Int → Option Int) : Nat → Int → Int → Option Int
  | 0, _, _ => none
  | k + 1, z4, z5 =>
    bif (decide (z5 < (lenI a0))) then (
    (getO a0 z5).bind fun x7 =>
    bif (decide (x7.Kind ≠ z4)) then (
    some (-1))
    else (
    bif (decide (x7.N ≠ (w64 (z4 + 1)))) then (
    some (-1))
    else (
    (laws_markText.f (w64 ((w64 (z4 + 1)) + 1))).bind fun r10 =>
    bif (Ls.sc .neq x7.S r10) then (
    some (-1))
    else (
    (self x7.List_ (w64 ((w64 ((w64 (z4 + 1)) + 1)) + 1))).bind fun r12 =>
    bif (decide (r12 < 0)) then (
    some (-1))
    else (
    (laws_heldStringS.f x7.Names r12).bind fun r14 =>
    bif (decide (r14 < 0)) then (
    some (-1))
    else (
    laws_heldJsonS.l0 a0 self k r14 (w64 (z5 + 1))))))))
    else (
    some z4)
def laws_heldJsonS.b (self : (List Json) → Int → Option Int) (a0 : List Json) (a1 : Int) : Option Int :=
  laws_heldJsonS.l0 a0 self (((lenI a0) - 0).toNat + 1) a1 0
def laws_heldJsonS.g : Nat → (List Json) → Int → Option Int
  | 0 => fun _ _ => none
  | k + 1 => laws_heldJsonS.b (laws_heldJsonS.g k)
def laws_heldJsonS.f (a0 : List Json) (a1 : Int) : Option Int := laws_heldJsonS.g 1000 a0 a1

def laws_heldJson.f (a0 : Json) (a1 : Int) : Option Int :=
  (laws_heldJsonS.f a0.List_ a1).bind fun r1 =>
  bif (decide (r1 < 0)) then (
  some (-1))
  else (
  (laws_heldStringS.f a0.Names r1).bind fun r3 =>
  bif (decide (r3 < 0)) then (
  some (-1))
  else (
  some r3))

def laws_szCondS.f (a0 : List Cond) (a1 : Int) : Option Int :=
  bif (decide ((w64 (a1 - (lenI a0))) < 0)) then (
  some (-1))
  else (
  some (w64 (a1 - (lenI a0))))

def laws_szIntS.f (a0 : List Int) (a1 : Int) : Option Int :=
  bif (decide ((w64 (a1 - (lenI a0))) < 0)) then (
  some (-1))
  else (
  some (w64 (a1 - (lenI a0))))

def laws_szQuery.f (a0 : Query) (a1 : Int) : Option Int :=
  (laws_szCondS.f a0.Where a1).bind fun r1 =>
  bif (decide (r1 < 0)) then (
  some (-1))
  else (
  (laws_szIntS.f a0.Show r1).bind fun r3 =>
  bif (decide (r3 < 0)) then (
  some (-1))
  else (
  some r3))

def laws_szRow.f (a0 : Row) (a1 : Int) : Option Int :=
  (laws_szIntS.f a0.Cells a1).bind fun r1 =>
  bif (decide (r1 < 0)) then (
  some (-1))
  else (
  some r1)

def laws_szRowS.l0 (a0 : List Row) : Nat → Int → Int → Option Int
  | 0, _, _ => none
  | k + 1, z5, z6 =>
    bif (decide (z6 < (lenI a0))) then (
    (getO a0 z6).bind fun x8 =>
    (laws_szRow.f x8 z5).bind fun r9 =>
    bif (decide (r9 < 0)) then (
    some (-1))
    else (
    laws_szRowS.l0 a0 k r9 (w64 (z6 + 1))))
    else (
    some z5)
def laws_szRowS.f (a0 : List Row) (a1 : Int) : Option Int :=
  bif (decide ((w64 (a1 - (lenI a0))) < 0)) then (
  some (-1))
  else (
  laws_szRowS.l0 a0 (((lenI a0) - 0).toNat + 1) (w64 (a1 - (lenI a0))) 0)

def laws_szKidS.f (a0 : List Kid) (a1 : Int) : Option Int :=
  bif (decide ((w64 (a1 - (lenI a0))) < 0)) then (
  some (-1))
  else (
  some (w64 (a1 - (lenI a0))))

def laws_szView.f (a0 : View) (a1 : Int) : Option Int :=
  (laws_szQuery.f a0.Q a1).bind fun r1 =>
  bif (decide (r1 < 0)) then (
  some (-1))
  else (
  (laws_szRowS.f a0.Rows r1).bind fun r3 =>
  bif (decide (r3 < 0)) then (
  some (-1))
  else (
  (laws_szKidS.f a0.Kids r3).bind fun r5 =>
  bif (decide (r5 < 0)) then (
  some (-1))
  else (
  some r5)))

def spec_l1Max.f (a0 : Int) (a1 : Int) : Option Int :=
  bif (decide (a1 < a0)) then (
  some a0)
  else (
  some a1)

def spec_l1Min.f (a0 : Int) (a1 : Int) : Option Int :=
  bif (decide (a0 < a1)) then (
  some a0)
  else (
  some a1)

def spec_l11First.f (a0 : Query) (a1 : Int) : Option Int :=
  bif (decide (a0.First = 0)) then (
  some a1)
  else (
  (spec_l1Min.f a1 a0.First).bind fun r2 =>
  (spec_l1Max.f r2 0).bind fun r3 =>
  some r3)

def spec_l1Put.l0 (a0 : Json) (a1 : ByteArray) (a2 : Json) (K4 : (List Json) → (List ByteArray) → Bool → Option Json) : Nat → (List Json) → (List ByteArray) → Bool → Int → Option Json
  | 0, _, _, _, _ => none
  | k + 1, z45, z46, z47, z48 =>
    bif (decide (z48 < (lenI a0.Names))) then (
    joinK (fun (y50 : List Json) (y51 : List ByteArray) (y52 : Bool) =>
    (getO a0.Names z48).bind fun x69 =>
    bif (Ls.sc .neq x69 a1) then (
    (some [x69]).bind fun l71 =>
    (appO 16 y51 l71).bind fun l72 =>
    (getO a0.List_ z48).bind fun x73 =>
    (some [x73]).bind fun l74 =>
    (appO 80 y50 l74).bind fun l75 =>
    spec_l1Put.l0 a0 a1 a2 K4 k l75 l72 y52 (w64 (z48 + 1)))
    else (
    spec_l1Put.l0 a0 a1 a2 K4 k y50 y51 y52 (w64 (z48 + 1)))) (fun K53 =>
    (gd (bo3 z47 false true) (getO a0.Names z48)).bind fun x54 =>
    bif (bo3 (bo3 z47 false true) (Ls.sc .geq x54 a1) false) then (
    (some [a1]).bind fun l65 =>
    (appO 16 z46 l65).bind fun l66 =>
    (some [a2]).bind fun l67 =>
    (appO 80 z45 l67).bind fun l68 =>
    K53 l68 l66 true)
    else (
    K53 z45 z46 z47)))
    else (
    K4 z45 z46 z47)
def spec_l1Put.f (a0 : Json) (a1 : ByteArray) (a2 : Json) : Option Json :=
  joinK (fun (y1 : List Json) (y2 : List ByteArray) (y3 : Bool) =>
  bif (bo3 y3 false true) then (
  (some [a1]).bind fun l77 =>
  (appO 16 y2 l77).bind fun l78 =>
  (some [a2]).bind fun l79 =>
  (appO 80 y1 l79).bind fun l80 =>
  some (Json.mk 5 0 ByteArray.empty l80 l78))
  else (
  some (Json.mk 5 0 ByteArray.empty y1 y2))) (fun K4 =>
  spec_l1Put.l0 a0 a1 a2 K4 (((lenI a0.Names) - 0).toNat + 1) [] [] false 0)

def spec_l2Digits.l0 (K4 : Bool → ByteArray → Option ByteArray) : Nat → Int → Bool → ByteArray → Option ByteArray
  | 0, _, _, _ => none
  | k + 1, z8, z9, z10 =>
    bif (decide (z8 ≠ 0)) then (
    bif (decide ((Int.tmod z8 10) < 0)) then (
    (some [(IntKind.wrap .u8 (w64 (48 + (w64 (0 - (Int.tmod z8 10))))))]).bind fun l13 =>
    (some (bsO l13)).bind fun s14 =>
    (smO s14 z10).bind fun u15 =>
    spec_l2Digits.l0 K4 k (w64 (Int.tdiv z8 10)) z9 (Ls.sa s14 z10))
    else (
    (some [(IntKind.wrap .u8 (w64 (48 + (Int.tmod z8 10))))]).bind fun l16 =>
    (some (bsO l16)).bind fun s17 =>
    (smO s17 z10).bind fun u18 =>
    spec_l2Digits.l0 K4 k (w64 (Int.tdiv z8 10)) z9 (Ls.sa s17 z10)))
    else (
    K4 z9 z10)
def spec_l2Digits.f (a0 : Int) : Option ByteArray :=
  bif (decide (a0 = 0)) then (
  some (ByteArray.mk #[48]))
  else (
  joinK (fun (y2 : Bool) (y3 : ByteArray) =>
  bif y2 then (
  (smO (ByteArray.mk #[45]) y3).bind fun u20 =>
  some (Ls.sa (ByteArray.mk #[45]) y3))
  else (
  some y3)) (fun K4 =>
  spec_l2Digits.l0 K4 30 a0 (decide (a0 < 0)) (ByteArray.mk #[])))

def spec_l1In.f (a0 : Int) (a1 : Int) (a2 : Int) : Option Bool :=
  some (bo3 (decide (a1 ≤ a0)) (decide (a0 ≤ a2)) false)

def spec_l9Cell.f (a0 : Row) (a1 : Int) : Option Int :=
  (spec_l1In.f a1 0 (w64 ((lenI a0.Cells) - 1))).bind fun r1 =>
  bif (bo3 r1 false true) then (
  some 0)
  else (
  (getO a0.Cells a1).bind fun x3 =>
  some x3)

def spec_l11Num.f (a0 : Int) : Option Json :=
  some (Json.mk 2 a0 ByteArray.empty [] [])

def spec_l11Row.l0 (a0 : Query) (a1 : Row) (K6 : Int → Int → ByteArray → (List Json) → (List ByteArray) → Option Json) : Nat → Int → Int → ByteArray → (List Json) → (List ByteArray) → Int → Option Json
  | 0, _, _, _, _, _, _ => none
  | k + 1, z47, z48, z49, z50, z51, z52 =>
    bif (decide (z52 < (lenI a0.Show))) then (
    (getO a0.Show z52).bind fun x54 =>
    (spec_l2Digits.f x54).bind fun r55 =>
    (smO (ByteArray.mk #[99]) r55).bind fun u56 =>
    (spec_l9Cell.f a1 x54).bind fun r57 =>
    (spec_l11Num.f r57).bind fun r58 =>
    (spec_l1Put.f (Json.mk z47 z48 z49 z50 z51) (Ls.sa (ByteArray.mk #[99]) r55) r58).bind fun r59 =>
    spec_l11Row.l0 a0 a1 K6 k r59.Kind r59.N r59.S r59.List_ r59.Names (w64 (z52 + 1)))
    else (
    K6 z47 z48 z49 z50 z51)
def spec_l11Row.f (a0 : Query) (a1 : Row) (a2 : Int) : Option Json :=
  joinK (fun (y1 : Int) (y2 : Int) (y3 : ByteArray) (y4 : List Json) (y5 : List ByteArray) =>
  (spec_l11Num.f a1.Id).bind fun r60 =>
  (spec_l1Put.f (Json.mk y1 y2 y3 y4 y5) (ByteArray.mk #[105, 100]) r60).bind fun r61 =>
  bif a0.Kids then (
  (spec_l11Num.f a2).bind fun r63 =>
  (spec_l1Put.f r61 (ByteArray.mk #[107, 105, 100, 115]) r63).bind fun r64 =>
  some r64)
  else (
  some r61)) (fun K6 =>
  spec_l11Row.l0 a0 a1 K6 (((lenI a0.Show) - 0).toNat + 1) 5 0 ByteArray.empty [] [] 0)

def spec_l1Text.l0 (a0 : ByteArray) : Nat → Int → Option Bool
  | 0, _ => none
  | k + 1, z3 =>
    bif (decide (z3 < (Ls.sl a0))) then (
    (inS a0 z3).bind fun u5 =>
    (gd (bo3 (decide ((Ls.sx a0 z3) < 32)) false true) (inS a0 z3)).bind fun u6 =>
    bif (bo3 (decide ((Ls.sx a0 z3) < 32)) true (decide (126 < (Ls.sx a0 z3)))) then (
    some false)
    else (
    spec_l1Text.l0 a0 k (w64 (z3 + 1))))
    else (
    some (decide ((Ls.sl a0) ≤ 60)))
def spec_l1Text.f (a0 : ByteArray) : Option Bool :=
  spec_l1Text.l0 a0 (((Ls.sl a0) - 0).toNat + 1) 0

def spec_l1Names.l0 (a0 : Json) : Nat → Int → Option Bool
  | 0, _ => none
  | k + 1, z8 =>
    bif (decide (z8 < (lenI a0.Names))) then (
    (getO a0.Names z8).bind fun x10 =>
    (spec_l1Text.f x10).bind fun r11 =>
    (gd (bo3 (bo3 (bo3 r11 false true) false true) (decide (0 < z8)) false) (getO a0.Names (w64 (z8 - 1)))).bind fun x12 =>
    bif (bo3 (bo3 r11 false true) true (bo3 (decide (0 < z8)) (Ls.sc .geq x12 x10) false)) then (
    some false)
    else (
    spec_l1Names.l0 a0 k (w64 (z8 + 1))))
    else (
    some (decide ((lenI a0.Names) = (lenI a0.List_))))
def spec_l1Names.f (a0 : Json) : Option Bool :=
  bif (decide (a0.Kind ≠ 5)) then (
  some (decide ((lenI a0.Names) = 0)))
  else (
  spec_l1Names.l0 a0 (((lenI a0.Names) - 0).toNat + 1) 0)

def spec_l1Great.l0 (a0 : Json) (a1 : Int) (self : Json → Int → Option Int) (K3 : Int → Option Int) : Nat → Int → Int → Option Int
  | 0, _, _ => none
  | k + 1, z28, z29 =>
    bif (bo3 (decide (z29 < (lenI a0.List_))) (decide (z28 ≤ 400)) false) then (
    (getO a0.List_ z29).bind fun x35 =>
    (self x35 (w64 (a1 - 1))).bind fun r36 =>
    spec_l1Great.l0 a0 a1 self K3 k (w64 (z28 + r36)) (w64 (z29 + 1)))
    else (
    K3 z28)
def spec_l1Great.b (self : Json → Int → Option Int) (a0 : Json) (a1 : Int) : Option Int :=
  bif (decide (a1 = 0)) then (
  some 401)
  else (
  joinK (fun (y2 : Int) =>
  (gd (bo3 (bo3 (bo3 (bo3 (decide (a0.Kind ≠ 3)) (Ls.sc .neq a0.S (ByteArray.mk #[])) false) true (bo3 (bo3 (decide (a0.Kind = 3)) true (decide (4 ≤ a0.Kind))) (decide (a0.N ≠ 0)) false)) true (bo3 (decide (a0.Kind < 4)) (decide (0 < (lenI a0.List_))) false)) false true) (spec_l1Names.f a0)).bind fun r37 =>
  bif (bo3 (bo3 (bo3 (bo3 (decide (a0.Kind ≠ 3)) (Ls.sc .neq a0.S (ByteArray.mk #[])) false) true (bo3 (bo3 (decide (a0.Kind = 3)) true (decide (4 ≤ a0.Kind))) (decide (a0.N ≠ 0)) false)) true (bo3 (decide (a0.Kind < 4)) (decide (0 < (lenI a0.List_))) false)) true (bo3 r37 false true)) then (
  some 401)
  else (
  some y2)) (fun K3 =>
  bif (decide (a0.Kind = 0)) then (
  bif (decide (a0.N ≠ 0)) then (
  some 401)
  else (
  K3 1))
  else (
  bif (decide (a0.Kind = 1)) then (
  (spec_l1In.f a0.N 0 1).bind fun r7 =>
  bif (bo3 r7 false true) then (
  some 401)
  else (
  K3 1))
  else (
  bif (decide (a0.Kind = 2)) then (
  (spec_l1In.f a0.N (-1000000000) 1000000000).bind fun r10 =>
  bif (bo3 r10 false true) then (
  some 401)
  else (
  K3 1))
  else (
  bif (decide (a0.Kind = 3)) then (
  (spec_l1Text.f a0.S).bind fun r13 =>
  bif (bo3 r13 false true) then (
  some 401)
  else (
  K3 1))
  else (
  joinK (fun (y15 : Bool) =>
  bif y15 then (
  spec_l1Great.l0 a0 a1 self K3 (((lenI a0.List_) - 0).toNat + 1) 1 0)
  else (
  some 401)) (fun K16 =>
  bif (decide (a0.Kind = 4)) then (
  K16 (decide (a0.Kind = 4)))
  else (
  K16 (decide (a0.Kind = 5))))))))))
def spec_l1Great.g : Nat → Json → Int → Option Int
  | 0 => fun _ _ => none
  | k + 1 => spec_l1Great.b (spec_l1Great.g k)
def spec_l1Great.f (a0 : Json) (a1 : Int) : Option Int := spec_l1Great.g 20 a0 a1

def spec_JsonOk.f (a0 : Json) : Option Bool :=
  (spec_l1Great.f a0 6).bind fun r1 =>
  some (decide (r1 ≤ 400))

def spec_l11Right__w.f (a0 : Json) : Option Json :=
  (spec_JsonOk.f a0).bind fun r1 =>
  bif (bo3 r1 false true) then (
  some (Json.mk 0 0 ByteArray.empty [] []))
  else (
  some a0)

def spec_DocOf.l0 (a0 : Query) (a1 : List Row) (a2 : List Int) (K2 : (List Json) → Option Json) : Nat → (List Json) → Int → Option Json
  | 0, _, _ => none
  | k + 1, z40, z41 =>
    (spec_l11First.f a0 (lenI a1)).bind fun r42 =>
    bif (decide (z41 < r42)) then (
    joinK (fun (y44 : Int) =>
    (getO a1 z41).bind fun x48 =>
    (spec_l11Row.f a0 x48 y44).bind fun r49 =>
    (some [r49]).bind fun l50 =>
    (appO 80 z40 l50).bind fun l51 =>
    spec_DocOf.l0 a0 a1 a2 K2 k l51 (w64 (z41 + 1))) (fun K45 =>
    bif (decide (z41 < (lenI a2))) then (
    (getO a2 z41).bind fun x47 =>
    K45 x47)
    else (
    K45 0)))
    else (
    K2 z40)
def spec_DocOf.f (a0 : Query) (a1 : List Row) (a2 : List Int) : Option Json :=
  joinK (fun (y1 : List Json) =>
  (some [(ByteArray.mk #[99, 111, 117, 110, 116]), (ByteArray.mk #[114, 111, 119, 115])]).bind fun l52 =>
  (spec_l11Num.f (lenI a1)).bind fun r53 =>
  (some [r53, (Json.mk 4 0 ByteArray.empty y1 [])]).bind fun l54 =>
  (spec_l11Right__w.f (Json.mk 5 0 ByteArray.empty l54 l52)).bind fun r55 =>
  some r55) (fun K2 =>
  spec_DocOf.l0 a0 a1 a2 K2 ((lenI a1).toNat + 1) [] 0)

def spec_KidsIn.l0 (a0 : View) (a1 : Int) : Nat → Int → Option Int
  | 0, _ => none
  | k + 1, z14 =>
    bif (decide (z14 < (lenI a0.Kids))) then (
    (getO a0.Kids z14).bind fun x16 =>
    bif (decide (x16.Id = a1)) then (
    some x16.N)
    else (
    spec_KidsIn.l0 a0 a1 k (w64 (z14 + 1))))
    else (
    some 0)
def spec_KidsIn.f (a0 : View) (a1 : Int) : Option Int :=
  spec_KidsIn.l0 a0 a1 (((lenI a0.Kids) - 0).toNat + 1) 0

def spec_l13Counts.l0 (a0 : View) : Nat → (List Int) → Int → Option ((List Int))
  | 0, _, _ => none
  | k + 1, z14, z15 =>
    bif (decide (z15 < (lenI a0.Rows))) then (
    (getO a0.Rows z15).bind fun x17 =>
    (spec_KidsIn.f a0 x17.Id).bind fun r18 =>
    (some [r18]).bind fun l19 =>
    (appO 8 z14 l19).bind fun l20 =>
    spec_l13Counts.l0 a0 k l20 (w64 (z15 + 1)))
    else (
    some z14)
def spec_l13Counts.f (a0 : View) : Option ((List Int)) :=
  spec_l13Counts.l0 a0 (((lenI a0.Rows) - 0).toNat + 1) [] 0

def spec_ViewDoc.f (a0 : View) : Option Json :=
  (spec_l13Counts.f a0).bind fun r1 =>
  (spec_DocOf.f a0.Q a0.Rows r1).bind fun r2 =>
  some r2

def laws_toCond.f (a0 : Cond) : Option Cond :=
  some a0

def laws_toCondS.l0 (a0 : List Cond) : Nat → (List Cond) → Int → Option ((List Cond))
  | 0, _, _ => none
  | k + 1, z5, z6 =>
    bif (decide (z6 < (lenI a0))) then (
    (getO a0 z6).bind fun x8 =>
    (laws_toCond.f x8).bind fun r9 =>
    (getO z5 z6).bind fun x10 =>
    (some (setI z5 z6 r9)).bind fun l11 =>
    laws_toCondS.l0 a0 k l11 (w64 (z6 + 1)))
    else (
    some z5)
def laws_toCondS.f (a0 : List Cond) : Option ((List Cond)) :=
  (mkO 24 (lenI a0) (Cond.mk 0 0 0)).bind fun l1 =>
  laws_toCondS.l0 a0 (((lenI a0) - 0).toNat + 1) l1 0

def laws_toIntS.l0 (a0 : List Int) : Nat → (List Int) → Int → Option ((List Int))
  | 0, _, _ => none
  | k + 1, z5, z6 =>
    bif (decide (z6 < (lenI a0))) then (
    (getO a0 z6).bind fun x8 =>
    (getO z5 z6).bind fun x9 =>
    (some (setI z5 z6 x8)).bind fun l10 =>
    laws_toIntS.l0 a0 k l10 (w64 (z6 + 1)))
    else (
    some z5)
def laws_toIntS.f (a0 : List Int) : Option ((List Int)) :=
  (mkO 8 (lenI a0) 0).bind fun l1 =>
  laws_toIntS.l0 a0 (((lenI a0) - 0).toNat + 1) l1 0

def laws_toQuery.f (a0 : Query) : Option Query :=
  (laws_toCondS.f a0.Where).bind fun r1 =>
  (laws_toIntS.f a0.Show).bind fun r2 =>
  some (Query.mk a0.Table r1 a0.Order a0.Down a0.First r2 a0.Kids a0.KidTable a0.KidCol)

def laws_toRow.f (a0 : Row) : Option Row :=
  (laws_toIntS.f a0.Cells).bind fun r1 =>
  some (Row.mk a0.Id r1)

def laws_toRowS.l0 (a0 : List Row) : Nat → (List Row) → Int → Option ((List Row))
  | 0, _, _ => none
  | k + 1, z5, z6 =>
    bif (decide (z6 < (lenI a0))) then (
    (getO a0 z6).bind fun x8 =>
    (laws_toRow.f x8).bind fun r9 =>
    (getO z5 z6).bind fun x10 =>
    (some (setI z5 z6 r9)).bind fun l11 =>
    laws_toRowS.l0 a0 k l11 (w64 (z6 + 1)))
    else (
    some z5)
def laws_toRowS.f (a0 : List Row) : Option ((List Row)) :=
  (mkO 32 (lenI a0) (Row.mk 0 [])).bind fun l1 =>
  laws_toRowS.l0 a0 (((lenI a0) - 0).toNat + 1) l1 0

def laws_toKid.f (a0 : Kid) : Option Kid :=
  some a0

def laws_toKidS.l0 (a0 : List Kid) : Nat → (List Kid) → Int → Option ((List Kid))
  | 0, _, _ => none
  | k + 1, z5, z6 =>
    bif (decide (z6 < (lenI a0))) then (
    (getO a0 z6).bind fun x8 =>
    (laws_toKid.f x8).bind fun r9 =>
    (getO z5 z6).bind fun x10 =>
    (some (setI z5 z6 r9)).bind fun l11 =>
    laws_toKidS.l0 a0 k l11 (w64 (z6 + 1)))
    else (
    some z5)
def laws_toKidS.f (a0 : List Kid) : Option ((List Kid)) :=
  (mkO 16 (lenI a0) (Kid.mk 0 0)).bind fun l1 =>
  laws_toKidS.l0 a0 (((lenI a0) - 0).toNat + 1) l1 0

def laws_toView.f (a0 : View) : Option View :=
  (laws_toQuery.f a0.Q).bind fun r1 =>
  (laws_toRowS.f a0.Rows).bind fun r2 =>
  (laws_toKidS.f a0.Kids).bind fun r3 =>
  some (View.mk r1 r2 r3)

def impl_firstOf.f (a0 : Query) (a1 : Int) : Option Int :=
  bif (decide (a0.First = 0)) then (
  some a1)
  else (
  (some (maxO a0.First 0)).bind fun m2 =>
  (some (minO m2 a1)).bind fun m3 =>
  some m3)

def impl_within.f (a0 : Int) (a1 : Int) (a2 : Int) : Option Bool :=
  some (bo3 (decide (a1 ≤ a0)) (decide (a0 ≤ a2)) false)

def impl_cellOf.f (a0 : Row) (a1 : Int) : Option Int :=
  (impl_within.f a1 0 (w64 ((lenI a0.Cells) - 1))).bind fun r1 =>
  bif (bo3 r1 false true) then (
  some 0)
  else (
  (getO a0.Cells a1).bind fun x3 =>
  some x3)

def slices_Index_int.l0 (a0 : List Int) (a1 : Int) : Nat → Int → Option Int
  | 0, _ => none
  | k + 1, z5 =>
    bif (decide (z5 < (lenI a0))) then (
    (getO a0 z5).bind fun x7 =>
    bif (decide (a1 = x7)) then (
    some z5)
    else (
    slices_Index_int.l0 a0 a1 k (w64 (z5 + 1))))
    else (
    some (-1))
def slices_Index_int.f (a0 : List Int) (a1 : Int) : Option Int :=
  slices_Index_int.l0 a0 a1 (((lenI a0) - 0).toNat + 1) 0

def slices_Contains_int.f (a0 : List Int) (a1 : Int) : Option Bool :=
  (slices_Index_int.f a0 a1).bind fun r1 =>
  some (decide (0 ≤ r1))

def strconv_Itoa.f (a0 : Int) : Option ByteArray := itoaO a0

def impl_digits.f (a0 : Int) : Option ByteArray :=
  (strconv_Itoa.f a0).bind fun r1 =>
  some r1

def cmp_isNaN_string.f (a0 : ByteArray) : Option Bool :=
  some (Ls.sc .neq a0 a0)

def cmp_Less_string.f (a0 : ByteArray) (a1 : ByteArray) : Option Bool :=
  (cmp_isNaN_string.f a0).bind fun r1 =>
  (gd r1 (cmp_isNaN_string.f a1)).bind fun r2 =>
  some (bo3 (bo3 r1 (bo3 r2 false true) false) true (Ls.sc .lss a0 a1))

def slices_isNaN_string.f (a0 : ByteArray) : Option Bool :=
  some (Ls.sc .neq a0 a0)

def slices_BinarySearch_string.l0 (a0 : List ByteArray) (a1 : ByteArray) (K2 : Int → Option (Int × Bool)) : Nat → Int → Int → Option (Int × Bool)
  | 0, _, _ => none
  | k + 1, z8, z9 =>
    bif (decide (z8 < z9)) then (
    (getO a0 (w64 (Ls.ar .shr .u64 (IntKind.wrap .u64 (w64 (z8 + z9))) 1))).bind fun x11 =>
    (cmp_Less_string.f x11 a1).bind fun r12 =>
    bif r12 then (
    slices_BinarySearch_string.l0 a0 a1 K2 k (w64 ((w64 (Ls.ar .shr .u64 (IntKind.wrap .u64 (w64 (z8 + z9))) 1)) + 1)) z9)
    else (
    slices_BinarySearch_string.l0 a0 a1 K2 k z8 (w64 (Ls.ar .shr .u64 (IntKind.wrap .u64 (w64 (z8 + z9))) 1))))
    else (
    K2 z8)
def slices_BinarySearch_string.f (a0 : List ByteArray) (a1 : ByteArray) : Option (Int × Bool) :=
  joinK (fun (y1 : Int) =>
  (gd (decide (y1 < (lenI a0))) (getO a0 y1)).bind fun x14 =>
  (gd (bo3 (decide (y1 < (lenI a0))) (bo3 (Ls.sc .eql x14 a1) false true) false) (getO a0 y1)).bind fun x15 =>
  (gd (bo3 (decide (y1 < (lenI a0))) (bo3 (Ls.sc .eql x14 a1) false true) false) (slices_isNaN_string.f x15)).bind fun r16 =>
  (gd (bo3 (bo3 (decide (y1 < (lenI a0))) (bo3 (Ls.sc .eql x14 a1) false true) false) r16 false) (slices_isNaN_string.f a1)).bind fun r17 =>
  some (y1, (bo3 (decide (y1 < (lenI a0))) (bo3 (Ls.sc .eql x14 a1) true (bo3 r16 r17 false)) false))) (fun K2 =>
  slices_BinarySearch_string.l0 a0 a1 K2 (((lenI a0) - 0).toNat + 1) 0 (lenI a0))

def slices_Insert_string.f (a0 : List ByteArray) (a1 : Int) (a2 : List ByteArray) : Option (List ByteArray) := insO 16 a0 a1 a2

def slices_Insert_impl_Json.f (a0 : List Json) (a1 : Int) (a2 : List Json) : Option (List Json) := insO 80 a0 a1 a2

def impl_objOf.l0 (a0 : List ByteArray) (a1 : List Int) : Nat → (List Json) → (List ByteArray) → Int → Option Json
  | 0, _, _, _ => none
  | k + 1, z23, z24, z25 =>
    bif (decide (z25 < (lenI a0))) then (
    (getO a0 z25).bind fun x27 =>
    (slices_BinarySearch_string.f z24 x27).bind fun r28 =>
    (some [x27]).bind fun l29 =>
    (slices_Insert_string.f z24 r28.1 l29).bind fun r30 =>
    (getO a1 z25).bind fun x31 =>
    (some [(Json.mk 2 x31 ByteArray.empty [] [])]).bind fun l32 =>
    (slices_Insert_impl_Json.f z23 r28.1 l32).bind fun r33 =>
    impl_objOf.l0 a0 a1 k r33 r30 (w64 (z25 + 1)))
    else (
    some (Json.mk 5 0 ByteArray.empty z23 z24))
def impl_objOf.f (a0 : List ByteArray) (a1 : List Int) : Option Json :=
  impl_objOf.l0 a0 a1 (((lenI a0) - 0).toNat + 1) [] [] 0

def impl_textOk.l0 (a0 : ByteArray) : Nat → Int → Int → Option Bool
  | 0, _, _ => none
  | k + 1, z4, z5 =>
    bif (decide (z5 < z4)) then (
    (inS a0 z5).bind fun u7 =>
    (impl_within.f (w64 (Ls.sx a0 z5)) 32 126).bind fun r8 =>
    bif (bo3 r8 false true) then (
    some false)
    else (
    impl_textOk.l0 a0 k z4 (w64 (z5 + 1))))
    else (
    some (decide ((Ls.sl a0) ≤ 60)))
def impl_textOk.f (a0 : ByteArray) : Option Bool :=
  impl_textOk.l0 a0 (((Ls.sl a0) - 0).toNat + 1) (Ls.sl a0) 0

def impl_namesOk.l0 (a0 : List ByteArray) : Nat → Int → Option Bool
  | 0, _ => none
  | k + 1, z5 =>
    bif (decide (z5 < (lenI a0))) then (
    (getO a0 z5).bind fun x7 =>
    (impl_textOk.f x7).bind fun r8 =>
    (gd (bo3 (bo3 (bo3 r8 false true) false true) (decide (0 < z5)) false) (getO a0 (w64 (z5 - 1)))).bind fun x9 =>
    bif (bo3 (bo3 r8 false true) true (bo3 (decide (0 < z5)) (Ls.sc .geq x9 x7) false)) then (
    some false)
    else (
    impl_namesOk.l0 a0 k (w64 (z5 + 1))))
    else (
    some true)
def impl_namesOk.f (a0 : List ByteArray) : Option Bool :=
  impl_namesOk.l0 a0 (((lenI a0) - 0).toNat + 1) 0

def impl_isNum.f (a0 : Int) : Option Bool :=
  (impl_within.f a0 (-1000000000) 1000000000).bind fun r1 =>
  some r1

def impl_ownOk.f (a0 : Json) : Option Bool :=
  bif (bo3 (bo3 (bo3 (decide (0 < (lenI a0.List_))) (decide (a0.Kind ≠ 4)) false) (decide (a0.Kind ≠ 5)) false) true (bo3 (decide (0 < (lenI a0.Names))) (decide (a0.Kind ≠ 5)) false)) then (
  some false)
  else (
  bif (bo3 (bo3 (bo3 (decide (a0.N ≠ 0)) (decide (a0.Kind ≠ 1)) false) (decide (a0.Kind ≠ 2)) false) true (bo3 (Ls.sc .neq a0.S (ByteArray.mk #[])) (decide (a0.Kind ≠ 3)) false)) then (
  some false)
  else (
  bif (decide (a0.Kind = 1)) then (
  (impl_within.f a0.N 0 1).bind fun r49 =>
  some r49)
  else (
  bif (decide (a0.Kind = 2)) then (
  (impl_isNum.f a0.N).bind fun r51 =>
  some r51)
  else (
  bif (decide (a0.Kind = 3)) then (
  (impl_textOk.f a0.S).bind fun r53 =>
  some r53)
  else (
  bif (decide (a0.Kind = 5)) then (
  (gd (decide ((lenI a0.Names) = (lenI a0.List_))) (impl_namesOk.f a0.Names)).bind fun r55 =>
  some (bo3 (decide ((lenI a0.Names) = (lenI a0.List_))) r55 false))
  else (
  some (bo3 (decide (a0.Kind = 0)) true (decide (a0.Kind = 4)))))))))

def impl_sizeIn.l0 (a0 : Json) (a1 : Int) (self : Json → Int → Option Int) : Nat → Int → Int → Option Int
  | 0, _, _ => none
  | k + 1, z13, z14 =>
    bif (decide (z14 < (lenI a0.List_))) then (
    (getO a0.List_ z14).bind fun x16 =>
    (self x16 (w64 (a1 - 1))).bind fun r17 =>
    bif (decide (400 < (w64 (z13 + r17)))) then (
    some 401)
    else (
    impl_sizeIn.l0 a0 a1 self k (w64 (z13 + r17)) (w64 (z14 + 1))))
    else (
    some z13)
def impl_sizeIn.b (self : Json → Int → Option Int) (a0 : Json) (a1 : Int) : Option Int :=
  (gd (bo3 (decide (a1 < 1)) false true) (impl_ownOk.f a0)).bind fun r1 =>
  bif (bo3 (decide (a1 < 1)) true (bo3 r1 false true)) then (
  some 401)
  else (
  impl_sizeIn.l0 a0 a1 self (((lenI a0.List_) - 0).toNat + 1) 1 0)
def impl_sizeIn.g : Nat → Json → Int → Option Int
  | 0 => fun _ _ => none
  | k + 1 => impl_sizeIn.b (impl_sizeIn.g k)
def impl_sizeIn.f (a0 : Json) (a1 : Int) : Option Int := impl_sizeIn.g 20 a0 a1

def impl_JsonOk.f (a0 : Json) : Option Bool :=
  (impl_sizeIn.f a0 6).bind fun r1 =>
  some (decide (r1 ≤ 400))

def impl_orNull.f (a0 : Json) : Option Json :=
  (impl_JsonOk.f a0).bind fun r1 =>
  bif (bo3 r1 false true) then (
  some (Json.mk 0 0 ByteArray.empty [] []))
  else (
  some a0)

def impl_RowDoc.l0 (a0 : Query) (a1 : Row) (K5 : (List ByteArray) → (List Int) → Option Json) : Nat → (List ByteArray) → (List Int) → Int → Option Json
  | 0, _, _, _ => none
  | k + 1, z26, z27, z28 =>
    bif (decide (z28 < (lenI a0.Show))) then (
    (getO a0.Show z28).bind fun x30 =>
    (cutO a0.Show 0 z28).bind fun l31 =>
    (slices_Contains_int.f l31 x30).bind fun r32 =>
    bif r32 then (
    impl_RowDoc.l0 a0 a1 K5 k z26 z27 (w64 (z28 + 1)))
    else (
    (impl_digits.f x30).bind fun r34 =>
    (smO (ByteArray.mk #[99]) r34).bind fun u35 =>
    (some [(Ls.sa (ByteArray.mk #[99]) r34)]).bind fun l36 =>
    (appO 16 z26 l36).bind fun l37 =>
    (impl_cellOf.f a1 x30).bind fun r38 =>
    (some [r38]).bind fun l39 =>
    (appO 8 z27 l39).bind fun l40 =>
    impl_RowDoc.l0 a0 a1 K5 k l37 l40 (w64 (z28 + 1))))
    else (
    K5 z26 z27)
def impl_RowDoc.f (a0 : Query) (a1 : Row) (a2 : Int) : Option Json :=
  (some [(ByteArray.mk #[105, 100])]).bind fun l1 =>
  (some [a1.Id]).bind fun l2 =>
  joinK (fun (y3 : List ByteArray) (y4 : List Int) =>
  joinK (fun (y41 : List ByteArray) (y42 : List Int) =>
  (impl_objOf.f y41 y42).bind fun r49 =>
  (impl_orNull.f r49).bind fun r50 =>
  some r50) (fun K43 =>
  bif a0.Kids then (
  (some [(ByteArray.mk #[107, 105, 100, 115])]).bind fun l45 =>
  (appO 16 y3 l45).bind fun l46 =>
  (some [a2]).bind fun l47 =>
  (appO 8 y4 l47).bind fun l48 =>
  K43 l46 l48)
  else (
  K43 y3 y4))) (fun K5 =>
  impl_RowDoc.l0 a0 a1 K5 (((lenI a0.Show) - 0).toNat + 1) l1 l2 0)

def impl_rowDocs.l0 (a0 : Query) (a2 : List Int) (l2 : List Row) : Nat → (List Json) → Int → Option ((List Json))
  | 0, _, _ => none
  | k + 1, z17, z18 =>
    bif (decide (z18 < (lenI l2))) then (
    (getO l2 z18).bind fun x20 =>
    joinK (fun (y21 : Int) =>
    (impl_RowDoc.f a0 x20 y21).bind fun r25 =>
    (some [r25]).bind fun l26 =>
    (appO 80 z17 l26).bind fun l27 =>
    impl_rowDocs.l0 a0 a2 l2 k l27 (w64 (z18 + 1))) (fun K22 =>
    bif (decide (z18 < (lenI a2))) then (
    (getO a2 z18).bind fun x24 =>
    K22 x24)
    else (
    K22 0)))
    else (
    some z17)
def impl_rowDocs.f (a0 : Query) (a1 : List Row) (a2 : List Int) : Option ((List Json)) :=
  (impl_firstOf.f a0 (lenI a1)).bind fun r1 =>
  (cutO a1 0 r1).bind fun l2 =>
  impl_rowDocs.l0 a0 a2 l2 (((lenI l2) - 0).toNat + 1) [] 0

def impl_DocOf_1.f (a0 : Json) : Option Bool :=
  some (decide (a0.Kind = 0))

def slices_IndexFunc_impl_Json__impl_DocOf_1.l0 (a0 : List Json) : Nat → Int → Option Int
  | 0, _ => none
  | k + 1, z4 =>
    bif (decide (z4 < (lenI a0))) then (
    (getO a0 z4).bind fun x6 =>
    (impl_DocOf_1.f x6).bind fun r7 =>
    bif r7 then (
    some z4)
    else (
    slices_IndexFunc_impl_Json__impl_DocOf_1.l0 a0 k (w64 (z4 + 1))))
    else (
    some (-1))
def slices_IndexFunc_impl_Json__impl_DocOf_1.f (a0 : List Json) : Option Int :=
  slices_IndexFunc_impl_Json__impl_DocOf_1.l0 a0 (((lenI a0) - 0).toNat + 1) 0

def slices_ContainsFunc_impl_Json__impl_DocOf_1.f (a0 : List Json) : Option Bool :=
  (slices_IndexFunc_impl_Json__impl_DocOf_1.f a0).bind fun r1 =>
  some (decide (0 ≤ r1))

def impl_DocOf.f (a0 : Query) (a1 : List Row) (a2 : List Int) : Option Json :=
  (impl_rowDocs.f a0 a1 a2).bind fun r1 =>
  (slices_ContainsFunc_impl_Json__impl_DocOf_1.f r1).bind fun r2 =>
  bif r2 then (
  some (Json.mk 0 0 ByteArray.empty [] []))
  else (
  (some [(ByteArray.mk #[99, 111, 117, 110, 116]), (ByteArray.mk #[114, 111, 119, 115])]).bind fun l4 =>
  (some [(Json.mk 2 (lenI a1) ByteArray.empty [] []), (Json.mk 4 0 ByteArray.empty r1 [])]).bind fun l5 =>
  (impl_orNull.f (Json.mk 5 0 ByteArray.empty l5 l4)).bind fun r6 =>
  some r6)

def impl_KidsIn.l0 (a0 : View) (a1 : Int) : Nat → Int → Option Int
  | 0, _ => none
  | k + 1, z5 =>
    bif (decide (z5 < (lenI a0.Kids))) then (
    (getO a0.Kids z5).bind fun x7 =>
    bif (decide (x7.Id = a1)) then (
    some x7.N)
    else (
    impl_KidsIn.l0 a0 a1 k (w64 (z5 + 1))))
    else (
    some 0)
def impl_KidsIn.f (a0 : View) (a1 : Int) : Option Int :=
  impl_KidsIn.l0 a0 a1 (((lenI a0.Kids) - 0).toNat + 1) 0

def impl_kidsOfRows.l0 (a0 : View) : Nat → (List Int) → Int → Option ((List Int))
  | 0, _, _ => none
  | k + 1, z16, z17 =>
    bif (decide (z17 < (lenI a0.Rows))) then (
    (getO a0.Rows z17).bind fun x19 =>
    (impl_KidsIn.f a0 x19.Id).bind fun r20 =>
    (some [r20]).bind fun l21 =>
    (appO 8 z16 l21).bind fun l22 =>
    impl_kidsOfRows.l0 a0 k l22 (w64 (z17 + 1)))
    else (
    some z16)
def impl_kidsOfRows.f (a0 : View) : Option ((List Int)) :=
  impl_kidsOfRows.l0 a0 (((lenI a0.Rows) - 0).toNat + 1) [] 0

def impl_ViewDoc.f (a0 : View) : Option Json :=
  (impl_kidsOfRows.f a0).bind fun r1 =>
  (impl_DocOf.f a0.Q a0.Rows r1).bind fun r2 =>
  some r2

def laws_eqJsonS.l0 (a0 : List Json) (a1 : List Json) (self : Json → Json → Option Bool) : Nat → Int → Option Bool
  | 0, _ => none
  | k + 1, z5 =>
    bif (decide (z5 < (lenI a0))) then (
    (getO a0 z5).bind fun x7 =>
    (getO a1 z5).bind fun x8 =>
    (self x7 x8).bind fun r9 =>
    bif (bo3 r9 false true) then (
    some false)
    else (
    laws_eqJsonS.l0 a0 a1 self k (w64 (z5 + 1))))
    else (
    some true)
def laws_eqJsonS.f (self : Json → Json → Option Bool) (a0 : List Json) (a1 : List Json) : Option Bool :=
  bif (decide ((lenI a0) ≠ (lenI a1))) then (
  some false)
  else (
  laws_eqJsonS.l0 a0 a1 self (((lenI a0) - 0).toNat + 1) 0)

def laws_eqStringS.l0 (a0 : List ByteArray) (a1 : List ByteArray) : Nat → Int → Option Bool
  | 0, _ => none
  | k + 1, z5 =>
    bif (decide (z5 < (lenI a0))) then (
    (getO a0 z5).bind fun x7 =>
    (getO a1 z5).bind fun x8 =>
    bif (Ls.sc .neq x7 x8) then (
    some false)
    else (
    laws_eqStringS.l0 a0 a1 k (w64 (z5 + 1))))
    else (
    some true)
def laws_eqStringS.f (a0 : List ByteArray) (a1 : List ByteArray) : Option Bool :=
  bif (decide ((lenI a0) ≠ (lenI a1))) then (
  some false)
  else (
  laws_eqStringS.l0 a0 a1 (((lenI a0) - 0).toNat + 1) 0)

def laws_eqJson.b (self : Json → Json → Option Bool) (a0 : Json) (a1 : Json) : Option Bool :=
  bif (decide (a0.Kind ≠ a1.Kind)) then (
  some false)
  else (
  bif (decide (a0.N ≠ a1.N)) then (
  some false)
  else (
  bif (Ls.sc .neq a0.S a1.S) then (
  some false)
  else (
  (laws_eqJsonS.f self a0.List_ a1.List_).bind fun r4 =>
  bif (bo3 r4 false true) then (
  some false)
  else (
  (laws_eqStringS.f a0.Names a1.Names).bind fun r6 =>
  bif (bo3 r6 false true) then (
  some false)
  else (
  some true)))))
def laws_eqJson.g : Nat → Json → Json → Option Bool
  | 0 => fun _ _ => none
  | k + 1 => laws_eqJson.b (laws_eqJson.g k)
def laws_eqJson.f (a0 : Json) (a1 : Json) : Option Bool := laws_eqJson.g 1000 a0 a1

def laws_FnExactViewDoc.f (a0 : View) : Option Bool :=
  (laws_szView.f a0 1048576).bind fun r1 =>
  bif (decide (r1 < 0)) then (
  some true)
  else (
  (laws_toView.f a0).bind fun r3 =>
  (spec_ViewDoc.f r3).bind fun r4 =>
  (laws_toView.f a0).bind fun r5 =>
  (impl_ViewDoc.f r5).bind fun r6 =>
  (laws_eqJson.f r6 r4).bind fun r7 =>
  bif (bo3 r7 false true) then (
  some false)
  else (
  (laws_toView.f a0).bind fun r9 =>
  (laws_eqView.f r5 r9).bind fun r10 =>
  bif (bo3 r10 false true) then (
  some false)
  else (
  (laws_markView.f r5 1).bind fun r12 =>
  (gd (bo3 (decide (r12.2 < 0)) false true) (laws_eqJson.f r6 r4)).bind fun r13 =>
  bif (bo3 (decide (r12.2 < 0)) true (bo3 r13 false true)) then (
  some false)
  else (
  (laws_markJson.f r6 1).bind fun r21 =>
  (laws_heldJson.f (Json.mk r6.Kind r6.N r6.S r21.1.List_ r21.1.Names) 1).bind fun r22 =>
  bif (decide (r22 < 0)) then (
  some false)
  else (
  bif (decide (r22 ≠ r21.2)) then (
  some false)
  else (
  (laws_toView.f a0).bind fun r25 =>
  (impl_ViewDoc.f r25).bind fun r26 =>
  (laws_eqJson.f r26 r4).bind fun r27 =>
  bif (bo3 r27 false true) then (
  some false)
  else (
  (laws_heldJson.f (Json.mk r6.Kind r6.N r6.S r21.1.List_ r21.1.Names) 1).bind fun r29 =>
  bif (decide (r29 < 0)) then (
  some false)
  else (
  bif (decide (r29 ≠ r21.2)) then (
  some false)
  else (
  some true)))))))))

end Go.Proofs.YtgjboegobhafhaaGreatDoor.L
