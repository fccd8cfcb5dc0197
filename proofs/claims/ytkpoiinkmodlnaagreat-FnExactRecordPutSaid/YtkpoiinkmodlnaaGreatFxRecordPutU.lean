/- The pure functions of the program. -/
import Derived.Test.YtkpoiinkmodlnaaGreatSl42
namespace Go.Proofs.YtkpoiinkmodlnaaGreat.L
open Go
set_option linter.unusedVariables false
structure Schema where
  Cols : List Int
  deriving Inhabited, DecidableEq
structure Row where
  Id : Int
  Cells : List Int
  deriving Inhabited, DecidableEq
structure Store where
  Schema : Schema
  Version : Int
  Tables : List (List Row)
  deriving Inhabited, DecidableEq
structure Change where
  Table : Int
  Had : Bool
  Has : Bool
  Old : Row
  New : Row
  deriving Inhabited, DecidableEq
structure Record where
  First : Store
  Steps : List (List Change)
  deriving Inhabited, DecidableEq

def laws_eqIntS.l0 (a0 : List Int) (a1 : List Int) : Nat → Int → Option Bool
  | 0, _ => none
  | k + 1, z5 =>
    bif (decide (z5 < (lenI a0))) then (
    (getO a0 z5).bind fun x7 =>
    (getO a1 z5).bind fun x8 =>
    bif (decide (x7 ≠ x8)) then (
    some false)
    else (
    laws_eqIntS.l0 a0 a1 k (w64 (z5 + 1))))
    else (
    some true)
def laws_eqIntS.f (a0 : List Int) (a1 : List Int) : Option Bool :=
  bif (decide ((lenI a0) ≠ (lenI a1))) then (
  some false)
  else (
  laws_eqIntS.l0 a0 a1 (((lenI a0) - 0).toNat + 1) 0)

def laws_eqSchema.f (a0 : Schema) (a1 : Schema) : Option Bool :=
  (laws_eqIntS.f a0.Cols a1.Cols).bind fun r1 =>
  bif (bo3 r1 false true) then (
  some false)
  else (
  some true)

def laws_eqRow.f (a0 : Row) (a1 : Row) : Option Bool :=
  bif (decide (a0.Id ≠ a1.Id)) then (
  some false)
  else (
  (laws_eqIntS.f a0.Cells a1.Cells).bind fun r2 =>
  bif (bo3 r2 false true) then (
  some false)
  else (
  some true))

def laws_eqRowS.l0 (a0 : List Row) (a1 : List Row) : Nat → Int → Option Bool
  | 0, _ => none
  | k + 1, z5 =>
    bif (decide (z5 < (lenI a0))) then (
    (getO a0 z5).bind fun x7 =>
    (getO a1 z5).bind fun x8 =>
    (laws_eqRow.f x7 x8).bind fun r9 =>
    bif (bo3 r9 false true) then (
    some false)
    else (
    laws_eqRowS.l0 a0 a1 k (w64 (z5 + 1))))
    else (
    some true)
def laws_eqRowS.f (a0 : List Row) (a1 : List Row) : Option Bool :=
  bif (decide ((lenI a0) ≠ (lenI a1))) then (
  some false)
  else (
  laws_eqRowS.l0 a0 a1 (((lenI a0) - 0).toNat + 1) 0)

def laws_eqRowSS.l0 (a0 : List (List Row)) (a1 : List (List Row)) : Nat → Int → Option Bool
  | 0, _ => none
  | k + 1, z5 =>
    bif (decide (z5 < (lenI a0))) then (
    (getO a0 z5).bind fun x7 =>
    (getO a1 z5).bind fun x8 =>
    (laws_eqRowS.f x7 x8).bind fun r9 =>
    bif (bo3 r9 false true) then (
    some false)
    else (
    laws_eqRowSS.l0 a0 a1 k (w64 (z5 + 1))))
    else (
    some true)
def laws_eqRowSS.f (a0 : List (List Row)) (a1 : List (List Row)) : Option Bool :=
  bif (decide ((lenI a0) ≠ (lenI a1))) then (
  some false)
  else (
  laws_eqRowSS.l0 a0 a1 (((lenI a0) - 0).toNat + 1) 0)

def laws_eqStore.f (a0 : Store) (a1 : Store) : Option Bool :=
  (laws_eqSchema.f a0.Schema a1.Schema).bind fun r1 =>
  bif (bo3 r1 false true) then (
  some false)
  else (
  bif (decide (a0.Version ≠ a1.Version)) then (
  some false)
  else (
  (laws_eqRowSS.f a0.Tables a1.Tables).bind fun r4 =>
  bif (bo3 r4 false true) then (
  some false)
  else (
  some true)))

def laws_eqChange.f (a0 : Change) (a1 : Change) : Option Bool :=
  bif (decide (a0.Table ≠ a1.Table)) then (
  some false)
  else (
  bif (bo3 a0.Had (bo3 a1.Had false true) a1.Had) then (
  some false)
  else (
  bif (bo3 a0.Has (bo3 a1.Has false true) a1.Has) then (
  some false)
  else (
  (laws_eqRow.f a0.Old a1.Old).bind fun r4 =>
  bif (bo3 r4 false true) then (
  some false)
  else (
  (laws_eqRow.f a0.New a1.New).bind fun r6 =>
  bif (bo3 r6 false true) then (
  some false)
  else (
  some true)))))

def laws_eqChangeS.l0 (a0 : List Change) (a1 : List Change) : Nat → Int → Option Bool
  | 0, _ => none
  | k + 1, z5 =>
    bif (decide (z5 < (lenI a0))) then (
    (getO a0 z5).bind fun x7 =>
    (getO a1 z5).bind fun x8 =>
    (laws_eqChange.f x7 x8).bind fun r9 =>
    bif (bo3 r9 false true) then (
    some false)
    else (
    laws_eqChangeS.l0 a0 a1 k (w64 (z5 + 1))))
    else (
    some true)
def laws_eqChangeS.f (a0 : List Change) (a1 : List Change) : Option Bool :=
  bif (decide ((lenI a0) ≠ (lenI a1))) then (
  some false)
  else (
  laws_eqChangeS.l0 a0 a1 (((lenI a0) - 0).toNat + 1) 0)

def laws_eqChangeSS.l0 (a0 : List (List Change)) (a1 : List (List Change)) : Nat → Int → Option Bool
  | 0, _ => none
  | k + 1, z5 =>
    bif (decide (z5 < (lenI a0))) then (
    (getO a0 z5).bind fun x7 =>
    (getO a1 z5).bind fun x8 =>
    (laws_eqChangeS.f x7 x8).bind fun r9 =>
    bif (bo3 r9 false true) then (
    some false)
    else (
    laws_eqChangeSS.l0 a0 a1 k (w64 (z5 + 1))))
    else (
    some true)
def laws_eqChangeSS.f (a0 : List (List Change)) (a1 : List (List Change)) : Option Bool :=
  bif (decide ((lenI a0) ≠ (lenI a1))) then (
  some false)
  else (
  laws_eqChangeSS.l0 a0 a1 (((lenI a0) - 0).toNat + 1) 0)

def laws_eqRecord.f (a0 : Record) (a1 : Record) : Option Bool :=
  (laws_eqStore.f a0.First a1.First).bind fun r1 =>
  bif (bo3 r1 false true) then (
  some false)
  else (
  (laws_eqChangeSS.f a0.Steps a1.Steps).bind fun r3 =>
  bif (bo3 r3 false true) then (
  some false)
  else (
  some true))

def laws_markIntS.l0  : Nat → (List Int) → Int → Int → Option ((List Int) × Int)
  | 0, _, _, _ => none
  | k + 1, z4, z5, z6 =>
    bif (decide (z6 < (lenI z4))) then (
    (getO z4 z6).bind fun x8 =>
    (some (setI z4 z6 z5)).bind fun l9 =>
    laws_markIntS.l0 k l9 (w64 (z5 + 1)) (w64 (z6 + 1)))
    else (
    some (z4, z5))
def laws_markIntS.f (a0 : List Int) (a1 : Int) : Option ((List Int) × Int) :=
  laws_markIntS.l0 (((lenI a0) - 0).toNat + 1) a0 a1 0

def laws_markSchema.f (a0 : Schema) (a1 : Int) : Option (Schema × Int) :=
  (laws_markIntS.f a0.Cols a1).bind fun r1 =>
  some ((Schema.mk r1.1), r1.2)

def laws_markRowS.l0  : Nat → (List Row) → Int → Int → Option ((List Row) × Int)
  | 0, _, _, _ => none
  | k + 1, z4, z5, z6 =>
    bif (decide (z6 < (lenI z4))) then (
    (getO z4 z6).bind fun x8 =>
    (some (setI z4 z6 (Row.mk z5 x8.Cells))).bind fun l9 =>
    (getO l9 z6).bind fun x10 =>
    (laws_markIntS.f x10.Cells (w64 (z5 + 1))).bind fun r11 =>
    (some (setI l9 z6 (Row.mk x10.Id r11.1))).bind fun l12 =>
    laws_markRowS.l0 k l12 r11.2 (w64 (z6 + 1)))
    else (
    some (z4, z5))
def laws_markRowS.f (a0 : List Row) (a1 : Int) : Option ((List Row) × Int) :=
  laws_markRowS.l0 (((lenI a0) - 0).toNat + 1) a0 a1 0

def laws_markRowSS.l0  : Nat → (List (List Row)) → Int → Int → Option ((List (List Row)) × Int)
  | 0, _, _, _ => none
  | k + 1, z4, z5, z6 =>
    bif (decide (z6 < (lenI z4))) then (
    (getO z4 z6).bind fun x8 =>
    (laws_markRowS.f x8 z5).bind fun r9 =>
    (some (setI z4 z6 r9.1)).bind fun l10 =>
    laws_markRowSS.l0 k l10 r9.2 (w64 (z6 + 1)))
    else (
    some (z4, z5))
def laws_markRowSS.f (a0 : List (List Row)) (a1 : Int) : Option ((List (List Row)) × Int) :=
  laws_markRowSS.l0 (((lenI a0) - 0).toNat + 1) a0 a1 0

def laws_markStore.f (a0 : Store) (a1 : Int) : Option (Store × Int) :=
  (laws_markSchema.f a0.Schema a1).bind fun r1 =>
  (laws_markRowSS.f a0.Tables r1.2).bind fun r2 =>
  some ((Store.mk r1.1 a0.Version r2.1), r2.2)

def laws_markChangeS.l0  : Nat → (List Change) → Int → Int → Option ((List Change) × Int)
  | 0, _, _, _ => none
  | k + 1, z4, z5, z6 =>
    bif (decide (z6 < (lenI z4))) then (
    (getO z4 z6).bind fun x8 =>
    (some (setI z4 z6 (Change.mk z5 x8.Had x8.Has x8.Old x8.New))).bind fun l9 =>
    (getO l9 z6).bind fun x10 =>
    (some (setI l9 z6 (Change.mk x10.Table (decide ((Int.tmod (w64 (z5 + 1)) 3) = 0)) x10.Has x10.Old x10.New))).bind fun l11 =>
    (getO l11 z6).bind fun x12 =>
    (some (setI l11 z6 (Change.mk x12.Table x12.Had (decide ((Int.tmod (w64 ((w64 (z5 + 1)) + 1)) 3) = 0)) x12.Old x12.New))).bind fun l13 =>
    (getO l13 z6).bind fun x14 =>
    (some (setI l13 z6 (Change.mk x14.Table x14.Had x14.Has (Row.mk (w64 ((w64 ((w64 (z5 + 1)) + 1)) + 1)) x14.Old.Cells) x14.New))).bind fun l15 =>
    (getO l15 z6).bind fun x16 =>
    (laws_markIntS.f x16.Old.Cells (w64 ((w64 ((w64 ((w64 (z5 + 1)) + 1)) + 1)) + 1))).bind fun r17 =>
    (some (setI l15 z6 (Change.mk x16.Table x16.Had x16.Has (Row.mk x16.Old.Id r17.1) x16.New))).bind fun l18 =>
    (getO l18 z6).bind fun x19 =>
    (some (setI l18 z6 (Change.mk x19.Table x19.Had x19.Has x19.Old (Row.mk r17.2 x19.New.Cells)))).bind fun l20 =>
    (getO l20 z6).bind fun x21 =>
    (laws_markIntS.f x21.New.Cells (w64 (r17.2 + 1))).bind fun r22 =>
    (some (setI l20 z6 (Change.mk x21.Table x21.Had x21.Has x21.Old (Row.mk x21.New.Id r22.1)))).bind fun l23 =>
    laws_markChangeS.l0 k l23 r22.2 (w64 (z6 + 1)))
    else (
    some (z4, z5))
def laws_markChangeS.f (a0 : List Change) (a1 : Int) : Option ((List Change) × Int) :=
  laws_markChangeS.l0 (((lenI a0) - 0).toNat + 1) a0 a1 0

def laws_markChangeSS.l0  : Nat → (List (List Change)) → Int → Int → Option ((List (List Change)) × Int)
  | 0, _, _, _ => none
  | k + 1, z4, z5, z6 =>
    bif (decide (z6 < (lenI z4))) then (
    (getO z4 z6).bind fun x8 =>
    (laws_markChangeS.f x8 z5).bind fun r9 =>
    (some (setI z4 z6 r9.1)).bind fun l10 =>
    laws_markChangeSS.l0 k l10 r9.2 (w64 (z6 + 1)))
    else (
    some (z4, z5))
def laws_markChangeSS.f (a0 : List (List Change)) (a1 : Int) : Option ((List (List Change)) × Int) :=
  laws_markChangeSS.l0 (((lenI a0) - 0).toNat + 1) a0 a1 0

def laws_markRecord.f (a0 : Record) (a1 : Int) : Option (Record × Int) :=
  (laws_markStore.f a0.First a1).bind fun r1 =>
  (laws_markChangeSS.f a0.Steps r1.2).bind fun r2 =>
  some ((Record.mk (Store.mk r1.1.Schema a0.First.Version r1.1.Tables) r2.1), r2.2)

def laws_heldIntS.l0 (a0 : List Int) : Nat → Int → Int → Option Int
  | 0, _, _ => none
  | k + 1, z4, z5 =>
    bif (decide (z5 < (lenI a0))) then (
    (getO a0 z5).bind fun x7 =>
    bif (decide (x7 ≠ z4)) then (
    some (-1))
    else (
    laws_heldIntS.l0 a0 k (w64 (z4 + 1)) (w64 (z5 + 1))))
    else (
    some z4)
def laws_heldIntS.f (a0 : List Int) (a1 : Int) : Option Int :=
  laws_heldIntS.l0 a0 (((lenI a0) - 0).toNat + 1) a1 0

def laws_heldSchema.f (a0 : Schema) (a1 : Int) : Option Int :=
  (laws_heldIntS.f a0.Cols a1).bind fun r1 =>
  bif (decide (r1 < 0)) then (
  some (-1))
  else (
  some r1)

def laws_heldRowS.l0 (a0 : List Row) : Nat → Int → Int → Option Int
  | 0, _, _ => none
  | k + 1, z4, z5 =>
    bif (decide (z5 < (lenI a0))) then (
    (getO a0 z5).bind fun x7 =>
    bif (decide (x7.Id ≠ z4)) then (
    some (-1))
    else (
    (laws_heldIntS.f x7.Cells (w64 (z4 + 1))).bind fun r9 =>
    bif (decide (r9 < 0)) then (
    some (-1))
    else (
    laws_heldRowS.l0 a0 k r9 (w64 (z5 + 1)))))
    else (
    some z4)
def laws_heldRowS.f (a0 : List Row) (a1 : Int) : Option Int :=
  laws_heldRowS.l0 a0 (((lenI a0) - 0).toNat + 1) a1 0

def laws_heldRowSS.l0 (a0 : List (List Row)) : Nat → Int → Int → Option Int
  | 0, _, _ => none
  | k + 1, z4, z5 =>
    bif (decide (z5 < (lenI a0))) then (
    (getO a0 z5).bind fun x7 =>
    (laws_heldRowS.f x7 z4).bind fun r8 =>
    bif (decide (r8 < 0)) then (
    some (-1))
    else (
    laws_heldRowSS.l0 a0 k r8 (w64 (z5 + 1))))
    else (
    some z4)
def laws_heldRowSS.f (a0 : List (List Row)) (a1 : Int) : Option Int :=
  laws_heldRowSS.l0 a0 (((lenI a0) - 0).toNat + 1) a1 0

def laws_heldStore.f (a0 : Store) (a1 : Int) : Option Int :=
  (laws_heldSchema.f a0.Schema a1).bind fun r1 =>
  bif (decide (r1 < 0)) then (
  some (-1))
  else (
  (laws_heldRowSS.f a0.Tables r1).bind fun r3 =>
  bif (decide (r3 < 0)) then (
  some (-1))
  else (
  some r3))

def laws_heldChangeS.l0 (a0 : List Change) : Nat → Int → Int → Option Int
  | 0, _, _ => none
  | k + 1, z4, z5 =>
    bif (decide (z5 < (lenI a0))) then (
    (getO a0 z5).bind fun x7 =>
    bif (decide (x7.Table ≠ z4)) then (
    some (-1))
    else (
    bif (bo3 x7.Had (bo3 (decide ((Int.tmod (w64 (z4 + 1)) 3) = 0)) false true) (decide ((Int.tmod (w64 (z4 + 1)) 3) = 0))) then (
    some (-1))
    else (
    bif (bo3 x7.Has (bo3 (decide ((Int.tmod (w64 ((w64 (z4 + 1)) + 1)) 3) = 0)) false true) (decide ((Int.tmod (w64 ((w64 (z4 + 1)) + 1)) 3) = 0))) then (
    some (-1))
    else (
    bif (decide (x7.Old.Id ≠ (w64 ((w64 ((w64 (z4 + 1)) + 1)) + 1)))) then (
    some (-1))
    else (
    (laws_heldIntS.f x7.Old.Cells (w64 ((w64 ((w64 ((w64 (z4 + 1)) + 1)) + 1)) + 1))).bind fun r12 =>
    bif (decide (r12 < 0)) then (
    some (-1))
    else (
    bif (decide (x7.New.Id ≠ r12)) then (
    some (-1))
    else (
    (laws_heldIntS.f x7.New.Cells (w64 (r12 + 1))).bind fun r15 =>
    bif (decide (r15 < 0)) then (
    some (-1))
    else (
    laws_heldChangeS.l0 a0 k r15 (w64 (z5 + 1))))))))))
    else (
    some z4)
def laws_heldChangeS.f (a0 : List Change) (a1 : Int) : Option Int :=
  laws_heldChangeS.l0 a0 (((lenI a0) - 0).toNat + 1) a1 0

def laws_heldChangeSS.l0 (a0 : List (List Change)) : Nat → Int → Int → Option Int
  | 0, _, _ => none
  | k + 1, z4, z5 =>
    bif (decide (z5 < (lenI a0))) then (
    (getO a0 z5).bind fun x7 =>
    (laws_heldChangeS.f x7 z4).bind fun r8 =>
    bif (decide (r8 < 0)) then (
    some (-1))
    else (
    laws_heldChangeSS.l0 a0 k r8 (w64 (z5 + 1))))
    else (
    some z4)
def laws_heldChangeSS.f (a0 : List (List Change)) (a1 : Int) : Option Int :=
  laws_heldChangeSS.l0 a0 (((lenI a0) - 0).toNat + 1) a1 0

def laws_heldRecord.f (a0 : Record) (a1 : Int) : Option Int :=
  (laws_heldStore.f a0.First a1).bind fun r1 =>
  bif (decide (r1 < 0)) then (
  some (-1))
  else (
  (laws_heldChangeSS.f a0.Steps r1).bind fun r3 =>
  bif (decide (r3 < 0)) then (
  some (-1))
  else (
  some r3))

def laws_szIntS.f (a0 : List Int) (a1 : Int) : Option Int :=
  bif (decide ((w64 (a1 - (lenI a0))) < 0)) then (
  some (-1))
  else (
  some (w64 (a1 - (lenI a0))))

def laws_szSchema.f (a0 : Schema) (a1 : Int) : Option Int :=
  (laws_szIntS.f a0.Cols a1).bind fun r1 =>
  bif (decide (r1 < 0)) then (
  some (-1))
  else (
  some r1)

def laws_szRow.f (a0 : Row) (a1 : Int) : Option Int :=
  (laws_szIntS.f a0.Cells a1).bind fun r1 =>
  bif (decide (r1 < 0)) then (
  some (-1))
  else (
  some r1)

def laws_szRowS.l0 (a0 : List Row) : Nat → Int → Int → Option Int
  | 0, _, _ => none
  | k + 1, z5, z6 =>
    bif (decide (z6 < (lenI a0))) then (
    (getO a0 z6).bind fun x8 =>
    (laws_szRow.f x8 z5).bind fun r9 =>
    bif (decide (r9 < 0)) then (
    some (-1))
    else (
    laws_szRowS.l0 a0 k r9 (w64 (z6 + 1))))
    else (
    some z5)
def laws_szRowS.f (a0 : List Row) (a1 : Int) : Option Int :=
  bif (decide ((w64 (a1 - (lenI a0))) < 0)) then (
  some (-1))
  else (
  laws_szRowS.l0 a0 (((lenI a0) - 0).toNat + 1) (w64 (a1 - (lenI a0))) 0)

def laws_szRowSS.l0 (a0 : List (List Row)) : Nat → Int → Int → Option Int
  | 0, _, _ => none
  | k + 1, z5, z6 =>
    bif (decide (z6 < (lenI a0))) then (
    (getO a0 z6).bind fun x8 =>
    (laws_szRowS.f x8 z5).bind fun r9 =>
    bif (decide (r9 < 0)) then (
    some (-1))
    else (
    laws_szRowSS.l0 a0 k r9 (w64 (z6 + 1))))
    else (
    some z5)
def laws_szRowSS.f (a0 : List (List Row)) (a1 : Int) : Option Int :=
  bif (decide ((w64 (a1 - (lenI a0))) < 0)) then (
  some (-1))
  else (
  laws_szRowSS.l0 a0 (((lenI a0) - 0).toNat + 1) (w64 (a1 - (lenI a0))) 0)

def laws_szStore.f (a0 : Store) (a1 : Int) : Option Int :=
  (laws_szSchema.f a0.Schema a1).bind fun r1 =>
  bif (decide (r1 < 0)) then (
  some (-1))
  else (
  (laws_szRowSS.f a0.Tables r1).bind fun r3 =>
  bif (decide (r3 < 0)) then (
  some (-1))
  else (
  some r3))

def laws_szChange.f (a0 : Change) (a1 : Int) : Option Int :=
  (laws_szRow.f a0.Old a1).bind fun r1 =>
  bif (decide (r1 < 0)) then (
  some (-1))
  else (
  (laws_szRow.f a0.New r1).bind fun r3 =>
  bif (decide (r3 < 0)) then (
  some (-1))
  else (
  some r3))

def laws_szChangeS.l0 (a0 : List Change) : Nat → Int → Int → Option Int
  | 0, _, _ => none
  | k + 1, z5, z6 =>
    bif (decide (z6 < (lenI a0))) then (
    (getO a0 z6).bind fun x8 =>
    (laws_szChange.f x8 z5).bind fun r9 =>
    bif (decide (r9 < 0)) then (
    some (-1))
    else (
    laws_szChangeS.l0 a0 k r9 (w64 (z6 + 1))))
    else (
    some z5)
def laws_szChangeS.f (a0 : List Change) (a1 : Int) : Option Int :=
  bif (decide ((w64 (a1 - (lenI a0))) < 0)) then (
  some (-1))
  else (
  laws_szChangeS.l0 a0 (((lenI a0) - 0).toNat + 1) (w64 (a1 - (lenI a0))) 0)

def laws_szChangeSS.l0 (a0 : List (List Change)) : Nat → Int → Int → Option Int
  | 0, _, _ => none
  | k + 1, z5, z6 =>
    bif (decide (z6 < (lenI a0))) then (
    (getO a0 z6).bind fun x8 =>
    (laws_szChangeS.f x8 z5).bind fun r9 =>
    bif (decide (r9 < 0)) then (
    some (-1))
    else (
    laws_szChangeSS.l0 a0 k r9 (w64 (z6 + 1))))
    else (
    some z5)
def laws_szChangeSS.f (a0 : List (List Change)) (a1 : Int) : Option Int :=
  bif (decide ((w64 (a1 - (lenI a0))) < 0)) then (
  some (-1))
  else (
  laws_szChangeSS.l0 a0 (((lenI a0) - 0).toNat + 1) (w64 (a1 - (lenI a0))) 0)

def laws_szRecord.f (a0 : Record) (a1 : Int) : Option Int :=
  (laws_szStore.f a0.First a1).bind fun r1 =>
  bif (decide (r1 < 0)) then (
  some (-1))
  else (
  (laws_szChangeSS.f a0.Steps r1).bind fun r3 =>
  bif (decide (r3 < 0)) then (
  some (-1))
  else (
  some r3))

def spec_l1In.f (a0 : Int) (a1 : Int) (a2 : Int) : Option Bool :=
  some (bo3 (decide (a1 ≤ a0)) (decide (a0 ≤ a2)) false)

def spec_SchemaOk.l0 (a0 : Schema) (K2 : Unit → Option Bool) : Nat → Int → Option Bool
  | 0, _ => none
  | k + 1, z5 =>
    bif (decide (z5 < (lenI a0.Cols))) then (
    (getO a0.Cols z5).bind fun x7 =>
    (spec_l1In.f x7 1 4).bind fun r8 =>
    bif (bo3 r8 false true) then (
    some false)
    else (
    spec_SchemaOk.l0 a0 K2 k (w64 (z5 + 1))))
    else (
    K2 ())
def spec_SchemaOk.f (a0 : Schema) : Option Bool :=
  joinK (fun (y1 : Unit) =>
  (spec_l1In.f (lenI a0.Cols) 1 3).bind fun r10 =>
  some r10) (fun K2 =>
  spec_SchemaOk.l0 a0 K2 (((lenI a0.Cols) - 0).toNat + 1) 0)

def spec_RowOk.l0 (a2 : Row) : Nat → Int → Option Bool
  | 0, _ => none
  | k + 1, z35 =>
    bif (decide (z35 < (lenI a2.Cells))) then (
    (getO a2.Cells z35).bind fun x37 =>
    (spec_l1In.f x37 (-1000000000) 1000000000).bind fun r38 =>
    bif (bo3 r38 false true) then (
    some false)
    else (
    spec_RowOk.l0 a2 k (w64 (z35 + 1))))
    else (
    some true)
def spec_RowOk.f (a0 : Schema) (a1 : Int) (a2 : Row) : Option Bool :=
  (spec_SchemaOk.f a0).bind fun r1 =>
  (gd (bo3 (bo3 r1 false true) false true) (spec_l1In.f a1 0 (w64 ((lenI a0.Cols) - 1)))).bind fun r2 =>
  (gd (bo3 (bo3 (bo3 r1 false true) true (bo3 r2 false true)) false true) (spec_l1In.f a2.Id 1 999)).bind fun r3 =>
  (gd (bo3 (bo3 (bo3 (bo3 r1 false true) true (bo3 r2 false true)) true (bo3 r3 false true)) false true) (getO a0.Cols a1)).bind fun x4 =>
  bif (bo3 (bo3 (bo3 (bo3 r1 false true) true (bo3 r2 false true)) true (bo3 r3 false true)) true (decide ((lenI a2.Cells) ≠ x4))) then (
  some false)
  else (
  spec_RowOk.l0 a2 (((lenI a2.Cells) - 0).toNat + 1) 0)

def spec_RowsOk.l0 (a0 : Schema) (a1 : Int) (a2 : List Row) (K2 : Unit → Option Bool) : Nat → Int → Option Bool
  | 0, _ => none
  | k + 1, z7 =>
    bif (decide (z7 < (lenI a2))) then (
    (getO a2 z7).bind fun x9 =>
    (spec_RowOk.f a0 a1 x9).bind fun r10 =>
    (gd (bo3 (bo3 (bo3 r10 false true) false true) (decide (0 < z7)) false) (getO a2 (w64 (z7 - 1)))).bind fun x11 =>
    bif (bo3 (bo3 r10 false true) true (bo3 (decide (0 < z7)) (decide (x9.Id ≤ x11.Id)) false)) then (
    some false)
    else (
    spec_RowsOk.l0 a0 a1 a2 K2 k (w64 (z7 + 1))))
    else (
    K2 ())
def spec_RowsOk.f (a0 : Schema) (a1 : Int) (a2 : List Row) : Option Bool :=
  joinK (fun (y1 : Unit) =>
  (spec_SchemaOk.f a0).bind fun r33 =>
  (gd r33 (spec_l1In.f a1 0 (w64 ((lenI a0.Cols) - 1)))).bind fun r34 =>
  some (bo3 (bo3 r33 r34 false) (decide ((lenI a2) ≤ 24)) false)) (fun K2 =>
  spec_RowsOk.l0 a0 a1 a2 K2 (((lenI a2) - 0).toNat + 1) 0)

def spec_StoreOk.l0 (a0 : Store) : Nat → Int → Option Bool
  | 0, _ => none
  | k + 1, z24 =>
    bif (decide (z24 < (lenI a0.Tables))) then (
    (getO a0.Tables z24).bind fun x26 =>
    (spec_RowsOk.f a0.Schema z24 x26).bind fun r27 =>
    bif (bo3 r27 false true) then (
    some false)
    else (
    spec_StoreOk.l0 a0 k (w64 (z24 + 1))))
    else (
    some true)
def spec_StoreOk.f (a0 : Store) : Option Bool :=
  (spec_SchemaOk.f a0.Schema).bind fun r1 =>
  (gd (bo3 (bo3 r1 false true) false true) (spec_l1In.f a0.Version 0 100000)).bind fun r2 =>
  bif (bo3 (bo3 (bo3 r1 false true) true (bo3 r2 false true)) true (decide ((lenI a0.Tables) ≠ (lenI a0.Schema.Cols)))) then (
  some false)
  else (
  spec_StoreOk.l0 a0 (((lenI a0.Tables) - 0).toNat + 1) 0)

def spec_l7Schema.f (a0 : Schema) : Option Schema :=
  (appO 8 [] a0.Cols).bind fun l1 =>
  some (Schema.mk l1)

def spec_l6Copy.f (a0 : Row) : Option Row :=
  (appO 8 [] a0.Cells).bind fun l1 =>
  some (Row.mk a0.Id l1)

def spec_l6Rows.l0 (a0 : List Row) : Nat → (List Row) → Int → Option ((List Row))
  | 0, _, _ => none
  | k + 1, z4, z5 =>
    bif (decide (z5 < (lenI a0))) then (
    (getO a0 z5).bind fun x7 =>
    (spec_l6Copy.f x7).bind fun r8 =>
    (some [r8]).bind fun l9 =>
    (appO 32 z4 l9).bind fun l10 =>
    spec_l6Rows.l0 a0 k l10 (w64 (z5 + 1)))
    else (
    some z4)
def spec_l6Rows.f (a0 : List Row) : Option ((List Row)) :=
  spec_l6Rows.l0 a0 (((lenI a0) - 0).toNat + 1) [] 0

def spec_l7Copy.l0 (a0 : Store) (r1 : Schema) : Nat → (List (List Row)) → Int → Option Store
  | 0, _, _ => none
  | k + 1, z17, z18 =>
    bif (decide (z18 < (lenI a0.Tables))) then (
    (getO a0.Tables z18).bind fun x20 =>
    (spec_l6Rows.f x20).bind fun r21 =>
    (some [r21]).bind fun l22 =>
    (appO 24 z17 l22).bind fun l23 =>
    spec_l7Copy.l0 a0 r1 k l23 (w64 (z18 + 1)))
    else (
    some (Store.mk r1 a0.Version z17))
def spec_l7Copy.f (a0 : Store) : Option Store :=
  (spec_l7Schema.f a0.Schema).bind fun r1 =>
  spec_l7Copy.l0 a0 r1 (((lenI a0.Tables) - 0).toNat + 1) [] 0

def spec_l8Zero.f (a0 : Row) : Option Bool :=
  some (bo3 (decide (a0.Id = 0)) (decide ((lenI a0.Cells) = 0)) false)

def spec_RowAt.l0 (a0 : List Row) (a1 : Int) : Nat → Int → Option Int
  | 0, _ => none
  | k + 1, z4 =>
    bif (decide (z4 < (lenI a0))) then (
    (getO a0 z4).bind fun x6 =>
    bif (decide (x6.Id = a1)) then (
    some z4)
    else (
    spec_RowAt.l0 a0 a1 k (w64 (z4 + 1))))
    else (
    some (-1))
def spec_RowAt.f (a0 : List Row) (a1 : Int) : Option Int :=
  spec_RowAt.l0 a0 a1 (((lenI a0) - 0).toNat + 1) 0

def spec_RowSame.l0 (a0 : Row) (a1 : Row) : Nat → Int → Option Bool
  | 0, _ => none
  | k + 1, z16 =>
    bif (decide (z16 < (lenI a0.Cells))) then (
    (getO a0.Cells z16).bind fun x18 =>
    (getO a1.Cells z16).bind fun x19 =>
    bif (decide (x18 ≠ x19)) then (
    some false)
    else (
    spec_RowSame.l0 a0 a1 k (w64 (z16 + 1))))
    else (
    some true)
def spec_RowSame.f (a0 : Row) (a1 : Row) : Option Bool :=
  bif (bo3 (decide (a0.Id ≠ a1.Id)) true (decide ((lenI a0.Cells) ≠ (lenI a1.Cells)))) then (
  some false)
  else (
  spec_RowSame.l0 a0 a1 (((lenI a0.Cells) - 0).toNat + 1) 0)

def spec_l7There.f (a0 : Store) (a1 : Int) (a2 : Row) : Option Bool :=
  (spec_l1In.f a1 0 (w64 ((lenI a0.Tables) - 1))).bind fun r1 =>
  bif (bo3 r1 false true) then (
  some false)
  else (
  (getO a0.Tables a1).bind fun x3 =>
  (spec_RowAt.f x3 a2.Id).bind fun r4 =>
  (gd (decide (0 ≤ r4)) (getO x3 r4)).bind fun x5 =>
  (gd (decide (0 ≤ r4)) (spec_RowSame.f x5 a2)).bind fun r6 =>
  some (bo3 (decide (0 ≤ r4)) r6 false))

def spec_RowDrop.l0 (a0 : List Row) (r1 : Int) : Nat → (List Row) → Int → Option ((List Row))
  | 0, _, _ => none
  | k + 1, z6, z7 =>
    bif (decide (z7 < (lenI a0))) then (
    bif (decide (z7 ≠ r1)) then (
    (getO a0 z7).bind fun x10 =>
    (spec_l6Copy.f x10).bind fun r11 =>
    (some [r11]).bind fun l12 =>
    (appO 32 z6 l12).bind fun l13 =>
    spec_RowDrop.l0 a0 r1 k l13 (w64 (z7 + 1)))
    else (
    spec_RowDrop.l0 a0 r1 k z6 (w64 (z7 + 1))))
    else (
    some z6)
def spec_RowDrop.f (a0 : List Row) (a1 : Int) : Option ((List Row)) :=
  (spec_RowAt.f a0 a1).bind fun r1 =>
  spec_RowDrop.l0 a0 r1 (((lenI a0) - 0).toNat + 1) [] 0

def spec_RowPut.l0 (a1 : Row) (r1 : (List Row)) (K3 : Int → Option ((List Row))) : Nat → Int → Int → Option ((List Row))
  | 0, _, _ => none
  | k + 1, z12, z13 =>
    bif (decide (0 ≤ z13)) then (
    (getO r1 z13).bind fun x15 =>
    bif (decide (a1.Id < x15.Id)) then (
    spec_RowPut.l0 a1 r1 K3 k z13 (w64 (z13 - 1)))
    else (
    spec_RowPut.l0 a1 r1 K3 k z12 (w64 (z13 - 1))))
    else (
    K3 z12)
def spec_RowPut.f (a0 : List Row) (a1 : Row) : Option ((List Row)) :=
  (spec_RowDrop.f a0 a1.Id).bind fun r1 =>
  joinK (fun (y2 : Int) =>
  (cutO r1 0 y2).bind fun l17 =>
  (appO 32 [] l17).bind fun l18 =>
  (spec_l6Copy.f a1).bind fun r19 =>
  (some [r19]).bind fun l20 =>
  (appO 32 l18 l20).bind fun l21 =>
  (cutO r1 y2 (lenI r1)).bind fun l22 =>
  (appO 32 l21 l22).bind fun l23 =>
  some l23) (fun K3 =>
  (spec_RowAt.f a0 a1.Id).bind fun r4 =>
  bif (decide (0 ≤ r4)) then (
  (spec_RowAt.f a0 a1.Id).bind fun r6 =>
  K3 r6)
  else (
  spec_RowPut.l0 a1 r1 K3 (((w64 ((lenI r1) - 1)) - 0).toNat + 2) (lenI r1) (w64 ((lenI r1) - 1))))

def spec_l7Turn.f (a0 : Store) (a1 : Change) : Option (Store × Bool) :=
  (spec_l1In.f a1.Table 0 (w64 ((lenI a0.Tables) - 1))).bind fun r1 =>
  (gd (bo3 (bo3 (bo3 r1 false true) false true) a1.Had false) (spec_l7There.f a0 a1.Table a1.Old)).bind fun r2 =>
  bif (bo3 (bo3 r1 false true) true (bo3 a1.Had (bo3 r2 false true) false)) then (
  some (a0, false))
  else (
  (getO a0.Tables a1.Table).bind fun x19 =>
  bif a1.Had then (
  (spec_RowDrop.f x19 a1.Old.Id).bind fun r21 =>
  bif a1.Has then (
  (spec_RowAt.f r21 a1.New.Id).bind fun r23 =>
  bif (decide (0 ≤ r23)) then (
  some (a0, false))
  else (
  (spec_RowPut.f r21 a1.New).bind fun r25 =>
  (some (setI a0.Tables a1.Table r25)).bind fun l26 =>
  some ((Store.mk a0.Schema a0.Version l26), true)))
  else (
  (some (setI a0.Tables a1.Table r21)).bind fun l27 =>
  some ((Store.mk a0.Schema a0.Version l27), true)))
  else (
  bif a1.Has then (
  (spec_RowAt.f x19 a1.New.Id).bind fun r29 =>
  bif (decide (0 ≤ r29)) then (
  some (a0, false))
  else (
  (spec_RowPut.f x19 a1.New).bind fun r31 =>
  (some (setI a0.Tables a1.Table r31)).bind fun l32 =>
  some ((Store.mk a0.Schema a0.Version l32), true)))
  else (
  (some (setI a0.Tables a1.Table x19)).bind fun l33 =>
  some ((Store.mk a0.Schema a0.Version l33), true))))

def spec_Forward.l0 (a1 : List Change) (K14 : (List Int) → Int → (List (List Row)) → Option (Store × Bool)) : Nat → (List Int) → Int → (List (List Row)) → Int → Option (Store × Bool)
  | 0, _, _, _, _ => none
  | k + 1, z24, z25, z26, z27 =>
    bif (decide (z27 < (lenI a1))) then (
    (getO a1 z27).bind fun x29 =>
    (gd (bo3 (bo3 x29.Had false true) (bo3 (bo3 x29.Has false true) false true) false) (spec_l8Zero.f x29.Old)).bind fun r30 =>
    (gd (bo3 (bo3 (bo3 (bo3 x29.Had false true) (bo3 (bo3 x29.Has false true) true (bo3 r30 false true)) false) false true) (bo3 x29.Has false true) false) (spec_l8Zero.f x29.New)).bind fun r31 =>
    bif (bo3 (bo3 (bo3 x29.Had false true) (bo3 (bo3 x29.Has false true) true (bo3 r30 false true)) false) true (bo3 (bo3 x29.Has false true) (bo3 r31 false true) false)) then (
    some ((Store.mk (Schema.mk []) 0 []), false))
    else (
    (spec_l7Turn.f (Store.mk (Schema.mk z24) z25 z26) x29).bind fun r71 =>
    (gd (bo3 (bo3 r71.2 false true) false true) (spec_StoreOk.f r71.1)).bind fun r72 =>
    bif (bo3 (bo3 r71.2 false true) true (bo3 r72 false true)) then (
    some ((Store.mk (Schema.mk []) 0 []), false))
    else (
    spec_Forward.l0 a1 K14 k r71.1.Schema.Cols r71.1.Version r71.1.Tables (w64 (z27 + 1)))))
    else (
    K14 z24 z25 z26)
def spec_Forward.f (a0 : Store) (a1 : List Change) : Option (Store × Bool) :=
  (spec_StoreOk.f a0).bind fun r1 =>
  (gd (bo3 (bo3 r1 false true) false true) (spec_l1In.f (lenI a1) 1 5)).bind fun r2 =>
  bif (bo3 (bo3 r1 false true) true (bo3 r2 false true)) then (
  some ((Store.mk (Schema.mk []) 0 []), false))
  else (
  (spec_l7Copy.f a0).bind fun r10 =>
  joinK (fun (y11 : List Int) (y12 : Int) (y13 : List (List Row)) =>
  (spec_StoreOk.f (Store.mk (Schema.mk y11) (w64 (a0.Version + 1)) y13)).bind fun r79 =>
  bif (bo3 r79 false true) then (
  some ((Store.mk (Schema.mk []) 0 []), false))
  else (
  some ((Store.mk (Schema.mk y11) (w64 (a0.Version + 1)) y13), true))) (fun K14 =>
  spec_Forward.l0 a1 K14 (((lenI a1) - 0).toNat + 1) r10.Schema.Cols r10.Version r10.Tables 0))

def spec_RecordOk.l0 (a0 : Record) (K4 : (List Int) → Int → (List (List Row)) → Option Bool) : Nat → (List Int) → Int → (List (List Row)) → Int → Option Bool
  | 0, _, _, _, _ => none
  | k + 1, z13, z14, z15, z16 =>
    bif (decide (z16 < (lenI a0.Steps))) then (
    (getO a0.Steps z16).bind fun x18 =>
    (spec_Forward.f (Store.mk (Schema.mk z13) z14 z15) x18).bind fun r19 =>
    bif (bo3 r19.2 false true) then (
    some false)
    else (
    spec_RecordOk.l0 a0 K4 k r19.1.Schema.Cols r19.1.Version r19.1.Tables (w64 (z16 + 1))))
    else (
    K4 z13 z14 z15)
def spec_RecordOk.f (a0 : Record) : Option Bool :=
  joinK (fun (y1 : List Int) (y2 : Int) (y3 : List (List Row)) =>
  (spec_StoreOk.f (Store.mk (Schema.mk y1) y2 y3)).bind fun r21 =>
  some (bo3 r21 (decide ((lenI a0.Steps) ≤ 40)) false)) (fun K4 =>
  spec_RecordOk.l0 a0 K4 (((lenI a0.Steps) - 0).toNat + 1) a0.First.Schema.Cols a0.First.Version a0.First.Tables 0)

def spec_l8Changes.l0 (a0 : List Change) : Nat → (List Change) → Int → Option ((List Change))
  | 0, _, _ => none
  | k + 1, z4, z5 =>
    bif (decide (z5 < (lenI a0))) then (
    (getO a0 z5).bind fun x7 =>
    (spec_l6Copy.f x7.Old).bind fun r8 =>
    (spec_l6Copy.f x7.New).bind fun r9 =>
    (some [(Change.mk x7.Table x7.Had x7.Has r8 r9)]).bind fun l10 =>
    (appO 80 z4 l10).bind fun l11 =>
    spec_l8Changes.l0 a0 k l11 (w64 (z5 + 1)))
    else (
    some z4)
def spec_l8Changes.f (a0 : List Change) : Option ((List Change)) :=
  spec_l8Changes.l0 a0 (((lenI a0) - 0).toNat + 1) [] 0

def spec_l8Copy.l0 (a0 : Record) (r1 : Store) : Nat → (List (List Change)) → Int → Option Record
  | 0, _, _ => none
  | k + 1, z21, z22 =>
    bif (decide (z22 < (lenI a0.Steps))) then (
    (getO a0.Steps z22).bind fun x24 =>
    (spec_l8Changes.f x24).bind fun r25 =>
    (some [r25]).bind fun l26 =>
    (appO 24 z21 l26).bind fun l27 =>
    spec_l8Copy.l0 a0 r1 k l27 (w64 (z22 + 1)))
    else (
    some (Record.mk r1 z21))
def spec_l8Copy.f (a0 : Record) : Option Record :=
  (spec_l7Copy.f a0.First).bind fun r1 =>
  spec_l8Copy.l0 a0 r1 (((lenI a0.Steps) - 0).toNat + 1) [] 0

def spec_RecordPut.f (a0 : Record) (a1 : List Change) : Option (Record × Bool) :=
  (spec_RecordOk.f a0).bind fun r1 =>
  bif (bo3 r1 false true) then (
  some ((Record.mk (Store.mk (Schema.mk []) 0 []) []), false))
  else (
  (spec_l8Copy.f a0).bind fun r3 =>
  (spec_l8Changes.f a1).bind fun r4 =>
  (some [r4]).bind fun l5 =>
  (appO 24 r3.Steps l5).bind fun l6 =>
  (spec_RecordOk.f (Record.mk r3.First l6)).bind fun r7 =>
  bif (bo3 r7 false true) then (
  (spec_l8Copy.f a0).bind fun r9 =>
  some (r9, false))
  else (
  some ((Record.mk r3.First l6), true)))

def laws_toIntS.l0 (a0 : List Int) : Nat → (List Int) → Int → Option ((List Int))
  | 0, _, _ => none
  | k + 1, z5, z6 =>
    bif (decide (z6 < (lenI a0))) then (
    (getO a0 z6).bind fun x8 =>
    (getO z5 z6).bind fun x9 =>
    (some (setI z5 z6 x8)).bind fun l10 =>
    laws_toIntS.l0 a0 k l10 (w64 (z6 + 1)))
    else (
    some z5)
def laws_toIntS.f (a0 : List Int) : Option ((List Int)) :=
  (mkO 8 (lenI a0) 0).bind fun l1 =>
  laws_toIntS.l0 a0 (((lenI a0) - 0).toNat + 1) l1 0

def laws_toSchema.f (a0 : Schema) : Option Schema :=
  (laws_toIntS.f a0.Cols).bind fun r1 =>
  some (Schema.mk r1)

def laws_toRow.f (a0 : Row) : Option Row :=
  (laws_toIntS.f a0.Cells).bind fun r1 =>
  some (Row.mk a0.Id r1)

def laws_toRowS.l0 (a0 : List Row) : Nat → (List Row) → Int → Option ((List Row))
  | 0, _, _ => none
  | k + 1, z5, z6 =>
    bif (decide (z6 < (lenI a0))) then (
    (getO a0 z6).bind fun x8 =>
    (laws_toRow.f x8).bind fun r9 =>
    (getO z5 z6).bind fun x10 =>
    (some (setI z5 z6 r9)).bind fun l11 =>
    laws_toRowS.l0 a0 k l11 (w64 (z6 + 1)))
    else (
    some z5)
def laws_toRowS.f (a0 : List Row) : Option ((List Row)) :=
  (mkO 32 (lenI a0) (Row.mk 0 [])).bind fun l1 =>
  laws_toRowS.l0 a0 (((lenI a0) - 0).toNat + 1) l1 0

def laws_toRowSS.l0 (a0 : List (List Row)) : Nat → (List (List Row)) → Int → Option ((List (List Row)))
  | 0, _, _ => none
  | k + 1, z5, z6 =>
    bif (decide (z6 < (lenI a0))) then (
    (getO a0 z6).bind fun x8 =>
    (laws_toRowS.f x8).bind fun r9 =>
    (getO z5 z6).bind fun x10 =>
    (some (setI z5 z6 r9)).bind fun l11 =>
    laws_toRowSS.l0 a0 k l11 (w64 (z6 + 1)))
    else (
    some z5)
def laws_toRowSS.f (a0 : List (List Row)) : Option ((List (List Row))) :=
  (mkO 24 (lenI a0) []).bind fun l1 =>
  laws_toRowSS.l0 a0 (((lenI a0) - 0).toNat + 1) l1 0

def laws_toStore.f (a0 : Store) : Option Store :=
  (laws_toSchema.f a0.Schema).bind fun r1 =>
  (laws_toRowSS.f a0.Tables).bind fun r2 =>
  some (Store.mk r1 a0.Version r2)

def laws_toChange.f (a0 : Change) : Option Change :=
  (laws_toRow.f a0.Old).bind fun r1 =>
  (laws_toRow.f a0.New).bind fun r2 =>
  some (Change.mk a0.Table a0.Had a0.Has r1 r2)

def laws_toChangeS.l0 (a0 : List Change) : Nat → (List Change) → Int → Option ((List Change))
  | 0, _, _ => none
  | k + 1, z5, z6 =>
    bif (decide (z6 < (lenI a0))) then (
    (getO a0 z6).bind fun x8 =>
    (laws_toChange.f x8).bind fun r9 =>
    (getO z5 z6).bind fun x10 =>
    (some (setI z5 z6 r9)).bind fun l11 =>
    laws_toChangeS.l0 a0 k l11 (w64 (z6 + 1)))
    else (
    some z5)
def laws_toChangeS.f (a0 : List Change) : Option ((List Change)) :=
  (mkO 80 (lenI a0) (Change.mk 0 false false (Row.mk 0 []) (Row.mk 0 []))).bind fun l1 =>
  laws_toChangeS.l0 a0 (((lenI a0) - 0).toNat + 1) l1 0

def laws_toChangeSS.l0 (a0 : List (List Change)) : Nat → (List (List Change)) → Int → Option ((List (List Change)))
  | 0, _, _ => none
  | k + 1, z5, z6 =>
    bif (decide (z6 < (lenI a0))) then (
    (getO a0 z6).bind fun x8 =>
    (laws_toChangeS.f x8).bind fun r9 =>
    (getO z5 z6).bind fun x10 =>
    (some (setI z5 z6 r9)).bind fun l11 =>
    laws_toChangeSS.l0 a0 k l11 (w64 (z6 + 1)))
    else (
    some z5)
def laws_toChangeSS.f (a0 : List (List Change)) : Option ((List (List Change))) :=
  (mkO 24 (lenI a0) []).bind fun l1 =>
  laws_toChangeSS.l0 a0 (((lenI a0) - 0).toNat + 1) l1 0

def laws_toRecord.f (a0 : Record) : Option Record :=
  (laws_toStore.f a0.First).bind fun r1 =>
  (laws_toChangeSS.f a0.Steps).bind fun r2 =>
  some (Record.mk r1 r2)

def impl_copyInts.f (a0 : List Int) : Option ((List Int)) :=
  (appO 8 [] a0).bind fun l1 =>
  some l1

def impl_copyRow.f (a0 : Row) : Option Row :=
  (impl_copyInts.f a0.Cells).bind fun r1 =>
  some (Row.mk a0.Id r1)

def impl_copyRows.l0 (a0 : List Row) : Nat → (List Row) → Int → Option ((List Row))
  | 0, _, _ => none
  | k + 1, z5, z6 =>
    bif (decide (z6 < (lenI a0))) then (
    (getO a0 z6).bind fun x8 =>
    (impl_copyRow.f x8).bind fun r9 =>
    (some [r9]).bind fun l10 =>
    (appO 32 z5 l10).bind fun l11 =>
    impl_copyRows.l0 a0 k l11 (w64 (z6 + 1)))
    else (
    some z5)
def impl_copyRows.f (a0 : List Row) : Option ((List Row)) :=
  impl_copyRows.l0 a0 (((lenI a0) - 0).toNat + 1) [] 0

def impl_copyStore.l0 (a0 : Store) (r1 : (List Int)) : Nat → (List (List Row)) → Int → Option Store
  | 0, _, _ => none
  | k + 1, z15, z16 =>
    bif (decide (z16 < (lenI a0.Tables))) then (
    (getO a0.Tables z16).bind fun x18 =>
    (impl_copyRows.f x18).bind fun r19 =>
    (some [r19]).bind fun l20 =>
    (appO 24 z15 l20).bind fun l21 =>
    impl_copyStore.l0 a0 r1 k l21 (w64 (z16 + 1)))
    else (
    some (Store.mk (Schema.mk r1) a0.Version z15))
def impl_copyStore.f (a0 : Store) : Option Store :=
  (impl_copyInts.f a0.Schema.Cols).bind fun r1 =>
  impl_copyStore.l0 a0 r1 (((lenI a0.Tables) - 0).toNat + 1) [] 0

def impl_within.f (a0 : Int) (a1 : Int) (a2 : Int) : Option Bool :=
  some (bo3 (decide (a1 ≤ a0)) (decide (a0 ≤ a2)) false)

def impl_SchemaOk.l0 (a0 : Schema) (K2 : Unit → Option Bool) : Nat → Int → Option Bool
  | 0, _ => none
  | k + 1, z7 =>
    bif (decide (z7 < (lenI a0.Cols))) then (
    (getO a0.Cols z7).bind fun x9 =>
    (impl_within.f x9 1 4).bind fun r10 =>
    bif (bo3 r10 false true) then (
    some false)
    else (
    impl_SchemaOk.l0 a0 K2 k (w64 (z7 + 1))))
    else (
    K2 ())
def impl_SchemaOk.f (a0 : Schema) : Option Bool :=
  joinK (fun (y1 : Unit) =>
  (impl_within.f (lenI a0.Cols) 1 3).bind fun r12 =>
  some r12) (fun K2 =>
  impl_SchemaOk.l0 a0 K2 (((lenI a0.Cols) - 0).toNat + 1) 0)

def impl_isVersion.f (a0 : Int) : Option Bool :=
  (impl_within.f a0 0 100000).bind fun r1 =>
  some r1

def impl_hasTable.f (a0 : Schema) (a1 : Int) : Option Bool :=
  (impl_within.f a1 0 (w64 ((lenI a0.Cols) - 1))).bind fun r1 =>
  some r1

def impl_isNum.f (a0 : Int) : Option Bool :=
  (impl_within.f a0 (-1000000000) 1000000000).bind fun r1 =>
  some r1

def impl_RowOk.l0 (a2 : Row) (K2 : Unit → Option Bool) : Nat → Int → Option Bool
  | 0, _ => none
  | k + 1, z10 =>
    bif (decide (z10 < (lenI a2.Cells))) then (
    (getO a2.Cells z10).bind fun x12 =>
    (impl_isNum.f x12).bind fun r13 =>
    bif (bo3 r13 false true) then (
    some false)
    else (
    impl_RowOk.l0 a2 K2 k (w64 (z10 + 1))))
    else (
    K2 ())
def impl_RowOk.f (a0 : Schema) (a1 : Int) (a2 : Row) : Option Bool :=
  joinK (fun (y1 : Unit) =>
  (impl_SchemaOk.f a0).bind fun r15 =>
  (gd r15 (impl_hasTable.f a0 a1)).bind fun r16 =>
  (gd (bo3 r15 r16 false) (getO a0.Cols a1)).bind fun x17 =>
  (gd (bo3 (bo3 r15 r16 false) (decide ((lenI a2.Cells) = x17)) false) (impl_within.f a2.Id 1 999)).bind fun r18 =>
  some (bo3 (bo3 (bo3 r15 r16 false) (decide ((lenI a2.Cells) = x17)) false) r18 false)) (fun K2 =>
  impl_RowOk.l0 a2 K2 (((lenI a2.Cells) - 0).toNat + 1) 0)

def impl_RowsOk.l0 (a0 : Schema) (a1 : Int) (a2 : List Row) (K2 : Unit → Option Bool) : Nat → Int → Option Bool
  | 0, _ => none
  | k + 1, z9 =>
    bif (decide (z9 < (lenI a2))) then (
    (getO a2 z9).bind fun x11 =>
    (impl_RowOk.f a0 a1 x11).bind fun r12 =>
    (gd (bo3 (bo3 (bo3 r12 false true) false true) (decide (0 < z9)) false) (getO a2 (w64 (z9 - 1)))).bind fun x13 =>
    bif (bo3 (bo3 r12 false true) true (bo3 (decide (0 < z9)) (decide (x11.Id ≤ x13.Id)) false)) then (
    some false)
    else (
    impl_RowsOk.l0 a0 a1 a2 K2 k (w64 (z9 + 1))))
    else (
    K2 ())
def impl_RowsOk.f (a0 : Schema) (a1 : Int) (a2 : List Row) : Option Bool :=
  joinK (fun (y1 : Unit) =>
  (impl_SchemaOk.f a0).bind fun r32 =>
  (gd r32 (impl_hasTable.f a0 a1)).bind fun r33 =>
  some (bo3 (bo3 r32 r33 false) (decide ((lenI a2) ≤ 24)) false)) (fun K2 =>
  impl_RowsOk.l0 a0 a1 a2 K2 (((lenI a2) - 0).toNat + 1) 0)

def impl_StoreOk.l0 (a0 : Store) : Nat → Int → Option Bool
  | 0, _ => none
  | k + 1, z26 =>
    bif (decide (z26 < (lenI a0.Tables))) then (
    (getO a0.Tables z26).bind fun x28 =>
    (impl_RowsOk.f a0.Schema z26 x28).bind fun r29 =>
    bif (bo3 r29 false true) then (
    some false)
    else (
    impl_StoreOk.l0 a0 k (w64 (z26 + 1))))
    else (
    some true)
def impl_StoreOk.f (a0 : Store) : Option Bool :=
  (impl_SchemaOk.f a0.Schema).bind fun r1 =>
  (gd (bo3 (bo3 r1 false true) false true) (impl_isVersion.f a0.Version)).bind fun r2 =>
  bif (bo3 (bo3 (bo3 r1 false true) true (bo3 r2 false true)) true (decide ((lenI a0.Tables) ≠ (lenI a0.Schema.Cols)))) then (
  some false)
  else (
  impl_StoreOk.l0 a0 (((lenI a0.Tables) - 0).toNat + 1) 0)

def impl_noRow.f (a0 : Row) : Option Bool :=
  some (bo3 (decide (a0.Id = 0)) (decide ((lenI a0.Cells) = 0)) false)

def impl_changeFits.f (a0 : Schema) (a1 : Change) : Option Bool :=
  (gd a1.Had (impl_RowOk.f a0 a1.Table a1.Old)).bind fun r1 =>
  (gd (bo3 (bo3 (bo3 a1.Had r1 false) false true) (bo3 a1.Had false true) false) (impl_noRow.f a1.Old)).bind fun r2 =>
  (gd a1.Has (impl_RowOk.f a0 a1.Table a1.New)).bind fun r23 =>
  (gd (bo3 (bo3 (bo3 a1.Has r23 false) false true) (bo3 a1.Has false true) false) (impl_noRow.f a1.New)).bind fun r24 =>
  (gd (bo3 a1.Had true a1.Has) (impl_hasTable.f a0 a1.Table)).bind fun r45 =>
  some (bo3 (bo3 (bo3 (bo3 a1.Had true a1.Has) r45 false) (bo3 (bo3 a1.Had r1 false) true (bo3 (bo3 a1.Had false true) r2 false)) false) (bo3 (bo3 a1.Has r23 false) true (bo3 (bo3 a1.Has false true) r24 false)) false)

def impl_RowAt_1.f (a0 : Row) (a1 : Int) : Option Bool :=
  some (decide (a0.Id = a1))

def slices_IndexFunc_impl_Row__impl_RowAt_1.l0 (a0 : List Row) (a1c0 : Int) : Nat → Int → Option Int
  | 0, _ => none
  | k + 1, z5 =>
    bif (decide (z5 < (lenI a0))) then (
    (getO a0 z5).bind fun x7 =>
    (impl_RowAt_1.f x7 a1c0).bind fun r8 =>
    bif r8 then (
    some z5)
    else (
    slices_IndexFunc_impl_Row__impl_RowAt_1.l0 a0 a1c0 k (w64 (z5 + 1))))
    else (
    some (-1))
def slices_IndexFunc_impl_Row__impl_RowAt_1.f (a0 : List Row) (a1c0 : Int) : Option Int :=
  slices_IndexFunc_impl_Row__impl_RowAt_1.l0 a0 a1c0 (((lenI a0) - 0).toNat + 1) 0

def impl_RowAt.f (a0 : List Row) (a1 : Int) : Option Int :=
  (slices_IndexFunc_impl_Row__impl_RowAt_1.f a0 a1).bind fun r1 =>
  some r1

def slices_Equal_int.l0 (a0 : List Int) (a1 : List Int) : Nat → Int → Option Bool
  | 0, _ => none
  | k + 1, z6 =>
    bif (decide (z6 < (lenI a0))) then (
    (getO a0 z6).bind fun x8 =>
    (getO a1 z6).bind fun x9 =>
    bif (decide (x8 ≠ x9)) then (
    some false)
    else (
    slices_Equal_int.l0 a0 a1 k (w64 (z6 + 1))))
    else (
    some true)
def slices_Equal_int.f (a0 : List Int) (a1 : List Int) : Option Bool :=
  bif (decide ((lenI a0) ≠ (lenI a1))) then (
  some false)
  else (
  slices_Equal_int.l0 a0 a1 (((lenI a0) - 0).toNat + 1) 0)

def impl_RowSame.f (a0 : Row) (a1 : Row) : Option Bool :=
  (gd (decide (a0.Id = a1.Id)) (slices_Equal_int.f a0.Cells a1.Cells)).bind fun r1 =>
  some (bo3 (decide (a0.Id = a1.Id)) r1 false)

def slices_Delete_impl_Row.f (a0 : List Row) (a1 : Int) (a2 : Int) : Option (List Row) := delO a0 a1 a2

def impl_RowDrop.f (a0 : List Row) (a1 : Int) : Option ((List Row)) :=
  (impl_copyRows.f a0).bind fun r1 =>
  (impl_RowAt.f a0 a1).bind fun r2 =>
  bif (decide (0 ≤ r2)) then (
  (slices_Delete_impl_Row.f r1 r2 (w64 (r2 + 1))).bind fun r4 =>
  some r4)
  else (
  some r1)

def slices_Insert_impl_Row.f (a0 : List Row) (a1 : Int) (a2 : List Row) : Option (List Row) := insO 32 a0 a1 a2

def impl_RowPut_1.f (a0 : Row) (a1 : Row) : Option Bool :=
  some (decide (a1.Id < a0.Id))

def slices_IndexFunc_impl_Row__impl_RowPut_1.l0 (a0 : List Row) (a1c0 : Row) : Nat → Int → Option Int
  | 0, _ => none
  | k + 1, z6 =>
    bif (decide (z6 < (lenI a0))) then (
    (getO a0 z6).bind fun x8 =>
    (impl_RowPut_1.f x8 a1c0).bind fun r9 =>
    bif r9 then (
    some z6)
    else (
    slices_IndexFunc_impl_Row__impl_RowPut_1.l0 a0 a1c0 k (w64 (z6 + 1))))
    else (
    some (-1))
def slices_IndexFunc_impl_Row__impl_RowPut_1.f (a0 : List Row) (a1c0 : Row) : Option Int :=
  slices_IndexFunc_impl_Row__impl_RowPut_1.l0 a0 a1c0 (((lenI a0) - 0).toNat + 1) 0

def impl_RowPut.f (a0 : List Row) (a1 : Row) : Option ((List Row)) :=
  (impl_copyRows.f a0).bind fun r1 =>
  (impl_RowAt.f a0 a1.Id).bind fun r2 =>
  bif (decide (0 ≤ r2)) then (
  (impl_copyRow.f a1).bind fun r4 =>
  (getO r1 r2).bind fun x5 =>
  (some (setI r1 r2 r4)).bind fun l6 =>
  some l6)
  else (
  (slices_IndexFunc_impl_Row__impl_RowPut_1.f a0 a1).bind fun r7 =>
  joinK (fun (y8 : Int) =>
  (impl_copyRow.f a1).bind fun r11 =>
  (some [r11]).bind fun l12 =>
  (slices_Insert_impl_Row.f r1 y8 l12).bind fun r13 =>
  some r13) (fun K9 =>
  bif (decide (r7 < 0)) then (
  K9 (lenI a0))
  else (
  K9 r7)))

def impl_swapped.f (a0 : Store) (a1 : Int) (a2 : Bool) (a3 : Row) (a4 : Bool) (a5 : Row) : Option (Store × Bool) :=
  (impl_copyStore.f a0).bind fun r1 =>
  (impl_hasTable.f a0.Schema a1).bind fun r2 =>
  bif (bo3 r2 false true) then (
  some ((Store.mk (Schema.mk []) 0 []), false))
  else (
  (getO r1.Tables a1).bind fun x4 =>
  bif a2 then (
  (impl_RowAt.f x4 a3.Id).bind fun r6 =>
  (gd (bo3 (decide (r6 < 0)) false true) (getO x4 r6)).bind fun x7 =>
  (gd (bo3 (decide (r6 < 0)) false true) (impl_RowSame.f x7 a3)).bind fun r8 =>
  bif (bo3 (decide (r6 < 0)) true (bo3 r8 false true)) then (
  some ((Store.mk (Schema.mk []) 0 []), false))
  else (
  (impl_RowDrop.f x4 a3.Id).bind fun r19 =>
  bif a4 then (
  (impl_RowAt.f r19 a5.Id).bind fun r21 =>
  bif (decide (0 ≤ r21)) then (
  some ((Store.mk (Schema.mk []) 0 []), false))
  else (
  (impl_RowPut.f r19 a5).bind fun r23 =>
  (some (setI r1.Tables a1 r23)).bind fun l24 =>
  (impl_StoreOk.f (Store.mk r1.Schema r1.Version l24)).bind fun r25 =>
  some ((Store.mk r1.Schema r1.Version l24), r25)))
  else (
  (some (setI r1.Tables a1 r19)).bind fun l26 =>
  (impl_StoreOk.f (Store.mk r1.Schema r1.Version l26)).bind fun r27 =>
  some ((Store.mk r1.Schema r1.Version l26), r27))))
  else (
  bif a4 then (
  (impl_RowAt.f x4 a5.Id).bind fun r29 =>
  bif (decide (0 ≤ r29)) then (
  some ((Store.mk (Schema.mk []) 0 []), false))
  else (
  (impl_RowPut.f x4 a5).bind fun r31 =>
  (some (setI r1.Tables a1 r31)).bind fun l32 =>
  (impl_StoreOk.f (Store.mk r1.Schema r1.Version l32)).bind fun r33 =>
  some ((Store.mk r1.Schema r1.Version l32), r33)))
  else (
  (some (setI r1.Tables a1 x4)).bind fun l34 =>
  (impl_StoreOk.f (Store.mk r1.Schema r1.Version l34)).bind fun r35 =>
  some ((Store.mk r1.Schema r1.Version l34), r35))))

def impl_Forward.l0 (a0 : Store) (a1 : List Change) : Nat → (List Int) → Int → (List (List Row)) → Int → Option (Store × Bool)
  | 0, _, _, _, _ => none
  | k + 1, z26, z27, z28, z29 =>
    bif (decide (z29 < (lenI a1))) then (
    (getO a1 z29).bind fun x31 =>
    (impl_changeFits.f a0.Schema x31).bind fun r32 =>
    bif (bo3 r32 false true) then (
    some ((Store.mk (Schema.mk []) 0 []), false))
    else (
    (impl_swapped.f (Store.mk (Schema.mk z26) z27 z28) x31.Table x31.Had x31.Old x31.Has x31.New).bind fun r34 =>
    bif (bo3 r34.2 false true) then (
    some ((Store.mk (Schema.mk []) 0 []), false))
    else (
    impl_Forward.l0 a0 a1 k r34.1.Schema.Cols r34.1.Version r34.1.Tables (w64 (z29 + 1)))))
    else (
    some ((Store.mk (Schema.mk z26) (w64 (z27 + 1)) z28), true))
def impl_Forward.f (a0 : Store) (a1 : List Change) : Option (Store × Bool) :=
  (impl_StoreOk.f a0).bind fun r1 =>
  (gd (bo3 (bo3 r1 false true) false true) (impl_within.f (lenI a1) 1 5)).bind fun r2 =>
  bif (bo3 (bo3 (bo3 r1 false true) true (bo3 r2 false true)) true (decide (a0.Version = 100000))) then (
  some ((Store.mk (Schema.mk []) 0 []), false))
  else (
  (impl_copyStore.f a0).bind fun r15 =>
  impl_Forward.l0 a0 a1 (((lenI a1) - 0).toNat + 1) r15.Schema.Cols r15.Version r15.Tables 0)

def impl_after.l0 (l4 : List (List Change)) : Nat → (List Int) → Int → (List (List Row)) → Int → Option (Store × Bool)
  | 0, _, _, _, _ => none
  | k + 1, z12, z13, z14, z15 =>
    bif (decide (z15 < (lenI l4))) then (
    (getO l4 z15).bind fun x17 =>
    (impl_Forward.f (Store.mk (Schema.mk z12) z13 z14) x17).bind fun r18 =>
    bif (bo3 r18.2 false true) then (
    some ((Store.mk (Schema.mk []) 0 []), false))
    else (
    impl_after.l0 l4 k r18.1.Schema.Cols r18.1.Version r18.1.Tables (w64 (z15 + 1))))
    else (
    some ((Store.mk (Schema.mk z12) z13 z14), true))
def impl_after.f (a0 : Record) (a1 : Int) : Option (Store × Bool) :=
  (impl_copyStore.f a0.First).bind fun r1 =>
  (impl_StoreOk.f r1).bind fun r2 =>
  bif (bo3 r2 false true) then (
  some ((Store.mk (Schema.mk []) 0 []), false))
  else (
  (cutO a0.Steps 0 a1).bind fun l4 =>
  impl_after.l0 l4 (((lenI l4) - 0).toNat + 1) r1.Schema.Cols r1.Version r1.Tables 0)

def impl_RecordOk.f (a0 : Record) : Option Bool :=
  bif (decide (40 < (lenI a0.Steps))) then (
  some false)
  else (
  (impl_after.f a0 (lenI a0.Steps)).bind fun r2 =>
  some r2.2)

def impl_copyChange.f (a0 : Change) : Option Change :=
  (impl_copyRow.f a0.Old).bind fun r1 =>
  (impl_copyRow.f a0.New).bind fun r2 =>
  some (Change.mk a0.Table a0.Had a0.Has r1 r2)

def impl_copyChanges.l0 (a0 : List Change) : Nat → (List Change) → Int → Option ((List Change))
  | 0, _, _ => none
  | k + 1, z5, z6 =>
    bif (decide (z6 < (lenI a0))) then (
    (getO a0 z6).bind fun x8 =>
    (impl_copyChange.f x8).bind fun r9 =>
    (some [r9]).bind fun l10 =>
    (appO 80 z5 l10).bind fun l11 =>
    impl_copyChanges.l0 a0 k l11 (w64 (z6 + 1)))
    else (
    some z5)
def impl_copyChanges.f (a0 : List Change) : Option ((List Change)) :=
  impl_copyChanges.l0 a0 (((lenI a0) - 0).toNat + 1) [] 0

def impl_copyRecord.l0 (a0 : Record) (r1 : Store) : Nat → (List (List Change)) → Int → Option Record
  | 0, _, _ => none
  | k + 1, z17, z18 =>
    bif (decide (z18 < (lenI a0.Steps))) then (
    (getO a0.Steps z18).bind fun x20 =>
    (impl_copyChanges.f x20).bind fun r21 =>
    (some [r21]).bind fun l22 =>
    (appO 24 z17 l22).bind fun l23 =>
    impl_copyRecord.l0 a0 r1 k l23 (w64 (z18 + 1)))
    else (
    some (Record.mk r1 z17))
def impl_copyRecord.f (a0 : Record) : Option Record :=
  (impl_copyStore.f a0.First).bind fun r1 =>
  impl_copyRecord.l0 a0 r1 (((lenI a0.Steps) - 0).toNat + 1) [] 0

def impl_RecordPut.f (a0 : Record) (a1 : List Change) : Option (Record × Bool) :=
  (impl_RecordOk.f a0).bind fun r1 =>
  bif (bo3 r1 false true) then (
  some ((Record.mk (Store.mk (Schema.mk []) 0 []) []), false))
  else (
  (impl_copyRecord.f a0).bind fun r3 =>
  (impl_copyChanges.f a1).bind fun r4 =>
  (some [r4]).bind fun l5 =>
  (appO 24 r3.Steps l5).bind fun l6 =>
  (impl_RecordOk.f (Record.mk r3.First l6)).bind fun r7 =>
  bif (bo3 r7 false true) then (
  (impl_copyRecord.f a0).bind fun r9 =>
  some (r9, false))
  else (
  some ((Record.mk r3.First l6), true)))

def laws_FnExactRecordPut.f (a0 : Record) (a1 : List Change) : Option Bool :=
  (laws_szRecord.f a0 1048576).bind fun r1 =>
  bif (decide (r1 < 0)) then (
  some true)
  else (
  (laws_szChangeS.f a1 r1).bind fun r3 =>
  bif (decide (r3 < 0)) then (
  some true)
  else (
  (laws_toRecord.f a0).bind fun r5 =>
  (laws_toChangeS.f a1).bind fun r6 =>
  (spec_RecordPut.f r5 r6).bind fun r7 =>
  (laws_toRecord.f a0).bind fun r8 =>
  (laws_toChangeS.f a1).bind fun r9 =>
  (impl_RecordPut.f r8 r9).bind fun r10 =>
  (laws_eqRecord.f r10.1 r7.1).bind fun r11 =>
  bif (bo3 (bo3 r11 false true) true (bo3 r10.2 (bo3 r7.2 false true) r7.2)) then (
  some false)
  else (
  (laws_toRecord.f a0).bind fun r18 =>
  (laws_eqRecord.f r8 r18).bind fun r19 =>
  bif (bo3 r19 false true) then (
  some false)
  else (
  (laws_toChangeS.f a1).bind fun r21 =>
  (laws_eqChangeS.f r9 r21).bind fun r22 =>
  bif (bo3 r22 false true) then (
  some false)
  else (
  (laws_markRecord.f r8 1).bind fun r24 =>
  (laws_markChangeS.f r9 r24.2).bind fun r25 =>
  (gd (bo3 (decide (r25.2 < 0)) false true) (laws_eqRecord.f r10.1 r7.1)).bind fun r26 =>
  bif (bo3 (bo3 (decide (r25.2 < 0)) true (bo3 r26 false true)) true (bo3 r10.2 (bo3 r7.2 false true) r7.2)) then (
  some false)
  else (
  (laws_markRecord.f r10.1 1).bind fun r39 =>
  (laws_heldRecord.f (Record.mk (Store.mk r39.1.First.Schema r10.1.First.Version r39.1.First.Tables) r39.1.Steps) 1).bind fun r40 =>
  bif (decide (r40 < 0)) then (
  some false)
  else (
  bif (decide (r40 ≠ r39.2)) then (
  some false)
  else (
  (laws_toRecord.f a0).bind fun r43 =>
  (laws_toChangeS.f a1).bind fun r44 =>
  (impl_RecordPut.f r43 r44).bind fun r45 =>
  (laws_eqRecord.f r45.1 r7.1).bind fun r46 =>
  bif (bo3 (bo3 r46 false true) true (bo3 r45.2 (bo3 r7.2 false true) r7.2)) then (
  some false)
  else (
  (laws_heldRecord.f (Record.mk (Store.mk r39.1.First.Schema r10.1.First.Version r39.1.First.Tables) r39.1.Steps) 1).bind fun r53 =>
  bif (decide (r53 < 0)) then (
  some false)
  else (
  bif (decide (r53 ≠ r39.2)) then (
  some false)
  else (
  some true)))))))))))

end Go.Proofs.YtkpoiinkmodlnaaGreat.L
