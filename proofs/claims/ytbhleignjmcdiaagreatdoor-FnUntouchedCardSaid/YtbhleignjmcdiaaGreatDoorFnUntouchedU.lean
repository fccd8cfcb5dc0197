/- The pure functions of the program. -/
import Derived.Test.YtbhleignjmcdiaaGreatDoorFnUntouchedSl48
namespace Go.Proofs.YtbhleignjmcdiaaGreatDoor.L
open Go
set_option linter.unusedVariables false
structure Schema where
 Cols : List Int
 deriving Inhabited, DecidableEq
structure Row where
 Id : Int
 Cells : List Int
 deriving Inhabited, DecidableEq
structure Store where
 Schema : Schema
 Version : Int
 Tables : List (List Row)
 deriving Inhabited, DecidableEq
structure Cond where
 Col : Int
 Op : Int
 V : Int
 deriving Inhabited, DecidableEq
structure Query where
 Table : Int
 Where : List Cond
 Order : Int
 Down : Bool
 First : Int
 Show : List Int
 Kids : Bool
 KidTable : Int
 KidCol : Int
 deriving Inhabited, DecidableEq
structure Mut where
 Kind : Int
 Table : Int
 Row : Row
 deriving Inhabited, DecidableEq
structure Change where
 Table : Int
 Had : Bool
 Has : Bool
 Old : Row
 New : Row
 deriving Inhabited, DecidableEq
structure Json where
 Kind : Int
 N : Int
 S : ByteArray
 List_ : List Json
 Names : List ByteArray
instance : Inhabited Json := ⟨⟨0, 0, ByteArray.empty, [], []⟩⟩
noncomputable instance : DecidableEq Json := fun _ _ => Classical.propDecidable _
structure l1Cur where
 b : List Int
 i : Int
 h : Int
 deriving Inhabited, DecidableEq
def qdB.f (a0 : Int) (a1 : Int) (a2 : Int) : Option Bool :=
 some (bo3 (decide (a1 ≤ a0)) (decide (a0 ≤ a2)) false)
def qiH.f (a0 : Cond) (a1 : Row) : Option Bool :=
 (qdB.f a0.Col 0 (w64 ((lenI a1.Cells) - 1))).bind fun r1 =>
 bif (bo3 r1 false true) then (
 some false)
 else (
 (getO a1.Cells a0.Col).bind fun x3 =>
 bif (decide (a0.Op = 1)) then (
 some (decide (x3 = a0.V)))
 else (
 bif (decide (a0.Op = 2)) then (
 some (decide (x3 < a0.V)))
 else (
 bif (decide (a0.Op = 3)) then (
 some (decide (a0.V < x3)))
 else (
 some (bo3 (decide (a0.Op = 4)) (decide (x3 ≠ a0.V)) false)))))
def qUC.l0 (a0 : Query) (a1 : Row) : Nat → Int → Option Bool
 | 0, _ => none
 | k + 1, z6 =>
  bif (decide (z6 < (lenI a0.Where))) then (
  (getO a0.Where z6).bind fun x8 =>
  (qiH.f x8 a1).bind fun r9 =>
  bif (bo3 r9 false true) then (
  some false)
  else (
  qUC.l0 a0 a1 k (w64 (z6 + 1))))
  else (
  some true)
def qUC.f (a0 : Query) (a1 : Row) : Option Bool :=
 qUC.l0 a0 a1 (((lenI a0.Where) - 0).toNat + 1) 0
def qAE.f (a0 : Row) (a1 : Int) : Option Int :=
 (qdB.f a1 0 (w64 ((lenI a0.Cells) - 1))).bind fun r1 =>
 bif (bo3 r1 false true) then (
 some 0)
 else (
 (getO a0.Cells a1).bind fun x3 =>
 some x3)
def qrF.f (a0 : Query) (a1 : Change) : Option Bool :=
 (gd (bo3 (decide (a1.Table = a0.Table)) a1.Had false) (qUC.f a0 a1.Old)).bind fun r1 =>
 (gd (bo3 (bo3 (decide (a1.Table = a0.Table)) (bo3 (bo3 a1.Had r1 false) false true) false) a1.Has false) (qUC.f a0 a1.New)).bind fun r2 =>
 bif (bo3 (decide (a1.Table = a0.Table)) (bo3 (bo3 a1.Had r1 false) true (bo3 a1.Has r2 false)) false) then (
 some true)
 else (
 bif (bo3 (bo3 a0.Kids false true) true (decide (a1.Table ≠ a0.KidTable))) then (
 some false)
 else (
 (gd (bo3 (bo3 (bo3 a1.Had (bo3 a1.Has false true) a1.Has) false true) a1.Had false) (qAE.f a1.Old a0.KidCol)).bind fun r38 =>
 (gd (bo3 (bo3 (bo3 a1.Had (bo3 a1.Has false true) a1.Has) false true) a1.Had false) (qAE.f a1.New a0.KidCol)).bind fun r39 =>
 some (bo3 (bo3 a1.Had (bo3 a1.Has false true) a1.Has) true (bo3 a1.Had (decide (r38 ≠ r39)) false))))
def qpB.l0 (a0 : Query) (a1 : List Change) : Nat → Int → Option Bool
 | 0, _ => none
 | k + 1, z13 =>
  bif (decide (z13 < (lenI a1))) then (
  (getO a1 z13).bind fun x15 =>
  (qrF.f a0 x15).bind fun r16 =>
  bif r16 then (
  some true)
  else (
  qpB.l0 a0 a1 k (w64 (z13 + 1))))
  else (
  some false)
def qpB.f (a0 : Query) (a1 : List Change) : Option Bool :=
 qpB.l0 a0 a1 (((lenI a1) - 0).toNat + 1) 0
def qnC.f (a0 : Int) (a1 : Int) (a2 : Int) : Option Bool :=
 some (bo3 (decide (a1 ≤ a0)) (decide (a0 ≤ a2)) false)
def qsF.f (a0 : Cond) (a1 : Row) : Option Bool :=
 (qnC.f a0.Col 0 (w64 ((lenI a1.Cells) - 1))).bind fun r1 =>
 bif (bo3 r1 false true) then (
 some false)
 else (
 (getO a1.Cells a0.Col).bind fun x3 =>
 bif (decide (a0.Op = 1)) then (
 some (decide (x3 = a0.V)))
 else (
 bif (decide (a0.Op = 2)) then (
 some (decide (x3 < a0.V)))
 else (
 bif (decide (a0.Op = 3)) then (
 some (decide (a0.V < x3)))
 else (
 bif (decide (a0.Op = 4)) then (
 some (decide (x3 ≠ a0.V)))
 else (
 some false)))))
def qaC.l0 (a0 : Query) (a1 : Row) : Nat → Int → Option Bool
 | 0, _ => none
 | k + 1, z13 =>
  bif (decide (z13 < (lenI a0.Where))) then (
  (getO a0.Where z13).bind fun x15 =>
  (qsF.f x15 a1).bind fun r16 =>
  bif (bo3 r16 false true) then (
  some false)
  else (
  qaC.l0 a0 a1 k (w64 (z13 + 1))))
  else (
  some true)
def qaC.f (a0 : Query) (a1 : Row) : Option Bool :=
 qaC.l0 a0 a1 (((lenI a0.Where) - 0).toNat + 1) 0
def qjH.f (a0 : Query) (a1 : Change) : Option Bool :=
 (gd (bo3 (decide (a1.Table = a0.Table)) a1.Had false) (qaC.f a0 a1.Old)).bind fun r1 =>
 (gd (bo3 (bo3 (decide (a1.Table = a0.Table)) (bo3 (bo3 a1.Had r1 false) false true) false) a1.Has false) (qaC.f a0 a1.New)).bind fun r2 =>
 some (bo3 (decide (a1.Table = a0.Table)) (bo3 (bo3 a1.Had r1 false) true (bo3 a1.Has r2 false)) false)
def qXF.f (a0 : Row) (a1 : Int) : Option Int :=
 (qnC.f a1 0 (w64 ((lenI a0.Cells) - 1))).bind fun r1 =>
 bif (bo3 r1 false true) then (
 some 0)
 else (
 (getO a0.Cells a1).bind fun x3 =>
 some x3)
def qtF.f (a0 : Query) (a1 : Change) : Option Bool :=
 (qjH.f a0 a1).bind fun r1 =>
 bif r1 then (
 some true)
 else (
 bif (bo3 (bo3 (bo3 a0.Kids false true) true (decide (a1.Table ≠ a0.KidTable))) true (bo3 (bo3 a1.Had false true) (bo3 a1.Has false true) false)) then (
 some false)
 else (
 (gd (bo3 (bo3 a1.Had (bo3 a1.Has false true) a1.Has) false true) (qXF.f a1.Old a0.KidCol)).bind fun r23 =>
 (gd (bo3 (bo3 a1.Had (bo3 a1.Has false true) a1.Has) false true) (qXF.f a1.New a0.KidCol)).bind fun r24 =>
 some (bo3 (bo3 a1.Had (bo3 a1.Has false true) a1.Has) true (decide (r23 ≠ r24)))))
def qvB.l0 (a0 : Query) (a1 : List Change) : Nat → Int → Option Bool
 | 0, _ => none
 | k + 1, z12 =>
  bif (decide (z12 < (lenI a1))) then (
  (getO a1 z12).bind fun x14 =>
  (qtF.f a0 x14).bind fun r15 =>
  bif r15 then (
  some true)
  else (
  qvB.l0 a0 a1 k (w64 (z12 + 1))))
  else (
  some false)
def qvB.f (a0 : Query) (a1 : List Change) : Option Bool :=
 qvB.l0 a0 a1 (((lenI a1) - 0).toNat + 1) 0
def qHD.f (a0 : Schema) (a1 : Int) : Option Bool :=
 (qdB.f a1 0 (w64 ((lenI a0.Cols) - 1))).bind fun r1 =>
 some r1
def qYF.f (a0 : Int) : Option Bool :=
 (qdB.f a0 (-1000000000) 1000000000).bind fun r1 =>
 some r1
def quF.f (a0 : Schema) (a1 : Query) : Option Bool :=
 bif (bo3 a1.Kids false true) then (
 some (bo3 (decide (a1.KidTable = 0)) (decide (a1.KidCol = 0)) false))
 else (
 (qHD.f a0 a1.KidTable).bind fun r7 =>
 (gd r7 (getO a0.Cols a1.KidTable)).bind fun x8 =>
 (gd r7 (qdB.f a1.KidCol 0 (w64 (x8 - 1)))).bind fun r9 =>
 some (bo3 r7 r9 false))
def qmB.l0 (a0 : Schema) (K2 : Unit → Option Bool) : Nat → Int → Option Bool
 | 0, _ => none
 | k + 1, z7 =>
  bif (decide (z7 < (lenI a0.Cols))) then (
  (getO a0.Cols z7).bind fun x9 =>
  (qdB.f x9 1 4).bind fun r10 =>
  bif (bo3 r10 false true) then (
  some false)
  else (
  qmB.l0 a0 K2 k (w64 (z7 + 1))))
  else (
  K2 ())
def qmB.f (a0 : Schema) : Option Bool :=
 joinK (fun (y1 : Unit) =>
 (qdB.f (lenI a0.Cols) 1 3).bind fun r12 =>
 some r12) (fun K2 =>
 qmB.l0 a0 K2 (((lenI a0.Cols) - 0).toNat + 1) 0)
def qXB.l0 (a1 : Query) (x11 : Int) (K13 : Unit → Option Bool) : Nat → Int → Option Bool
 | 0, _ => none
 | k + 1, z28 =>
  bif (decide (z28 < (lenI a1.Where))) then (
  (getO a1.Where z28).bind fun x30 =>
  (qdB.f x30.Col 0 (w64 (x11 - 1))).bind fun r31 =>
  (gd (bo3 (bo3 r31 false true) false true) (qdB.f x30.Op 1 4)).bind fun r32 =>
  (gd (bo3 (bo3 (bo3 r31 false true) true (bo3 r32 false true)) false true) (qYF.f x30.V)).bind fun r33 =>
  bif (bo3 (bo3 (bo3 r31 false true) true (bo3 r32 false true)) true (bo3 r33 false true)) then (
  some false)
  else (
  qXB.l0 a1 x11 K13 k (w64 (z28 + 1))))
  else (
  K13 ())
def qXB.l1 (a1 : Query) (x11 : Int) (K48 : Unit → Option Bool) : Nat → Int → Option Bool
 | 0, _ => none
 | k + 1, z63 =>
  bif (decide (z63 < (lenI a1.Show))) then (
  (getO a1.Show z63).bind fun x65 =>
  (qdB.f x65 0 (w64 (x11 - 1))).bind fun r66 =>
  (gd (bo3 (bo3 (bo3 r66 false true) false true) (decide (0 < z63)) false) (getO a1.Show (w64 (z63 - 1)))).bind fun x67 =>
  bif (bo3 (bo3 r66 false true) true (bo3 (decide (0 < z63)) (decide (x65 ≤ x67)) false)) then (
  some false)
  else (
  qXB.l1 a1 x11 K48 k (w64 (z63 + 1))))
  else (
  K48 ())
def qXB.f (a0 : Schema) (a1 : Query) : Option Bool :=
 (qmB.f a0).bind fun r1 =>
 (gd (bo3 (bo3 r1 false true) false true) (qHD.f a0 a1.Table)).bind fun r2 =>
 bif (bo3 (bo3 r1 false true) true (bo3 r2 false true)) then (
 some false)
 else (
 (getO a0.Cols a1.Table).bind fun x11 =>
 joinK (fun (y12 : Unit) =>
 joinK (fun (y47 : Unit) =>
 (qdB.f a1.Order 0 x11).bind fun r85 =>
 (gd (bo3 (decide ((lenI a1.Where) ≤ 3)) (bo3 r85 (bo3 (bo3 a1.Down false true) true (decide (0 < a1.Order))) false) false) (qdB.f a1.First 0 24)).bind fun r98 =>
 (gd (bo3 (bo3 (decide ((lenI a1.Where) ≤ 3)) (bo3 r85 (bo3 (bo3 a1.Down false true) true (decide (0 < a1.Order))) false) false) r98 false) (quF.f a0 a1)).bind fun r99 =>
 some (bo3 (bo3 (bo3 (decide ((lenI a1.Where) ≤ 3)) (bo3 r85 (bo3 (bo3 a1.Down false true) true (decide (0 < a1.Order))) false) false) r98 false) r99 false)) (fun K48 =>
 qXB.l1 a1 x11 K48 (((lenI a1.Show) - 0).toNat + 1) 0)) (fun K13 =>
 qXB.l0 a1 x11 K13 (((lenI a1.Where) - 0).toNat + 1) 0))
def qyB.l0 (a0 : Schema) (a1 : List Query) (a2 : List Change) : Nat → (List Int) → Int → Option ((List Int))
 | 0, _, _ => none
 | k + 1, z7, z8 =>
  bif (decide (z8 < (lenI a1))) then (
  (getO a1 z8).bind fun x10 =>
  (qXB.f a0 x10).bind fun r11 =>
  (gd r11 (qpB.f x10 a2)).bind fun r12 =>
  bif (bo3 r11 r12 false) then (
  (some [z8]).bind fun l19 =>
  (appO 8 z7 l19).bind fun l20 =>
  qyB.l0 a0 a1 a2 k l20 (w64 (z8 + 1)))
  else (
  qyB.l0 a0 a1 a2 k z7 (w64 (z8 + 1))))
  else (
  some z7)
def qyB.f (a0 : Schema) (a1 : List Query) (a2 : List Change) : Option ((List Int)) :=
 qyB.l0 a0 a1 a2 (((lenI a1) - 0).toNat + 1) [] 0
def qBD.l0 (a0 : ByteArray) : Nat → Int → Int → Option Bool
 | 0, _, _ => none
 | k + 1, z4, z5 =>
  bif (decide (z5 < z4)) then (
  (inS a0 z5).bind fun u7 =>
  (qdB.f (w64 (Ls.sx a0 z5)) 32 126).bind fun r8 =>
  bif (bo3 r8 false true) then (
  some false)
  else (
  qBD.l0 a0 k z4 (w64 (z5 + 1))))
  else (
  some (decide ((Ls.sl a0) ≤ 60)))
def qBD.f (a0 : ByteArray) : Option Bool :=
 qBD.l0 a0 (((Ls.sl a0) - 0).toNat + 1) (Ls.sl a0) 0
def qjC.l0 (a0 : List ByteArray) : Nat → Int → Option Bool
 | 0, _ => none
 | k + 1, z5 =>
  bif (decide (z5 < (lenI a0))) then (
  (getO a0 z5).bind fun x7 =>
  (qBD.f x7).bind fun r8 =>
  (gd (bo3 (bo3 (bo3 r8 false true) false true) (decide (0 < z5)) false) (getO a0 (w64 (z5 - 1)))).bind fun x9 =>
  bif (bo3 (bo3 r8 false true) true (bo3 (decide (0 < z5)) (Ls.sc .geq x9 x7) false)) then (
  some false)
  else (
  qjC.l0 a0 k (w64 (z5 + 1))))
  else (
  some true)
def qjC.f (a0 : List ByteArray) : Option Bool :=
 qjC.l0 a0 (((lenI a0) - 0).toNat + 1) 0
def qkH.f (a0 : Json) : Option Bool :=
 bif (bo3 (bo3 (bo3 (decide (0 < (lenI a0.List_))) (decide (a0.Kind ≠ 4)) false) (decide (a0.Kind ≠ 5)) false) true (bo3 (decide (0 < (lenI a0.Names))) (decide (a0.Kind ≠ 5)) false)) then (
 some false)
 else (
 bif (bo3 (bo3 (bo3 (decide (a0.N ≠ 0)) (decide (a0.Kind ≠ 1)) false) (decide (a0.Kind ≠ 2)) false) true (bo3 (Ls.sc .neq a0.S (ByteArray.mk #[])) (decide (a0.Kind ≠ 3)) false)) then (
 some false)
 else (
 bif (decide (a0.Kind = 1)) then (
 (qdB.f a0.N 0 1).bind fun r49 =>
 some r49)
 else (
 bif (decide (a0.Kind = 2)) then (
 (qYF.f a0.N).bind fun r51 =>
 some r51)
 else (
 bif (decide (a0.Kind = 3)) then (
 (qBD.f a0.S).bind fun r53 =>
 some r53)
 else (
 bif (decide (a0.Kind = 5)) then (
 (gd (decide ((lenI a0.Names) = (lenI a0.List_))) (qjC.f a0.Names)).bind fun r55 =>
 some (bo3 (decide ((lenI a0.Names) = (lenI a0.List_))) r55 false))
 else (
 some (bo3 (decide (a0.Kind = 0)) true (decide (a0.Kind = 4)))))))))
def qiB.l0 (a0 : Json) (a1 : Int) (self : Json → Int → Option Int) : Nat → Int → Int → Option Int
 | 0, _, _ => none
 | k + 1, z13, z14 =>
  bif (decide (z14 < (lenI a0.List_))) then (
  (getO a0.List_ z14).bind fun x16 =>
  (self x16 (w64 (a1 - 1))).bind fun r17 =>
  bif (decide (400 < (w64 (z13 + r17)))) then (
  some 401)
  else (
  qiB.l0 a0 a1 self k (w64 (z13 + r17)) (w64 (z14 + 1))))
  else (
  some z13)
def qiB.b (self : Json → Int → Option Int) (a0 : Json) (a1 : Int) : Option Int :=
 (gd (bo3 (decide (a1 < 1)) false true) (qkH.f a0)).bind fun r1 =>
 bif (bo3 (decide (a1 < 1)) true (bo3 r1 false true)) then (
 some 401)
 else (
 qiB.l0 a0 a1 self (((lenI a0.List_) - 0).toNat + 1) 1 0)
def qiB.g : Nat → Json → Int → Option Int
 | 0 => fun _ _ => none
 | k + 1 => qiB.b (qiB.g k)
def qiB.f (a0 : Json) (a1 : Int) : Option Int := qiB.g 20 a0 a1
def qCF.f (a0 : Json) : Option Bool :=
 (qiB.f a0 6).bind fun r1 =>
 some (decide (r1 ≤ 400))
def qVB.l0 (a0 : List ByteArray) (a1 : List ByteArray) : Nat → Int → Option Bool
 | 0, _ => none
 | k + 1, z6 =>
  bif (decide (z6 < (lenI a0))) then (
  (getO a0 z6).bind fun x8 =>
  (getO a1 z6).bind fun x9 =>
  bif (Ls.sc .neq x8 x9) then (
  some false)
  else (
  qVB.l0 a0 a1 k (w64 (z6 + 1))))
  else (
  some true)
def qVB.f (a0 : List ByteArray) (a1 : List ByteArray) : Option Bool :=
 bif (decide ((lenI a0) ≠ (lenI a1))) then (
 some false)
 else (
 qVB.l0 a0 a1 (((lenI a0) - 0).toNat + 1) 0)
def qP.l0 (a0 : List Json) (a1 : List Json) (self : Json → Json → Option Bool) : Nat → Int → Option Bool
 | 0, _ => none
 | k + 1, z6 =>
  bif (decide (z6 < (lenI a0))) then (
  (getO a0 z6).bind fun x8 =>
  (getO a1 z6).bind fun x9 =>
  (self x8 x9).bind fun r10 =>
  bif (bo3 r10 false true) then (
  some false)
  else (
  qP.l0 a0 a1 self k (w64 (z6 + 1))))
  else (
  some true)
def qP.f (self : Json → Json → Option Bool) (a0 : List Json) (a1 : List Json) : Option Bool :=
 bif (decide ((lenI a0) ≠ (lenI a1))) then (
 some false)
 else (
 qP.l0 a0 a1 self (((lenI a0) - 0).toNat + 1) 0)
def qrC.b (self : Json → Json → Option Bool) (a0 : Json) (a1 : Json) : Option Bool :=
 (gd (bo3 (bo3 (decide (a0.Kind = a1.Kind)) (decide (a0.N = a1.N)) false) (Ls.sc .eql a0.S a1.S) false) (qVB.f a0.Names a1.Names)).bind fun r1 =>
 (gd (bo3 (bo3 (bo3 (decide (a0.Kind = a1.Kind)) (decide (a0.N = a1.N)) false) (Ls.sc .eql a0.S a1.S) false) r1 false) (qP.f self a0.List_ a1.List_)).bind fun r2 =>
 some (bo3 (bo3 (bo3 (bo3 (decide (a0.Kind = a1.Kind)) (decide (a0.N = a1.N)) false) (Ls.sc .eql a0.S a1.S) false) r1 false) r2 false)
def qrC.g : Nat → Json → Json → Option Bool
 | 0 => fun _ _ => none
 | k + 1 => qrC.b (qrC.g k)
def qrC.f (a0 : Json) (a1 : Json) : Option Bool := qrC.g 20 a0 a1
def qjE.f (a0 : Json) (a1 : Json) : Option Bool :=
 (qCF.f a0).bind fun r1 =>
 (gd r1 (qCF.f a1)).bind fun r2 =>
 (gd (bo3 r1 r2 false) (qrC.f a0 a1)).bind fun r3 =>
 some (bo3 (bo3 r1 r2 false) r3 false)
def qTE.f (a0 : Int) : Option Bool :=
 (qdB.f a0 0 100000).bind fun r1 =>
 some r1
def qPD.l0 (a2 : Row) (K2 : Unit → Option Bool) : Nat → Int → Option Bool
 | 0, _ => none
 | k + 1, z10 =>
  bif (decide (z10 < (lenI a2.Cells))) then (
  (getO a2.Cells z10).bind fun x12 =>
  (qYF.f x12).bind fun r13 =>
  bif (bo3 r13 false true) then (
  some false)
  else (
  qPD.l0 a2 K2 k (w64 (z10 + 1))))
  else (
  K2 ())
def qPD.f (a0 : Schema) (a1 : Int) (a2 : Row) : Option Bool :=
 joinK (fun (y1 : Unit) =>
 (qmB.f a0).bind fun r15 =>
 (gd r15 (qHD.f a0 a1)).bind fun r16 =>
 (gd (bo3 r15 r16 false) (getO a0.Cols a1)).bind fun x17 =>
 (gd (bo3 (bo3 r15 r16 false) (decide ((lenI a2.Cells) = x17)) false) (qdB.f a2.Id 1 999)).bind fun r18 =>
 some (bo3 (bo3 (bo3 r15 r16 false) (decide ((lenI a2.Cells) = x17)) false) r18 false)) (fun K2 =>
 qPD.l0 a2 K2 (((lenI a2.Cells) - 0).toNat + 1) 0)
def qCD.l0 (a0 : Schema) (a1 : Int) (a2 : List Row) (K2 : Unit → Option Bool) : Nat → Int → Option Bool
 | 0, _ => none
 | k + 1, z9 =>
  bif (decide (z9 < (lenI a2))) then (
  (getO a2 z9).bind fun x11 =>
  (qPD.f a0 a1 x11).bind fun r12 =>
  (gd (bo3 (bo3 (bo3 r12 false true) false true) (decide (0 < z9)) false) (getO a2 (w64 (z9 - 1)))).bind fun x13 =>
  bif (bo3 (bo3 r12 false true) true (bo3 (decide (0 < z9)) (decide (x11.Id ≤ x13.Id)) false)) then (
  some false)
  else (
  qCD.l0 a0 a1 a2 K2 k (w64 (z9 + 1))))
  else (
  K2 ())
def qCD.f (a0 : Schema) (a1 : Int) (a2 : List Row) : Option Bool :=
 joinK (fun (y1 : Unit) =>
 (qmB.f a0).bind fun r32 =>
 (gd r32 (qHD.f a0 a1)).bind fun r33 =>
 some (bo3 (bo3 r32 r33 false) (decide ((lenI a2) ≤ 24)) false)) (fun K2 =>
 qCD.l0 a0 a1 a2 K2 (((lenI a2) - 0).toNat + 1) 0)
def quB.l0 (a0 : Store) : Nat → Int → Option Bool
 | 0, _ => none
 | k + 1, z26 =>
  bif (decide (z26 < (lenI a0.Tables))) then (
  (getO a0.Tables z26).bind fun x28 =>
  (qCD.f a0.Schema z26 x28).bind fun r29 =>
  bif (bo3 r29 false true) then (
  some false)
  else (
  quB.l0 a0 k (w64 (z26 + 1))))
  else (
  some true)
def quB.f (a0 : Store) : Option Bool :=
 (qmB.f a0.Schema).bind fun r1 =>
 (gd (bo3 (bo3 r1 false true) false true) (qTE.f a0.Version)).bind fun r2 =>
 bif (bo3 (bo3 (bo3 r1 false true) true (bo3 r2 false true)) true (decide ((lenI a0.Tables) ≠ (lenI a0.Schema.Cols)))) then (
 some false)
 else (
 quB.l0 a0 (((lenI a0.Tables) - 0).toNat + 1) 0)
def qkE.f (a0 : List Int) : Option ((List Int)) :=
 (appO 8 [] a0).bind fun l1 =>
 some l1
def qxC.f (a0 : Row) : Option Row :=
 (qkE.f a0.Cells).bind fun r1 =>
 some (Row.mk a0.Id r1)
def qlH.f (a0 : Query) (a1 : Row) (a2 : Row) : Option Bool :=
 bif (decide (a0.Order = 0)) then (
 some (decide (a1.Id < a2.Id)))
 else (
 (qAE.f a1 (w64 (a0.Order - 1))).bind fun r2 =>
 (qAE.f a2 (w64 (a0.Order - 1))).bind fun r3 =>
 bif (decide (r2 = r3)) then (
 some (decide (a1.Id < a2.Id)))
 else (
 bif a0.Down then (
 some (decide (r3 < r2)))
 else (
 some (decide (r2 < r3)))))
def qMD.f (a0 : Row) (a1 : Row) (a2 : Query) : Option Int :=
 (qlH.f a2 a0 a1).bind fun r1 =>
 bif r1 then (
 some (-1))
 else (
 some 1)
def qD.l1 (a1 : Int) (a3c0 : Query) (K18 : (List Row) → Option ((List Row))) : Nat → (List Row) → Int → Option ((List Row))
 | 0, _, _ => none
 | k + 1, z33, z34 =>
  (gd (decide (a1 < z34)) (getO z33 z34)).bind fun x35 =>
  (gd (decide (a1 < z34)) (getO z33 (w64 (z34 - 1)))).bind fun x36 =>
  (gd (decide (a1 < z34)) (qMD.f x35 x36 a3c0)).bind fun r37 =>
  bif (bo3 (decide (a1 < z34)) (decide (r37 < 0)) false) then (
  (getO z33 (w64 (z34 - 1))).bind fun x53 =>
  (getO z33 z34).bind fun x54 =>
  (neO (w64 (z34 - 1)) z34).bind fun u55 =>
  (some (setI (setI z33 z34 x53) (w64 (z34 - 1)) x54)).bind fun l56 =>
  qD.l1 a1 a3c0 K18 k l56 (w64 (z34 - 1)))
  else (
  K18 z33)
def qD.l0 (a1 : Int) (a2 : Int) (a3c0 : Query) : Nat → (List Row) → Int → Option ((List Row))
 | 0, _, _ => none
 | k + 1, z14, z15 =>
  bif (decide (z15 < a2)) then (
  joinK (fun (y17 : List Row) =>
  qD.l0 a1 a2 a3c0 k y17 (w64 (z15 + 1))) (fun K18 =>
  qD.l1 a1 a3c0 K18 ((z15 - a1).toNat + 1) z14 z15))
  else (
  some z14)
def qD.f (a0 : List Row) (a1 : Int) (a2 : Int) (a3c0 : Query) : Option ((List Row)) :=
 qD.l0 a1 a2 a3c0 ((a2 - (w64 (a1 + 1))).toNat + 1) a0 (w64 (a1 + 1))
def qF.l0 (a1 : Int) (a2 : Int) (a3 : Int) : Nat → (List Row) → Int → Option ((List Row))
 | 0, _, _ => none
 | k + 1, z6, z7 =>
  bif (decide (z7 < a3)) then (
  (getO z6 (w64 (a2 + z7))).bind fun x9 =>
  (getO z6 (w64 (a1 + z7))).bind fun x10 =>
  (neO (w64 (a2 + z7)) (w64 (a1 + z7))).bind fun u11 =>
  (some (setI (setI z6 (w64 (a1 + z7)) x9) (w64 (a2 + z7)) x10)).bind fun l12 =>
  qF.l0 a1 a2 a3 k l12 (w64 (z7 + 1)))
  else (
  some z6)
def qF.f (a0 : List Row) (a1 : Int) (a2 : Int) (a3 : Int) (a4c0 : Query) : Option ((List Row)) :=
 qF.l0 a1 a2 a3 ((a3 - 0).toNat + 1) a0 0
def qH.l0 (a2 : Int) (a4c0 : Query) (K3 : (List Row) → Int → Option ((List Row))) : Nat → (List Row) → Int → Int → Option ((List Row))
 | 0, _, _, _ => none
 | k + 1, z17, z18, z19 =>
  bif (decide (z18 ≠ z19)) then (
  bif (decide (z19 < z18)) then (
  (qF.f z17 (w64 (a2 - z18)) a2 z19 a4c0).bind fun r22 =>
  qH.l0 a2 a4c0 K3 k r22 (w64 (z18 - z19)) z19)
  else (
  (qF.f z17 (w64 (a2 - z18)) (w64 ((w64 (a2 + z19)) - z18)) z18 a4c0).bind fun r23 =>
  qH.l0 a2 a4c0 K3 k r23 z18 (w64 (z19 - z18))))
  else (
  K3 z17 z18)
def qH.f (a0 : List Row) (a1 : Int) (a2 : Int) (a3 : Int) (a4c0 : Query) : Option ((List Row)) :=
 joinK (fun (y1 : List Row) (y2 : Int) =>
 (qF.f y1 (w64 (a2 - y2)) a2 y2 a4c0).bind fun r24 =>
 some r24) (fun K3 =>
 qH.l0 a2 a4c0 K3 1000 a0 (w64 (a2 - a1)) (w64 (a3 - a2)))
def qA.l0 (a0 : List Row) (a1 : Int) (a4c0 : Query) (K5 : Int → Option ((List Row))) : Nat → Int → Int → Option ((List Row))
 | 0, _, _ => none
 | k + 1, z19, z20 =>
  bif (decide (z19 < z20)) then (
  (getO a0 (w64 (Ls.ar .shr .u64 (IntKind.wrap .u64 (w64 (z19 + z20))) 1))).bind fun x22 =>
  (getO a0 a1).bind fun x23 =>
  (qMD.f x22 x23 a4c0).bind fun r24 =>
  bif (decide (r24 < 0)) then (
  qA.l0 a0 a1 a4c0 K5 k (w64 ((w64 (Ls.ar .shr .u64 (IntKind.wrap .u64 (w64 (z19 + z20))) 1)) + 1)) z20)
  else (
  qA.l0 a0 a1 a4c0 K5 k z19 (w64 (Ls.ar .shr .u64 (IntKind.wrap .u64 (w64 (z19 + z20))) 1))))
  else (
  K5 z19)
def qA.l1 (y4 : Int) : Nat → (List Row) → Int → Option ((List Row))
 | 0, _, _ => none
 | k + 1, z29, z30 =>
  bif (decide (z30 < (w64 (y4 - 1)))) then (
  (getO z29 (w64 (z30 + 1))).bind fun x32 =>
  (getO z29 z30).bind fun x33 =>
  (neO (w64 (z30 + 1)) z30).bind fun u34 =>
  (some (setI (setI z29 z30 x32) (w64 (z30 + 1)) x33)).bind fun l35 =>
  qA.l1 y4 k l35 (w64 (z30 + 1)))
  else (
  some z29)
def qA.l2 (a0 : List Row) (a2 : Int) (a4c0 : Query) (K40 : Int → Option ((List Row))) : Nat → Int → Int → Option ((List Row))
 | 0, _, _ => none
 | k + 1, z54, z55 =>
  bif (decide (z54 < z55)) then (
  (getO a0 a2).bind fun x57 =>
  (getO a0 (w64 (Ls.ar .shr .u64 (IntKind.wrap .u64 (w64 (z54 + z55))) 1))).bind fun x58 =>
  (qMD.f x57 x58 a4c0).bind fun r59 =>
  bif (bo3 (decide (r59 < 0)) false true) then (
  qA.l2 a0 a2 a4c0 K40 k (w64 ((w64 (Ls.ar .shr .u64 (IntKind.wrap .u64 (w64 (z54 + z55))) 1)) + 1)) z55)
  else (
  qA.l2 a0 a2 a4c0 K40 k z54 (w64 (Ls.ar .shr .u64 (IntKind.wrap .u64 (w64 (z54 + z55))) 1))))
  else (
  K40 z54)
def qA.l3 (y39 : Int) : Nat → (List Row) → Int → Option ((List Row))
 | 0, _, _ => none
 | k + 1, z64, z65 =>
  bif (decide (y39 < z65)) then (
  (getO z64 (w64 (z65 - 1))).bind fun x67 =>
  (getO z64 z65).bind fun x68 =>
  (neO (w64 (z65 - 1)) z65).bind fun u69 =>
  (some (setI (setI z64 z65 x67) (w64 (z65 - 1)) x68)).bind fun l70 =>
  qA.l3 y39 k l70 (w64 (z65 - 1)))
  else (
  some z64)
def qA.l4 (a0 : List Row) (a4c0 : Query) (K78 : Int → Option ((List Row))) : Nat → Int → Int → Int → Option ((List Row))
 | 0, _, _, _ => none
 | k + 1, z97, z98, z99 =>
  bif (decide (z97 < z98)) then (
  (getO a0 (w64 (z99 - (w64 (Ls.ar .shr .u64 (IntKind.wrap .u64 (w64 (z97 + z98))) 1))))).bind fun x101 =>
  (getO a0 (w64 (Ls.ar .shr .u64 (IntKind.wrap .u64 (w64 (z97 + z98))) 1))).bind fun x102 =>
  (qMD.f x101 x102 a4c0).bind fun r103 =>
  bif (bo3 (decide (r103 < 0)) false true) then (
  qA.l4 a0 a4c0 K78 k (w64 ((w64 (Ls.ar .shr .u64 (IntKind.wrap .u64 (w64 (z97 + z98))) 1)) + 1)) z98 z99)
  else (
  qA.l4 a0 a4c0 K78 k z97 (w64 (Ls.ar .shr .u64 (IntKind.wrap .u64 (w64 (z97 + z98))) 1)) z99))
  else (
  K78 z97)
def qA.b (self : (List Row) → Int → Int → Int → Query → Option ((List Row))) (a0 : List Row) (a1 : Int) (a2 : Int) (a3 : Int) (a4c0 : Query) : Option ((List Row)) :=
 joinK (fun (y1 : Unit) =>
 joinK (fun (y36 : Unit) =>
 joinK (fun (y71 : Int) (y72 : Int) (y73 : Int) (y74 : Int) =>
 joinK (fun (y77 : Int) =>
 joinK (fun (y105 : List Row) (y106 : Int) =>
 joinK (fun (y115 : List Row) =>
 bif (bo3 (decide (y71 < y106)) (decide (y106 < a3)) false) then (
 (self y115 y71 y106 a3 a4c0).bind fun r130 =>
 some r130)
 else (
 some y115)) (fun K116 =>
 bif (bo3 (decide (a1 < y77)) (decide (y77 < y71)) false) then (
 (self y105 a1 y77 y71 a4c0).bind fun r123 =>
 K116 r123)
 else (
 K116 y105))) (fun K107 =>
 bif (bo3 (decide (y77 < a2)) (decide (a2 < (w64 (y72 - y77)))) false) then (
 (qH.f a0 y77 a2 (w64 (y72 - y77)) a4c0).bind fun r114 =>
 K107 r114 (w64 (y72 - y77)))
 else (
 K107 a0 (w64 (y72 - y77))))) (fun K78 =>
 qA.l4 a0 a4c0 K78 ((y74 - y73).toNat + 1) y73 y74 (w64 (y72 - 1)))) (fun K75 =>
 bif (decide ((w64 (Ls.ar .shr .u64 (IntKind.wrap .u64 (w64 (a1 + a3))) 1)) < a2)) then (
 K75 (w64 (Ls.ar .shr .u64 (IntKind.wrap .u64 (w64 (a1 + a3))) 1)) (w64 ((w64 (Ls.ar .shr .u64 (IntKind.wrap .u64 (w64 (a1 + a3))) 1)) + a2)) (w64 ((w64 ((w64 (Ls.ar .shr .u64 (IntKind.wrap .u64 (w64 (a1 + a3))) 1)) + a2)) - a3)) (w64 (Ls.ar .shr .u64 (IntKind.wrap .u64 (w64 (a1 + a3))) 1)))
 else (
 K75 (w64 (Ls.ar .shr .u64 (IntKind.wrap .u64 (w64 (a1 + a3))) 1)) (w64 ((w64 (Ls.ar .shr .u64 (IntKind.wrap .u64 (w64 (a1 + a3))) 1)) + a2)) a1 a2))) (fun K37 =>
 bif (decide ((w64 (a3 - a2)) = 1)) then (
 joinK (fun (y39 : Int) =>
 qA.l3 y39 ((a2 - y39).toNat + 1) a0 a2) (fun K40 =>
 qA.l2 a0 a2 a4c0 K40 ((a2 - a1).toNat + 1) a1 a2))
 else (
 K37 ()))) (fun K2 =>
 bif (decide ((w64 (a2 - a1)) = 1)) then (
 joinK (fun (y4 : Int) =>
 qA.l1 y4 (((w64 (y4 - 1)) - a1).toNat + 1) a0 a1) (fun K5 =>
 qA.l0 a0 a1 a4c0 K5 ((a3 - a2).toNat + 1) a2 a3))
 else (
 K2 ()))
def qA.g : Nat → (List Row) → Int → Int → Int → Query → Option ((List Row))
 | 0 => fun _ _ _ _ _ => none
 | k + 1 => qA.b (qA.g k)
def qA.f (a0 : List Row) (a1 : Int) (a2 : Int) (a3 : Int) (a4c0 : Query) : Option ((List Row)) := qA.g 1000 a0 a1 a2 a3 a4c0
def qC.l0 (a1 : Int) (a2c0 : Query) (K3 : (List Row) → Int → Option ((List Row))) : Nat → (List Row) → Int → Int → Option ((List Row))
 | 0, _, _, _ => none
 | k + 1, z18, z19, z20 =>
  bif (decide (z20 ≤ a1)) then (
  (qD.f z18 z19 z20 a2c0).bind fun r22 =>
  qC.l0 a1 a2c0 K3 k r22 z20 (w64 (z20 + 20)))
  else (
  K3 z18 z19)
def qC.l2 (a1 : Int) (a2c0 : Query) (z37 : Int) (K41 : (List Row) → Int → Option ((List Row))) : Nat → (List Row) → Int → Int → Option ((List Row))
 | 0, _, _, _ => none
 | k + 1, z56, z57, z58 =>
  bif (decide (z58 ≤ a1)) then (
  (qA.f z56 z57 (w64 (z57 + z37)) z58 a2c0).bind fun r60 =>
  qC.l2 a1 a2c0 z37 K41 k r60 z58 (w64 (z58 + (w64 (2 * z37)))))
  else (
  K41 z56 z57)
def qC.l1 (a1 : Int) (a2c0 : Query) : Nat → (List Row) → Int → Option ((List Row))
 | 0, _, _ => none
 | k + 1, z36, z37 =>
  bif (decide (z37 < a1)) then (
  joinK (fun (y39 : List Row) (y40 : Int) =>
  bif (decide ((w64 (y40 + z37)) < a1)) then (
  (qA.f y39 y40 (w64 (y40 + z37)) a1 a2c0).bind fun r62 =>
  qC.l1 a1 a2c0 k r62 (w64 (z37 * 2)))
  else (
  qC.l1 a1 a2c0 k y39 (w64 (z37 * 2)))) (fun K41 =>
  qC.l2 a1 a2c0 z37 K41 ((a1 - (w64 (2 * z37))).toNat + 2) z36 0 (w64 (2 * z37))))
  else (
  some z36)
def qC.f (a0 : List Row) (a1 : Int) (a2c0 : Query) : Option ((List Row)) :=
 joinK (fun (y1 : List Row) (y2 : Int) =>
 (qD.f y1 y2 a1 a2c0).bind fun r23 =>
 qC.l1 a1 a2c0 ((a1 - 20).toNat + 1) r23 20) (fun K3 =>
 qC.l0 a1 a2c0 K3 ((a1 - 20).toNat + 2) a0 0 20)
def qo.f (a0 : List Row) (a1c0 : Query) : Option ((List Row)) :=
 (qC.f a0 (lenI a0) a1c0).bind fun r1 =>
 some r1
def qkC.l0 (a1 : Query) (x13 : List Row) (K12 : (List Row) → Option ((List Row))) : Nat → (List Row) → Int → Option ((List Row))
 | 0, _, _ => none
 | k + 1, z27, z28 =>
  bif (decide (z28 < (lenI x13))) then (
  (getO x13 z28).bind fun x30 =>
  (qUC.f a1 x30).bind fun r31 =>
  bif r31 then (
  (qxC.f x30).bind fun r33 =>
  (some [r33]).bind fun l34 =>
  (appO 32 z27 l34).bind fun l35 =>
  qkC.l0 a1 x13 K12 k l35 (w64 (z28 + 1)))
  else (
  qkC.l0 a1 x13 K12 k z27 (w64 (z28 + 1))))
  else (
  K12 z27)
def qkC.f (a0 : Store) (a1 : Query) : Option ((List Row)) :=
 (quB.f a0).bind fun r1 =>
 (gd (bo3 (bo3 r1 false true) false true) (qXB.f a0.Schema a1)).bind fun r2 =>
 bif (bo3 (bo3 r1 false true) true (bo3 r2 false true)) then (
 some [])
 else (
 joinK (fun (y11 : List Row) =>
 (qo.f y11 a1).bind fun r36 =>
 some r36) (fun K12 =>
 (getO a0.Tables a1.Table).bind fun x13 =>
 qkC.l0 a1 x13 K12 (((lenI x13) - 0).toNat + 1) [] 0))
def qsC.l0 (a1 : Query) (a2 : Int) (x16 : List Row) : Nat → Int → Int → Option Int
 | 0, _, _ => none
 | k + 1, z31, z32 =>
  bif (decide (z32 < (lenI x16))) then (
  (getO x16 z32).bind fun x34 =>
  (getO x34.Cells a1.KidCol).bind fun x35 =>
  bif (decide (x35 = a2)) then (
  qsC.l0 a1 a2 x16 k (w64 (z31 + 1)) (w64 (z32 + 1)))
  else (
  qsC.l0 a1 a2 x16 k z31 (w64 (z32 + 1))))
  else (
  some z31)
def qsC.f (a0 : Store) (a1 : Query) (a2 : Int) : Option Int :=
 (quB.f a0).bind fun r1 =>
 (gd (bo3 (bo3 r1 false true) false true) (qXB.f a0.Schema a1)).bind fun r2 =>
 bif (bo3 (bo3 (bo3 r1 false true) true (bo3 r2 false true)) true (bo3 a1.Kids false true)) then (
 some 0)
 else (
 (getO a0.Tables a1.KidTable).bind fun x16 =>
 qsC.l0 a1 a2 x16 (((lenI x16) - 0).toNat + 1) 0 0)
def qvF.f (a0 : Query) (a1 : Int) : Option Int :=
 bif (decide (a0.First = 0)) then (
 some a1)
 else (
 (some (maxO a0.First 0)).bind fun m2 =>
 (some (minO m2 a1)).bind fun m3 =>
 some m3)
def qDF.f (a0 : Json) : Option Json :=
 (qCF.f a0).bind fun r1 =>
 bif (bo3 r1 false true) then (
 some (Json.mk 0 0 ByteArray.empty [] []))
 else (
 some a0)
def qJC.l0 (a0 : List Int) (a1 : Int) : Nat → Int → Option Int
 | 0, _ => none
 | k + 1, z5 =>
  bif (decide (z5 < (lenI a0))) then (
  (getO a0 z5).bind fun x7 =>
  bif (decide (a1 = x7)) then (
  some z5)
  else (
  qJC.l0 a0 a1 k (w64 (z5 + 1))))
  else (
  some (-1))
def qJC.f (a0 : List Int) (a1 : Int) : Option Int :=
 qJC.l0 a0 a1 (((lenI a0) - 0).toNat + 1) 0
def qSD.f (a0 : List Int) (a1 : Int) : Option Bool :=
 (qJC.f a0 a1).bind fun r1 =>
 some (decide (0 ≤ r1))
def strconv_Itoa.f (a0 : Int) : Option ByteArray := itoaO a0
def qbG.f (a0 : Int) : Option ByteArray :=
 (strconv_Itoa.f a0).bind fun r1 =>
 some r1
def qGE.f (a0 : ByteArray) : Option Bool :=
 some (Ls.sc .neq a0 a0)
def qdE.f (a0 : ByteArray) (a1 : ByteArray) : Option Bool :=
 (qGE.f a0).bind fun r1 =>
 (gd r1 (qGE.f a1)).bind fun r2 =>
 some (bo3 (bo3 r1 (bo3 r2 false true) false) true (Ls.sc .lss a0 a1))
def qYC.f (a0 : ByteArray) : Option Bool :=
 some (Ls.sc .neq a0 a0)
def qc.l0 (a0 : List ByteArray) (a1 : ByteArray) (K2 : Int → Option (Int × Bool)) : Nat → Int → Int → Option (Int × Bool)
 | 0, _, _ => none
 | k + 1, z8, z9 =>
  bif (decide (z8 < z9)) then (
  (getO a0 (w64 (Ls.ar .shr .u64 (IntKind.wrap .u64 (w64 (z8 + z9))) 1))).bind fun x11 =>
  (qdE.f x11 a1).bind fun r12 =>
  bif r12 then (
  qc.l0 a0 a1 K2 k (w64 ((w64 (Ls.ar .shr .u64 (IntKind.wrap .u64 (w64 (z8 + z9))) 1)) + 1)) z9)
  else (
  qc.l0 a0 a1 K2 k z8 (w64 (Ls.ar .shr .u64 (IntKind.wrap .u64 (w64 (z8 + z9))) 1))))
  else (
  K2 z8)
def qc.f (a0 : List ByteArray) (a1 : ByteArray) : Option (Int × Bool) :=
 joinK (fun (y1 : Int) =>
 (gd (decide (y1 < (lenI a0))) (getO a0 y1)).bind fun x14 =>
 (gd (bo3 (decide (y1 < (lenI a0))) (bo3 (Ls.sc .eql x14 a1) false true) false) (getO a0 y1)).bind fun x15 =>
 (gd (bo3 (decide (y1 < (lenI a0))) (bo3 (Ls.sc .eql x14 a1) false true) false) (qYC.f x15)).bind fun r16 =>
 (gd (bo3 (bo3 (decide (y1 < (lenI a0))) (bo3 (Ls.sc .eql x14 a1) false true) false) r16 false) (qYC.f a1)).bind fun r17 =>
 some (y1, (bo3 (decide (y1 < (lenI a0))) (bo3 (Ls.sc .eql x14 a1) true (bo3 r16 r17 false)) false))) (fun K2 =>
 qc.l0 a0 a1 K2 (((lenI a0) - 0).toNat + 1) 0 (lenI a0))
def qiD.f (a0 : List ByteArray) (a1 : Int) (a2 : List ByteArray) : Option (List ByteArray) := insO 16 a0 a1 a2
def qID.f (a0 : List Json) (a1 : Int) (a2 : List Json) : Option (List Json) := insO 80 a0 a1 a2
def qQD.l0 (a0 : List ByteArray) (a1 : List Int) : Nat → (List Json) → (List ByteArray) → Int → Option Json
 | 0, _, _, _ => none
 | k + 1, z23, z24, z25 =>
  bif (decide (z25 < (lenI a0))) then (
  (getO a0 z25).bind fun x27 =>
  (qc.f z24 x27).bind fun r28 =>
  (some [x27]).bind fun l29 =>
  (qiD.f z24 r28.1 l29).bind fun r30 =>
  (getO a1 z25).bind fun x31 =>
  (some [(Json.mk 2 x31 ByteArray.empty [] [])]).bind fun l32 =>
  (qID.f z23 r28.1 l32).bind fun r33 =>
  qQD.l0 a0 a1 k r33 r30 (w64 (z25 + 1)))
  else (
  some (Json.mk 5 0 ByteArray.empty z23 z24))
def qQD.f (a0 : List ByteArray) (a1 : List Int) : Option Json :=
 qQD.l0 a0 a1 (((lenI a0) - 0).toNat + 1) [] [] 0
def qtC.l0 (a0 : Query) (a1 : Row) (K5 : (List ByteArray) → (List Int) → Option Json) : Nat → (List ByteArray) → (List Int) → Int → Option Json
 | 0, _, _, _ => none
 | k + 1, z26, z27, z28 =>
  bif (decide (z28 < (lenI a0.Show))) then (
  (getO a0.Show z28).bind fun x30 =>
  (cutO a0.Show 0 z28).bind fun l31 =>
  (qSD.f l31 x30).bind fun r32 =>
  bif r32 then (
  qtC.l0 a0 a1 K5 k z26 z27 (w64 (z28 + 1)))
  else (
  (qbG.f x30).bind fun r34 =>
  (smO (ByteArray.mk #[99]) r34).bind fun u35 =>
  (some [(Ls.sa (ByteArray.mk #[99]) r34)]).bind fun l36 =>
  (appO 16 z26 l36).bind fun l37 =>
  (qAE.f a1 x30).bind fun r38 =>
  (some [r38]).bind fun l39 =>
  (appO 8 z27 l39).bind fun l40 =>
  qtC.l0 a0 a1 K5 k l37 l40 (w64 (z28 + 1))))
  else (
  K5 z26 z27)
def qtC.f (a0 : Query) (a1 : Row) (a2 : Int) : Option Json :=
 (some [(ByteArray.mk #[105, 100])]).bind fun l1 =>
 (some [a1.Id]).bind fun l2 =>
 joinK (fun (y3 : List ByteArray) (y4 : List Int) =>
 joinK (fun (y41 : List ByteArray) (y42 : List Int) =>
 (qQD.f y41 y42).bind fun r49 =>
 (qDF.f r49).bind fun r50 =>
 some r50) (fun K43 =>
 bif a0.Kids then (
 (some [(ByteArray.mk #[107, 105, 100, 115])]).bind fun l45 =>
 (appO 16 y3 l45).bind fun l46 =>
 (some [a2]).bind fun l47 =>
 (appO 8 y4 l47).bind fun l48 =>
 K43 l46 l48)
 else (
 K43 y3 y4))) (fun K5 =>
 qtC.l0 a0 a1 K5 (((lenI a0.Show) - 0).toNat + 1) l1 l2 0)
def qyC.l0 (a0 : Query) (a2 : List Int) (l2 : List Row) : Nat → (List Json) → Int → Option ((List Json))
 | 0, _, _ => none
 | k + 1, z17, z18 =>
  bif (decide (z18 < (lenI l2))) then (
  (getO l2 z18).bind fun x20 =>
  joinK (fun (y21 : Int) =>
  (qtC.f a0 x20 y21).bind fun r25 =>
  (some [r25]).bind fun l26 =>
  (appO 80 z17 l26).bind fun l27 =>
  qyC.l0 a0 a2 l2 k l27 (w64 (z18 + 1))) (fun K22 =>
  bif (decide (z18 < (lenI a2))) then (
  (getO a2 z18).bind fun x24 =>
  K22 x24)
  else (
  K22 0)))
  else (
  some z17)
def qyC.f (a0 : Query) (a1 : List Row) (a2 : List Int) : Option ((List Json)) :=
 (qvF.f a0 (lenI a1)).bind fun r1 =>
 (cutO a1 0 r1).bind fun l2 =>
 qyC.l0 a0 a2 l2 (((lenI l2) - 0).toNat + 1) [] 0
def qDH.f (a0 : Json) : Option Bool :=
 some (decide (a0.Kind = 0))
def qX.l0 (a0 : List Json) : Nat → Int → Option Int
 | 0, _ => none
 | k + 1, z4 =>
  bif (decide (z4 < (lenI a0))) then (
  (getO a0 z4).bind fun x6 =>
  (qDH.f x6).bind fun r7 =>
  bif r7 then (
  some z4)
  else (
  qX.l0 a0 k (w64 (z4 + 1))))
  else (
  some (-1))
def qX.f (a0 : List Json) : Option Int :=
 qX.l0 a0 (((lenI a0) - 0).toNat + 1) 0
def qIB.f (a0 : List Json) : Option Bool :=
 (qX.f a0).bind fun r1 =>
 some (decide (0 ≤ r1))
def qZF.f (a0 : Query) (a1 : List Row) (a2 : List Int) : Option Json :=
 (qyC.f a0 a1 a2).bind fun r1 =>
 (qIB.f r1).bind fun r2 =>
 bif r2 then (
 some (Json.mk 0 0 ByteArray.empty [] []))
 else (
 (some [(ByteArray.mk #[99, 111, 117, 110, 116]), (ByteArray.mk #[114, 111, 119, 115])]).bind fun l4 =>
 (some [(Json.mk 2 (lenI a1) ByteArray.empty [] []), (Json.mk 4 0 ByteArray.empty r1 [])]).bind fun l5 =>
 (qDF.f (Json.mk 5 0 ByteArray.empty l5 l4)).bind fun r6 =>
 some r6)
def qlD.l0 (a0 : Store) (a1 : Query) (r11 : (List Row)) (K13 : (List Int) → Option Json) : Nat → (List Int) → Int → Option Json
 | 0, _, _ => none
 | k + 1, z33, z34 =>
  bif (decide (z34 < (lenI r11))) then (
  (getO r11 z34).bind fun x36 =>
  (qsC.f a0 a1 x36.Id).bind fun r37 =>
  (some [r37]).bind fun l38 =>
  (appO 8 z33 l38).bind fun l39 =>
  qlD.l0 a0 a1 r11 K13 k l39 (w64 (z34 + 1)))
  else (
  K13 z33)
def qlD.f (a0 : Store) (a1 : Query) : Option Json :=
 (quB.f a0).bind fun r1 =>
 (gd (bo3 (bo3 r1 false true) false true) (qXB.f a0.Schema a1)).bind fun r2 =>
 bif (bo3 (bo3 r1 false true) true (bo3 r2 false true)) then (
 some (Json.mk 0 0 ByteArray.empty [] []))
 else (
 (qkC.f a0 a1).bind fun r11 =>
 joinK (fun (y12 : List Int) =>
 (qZF.f a1 r11 y12).bind fun r40 =>
 some r40) (fun K13 =>
 qlD.l0 a0 a1 r11 K13 (((lenI r11) - 0).toNat + 1) [] 0))
def qmK.f (a0 : List Int) : Option Bool :=
 some (decide (1048576 < (lenI a0)))
def qmD.l0 (a0 : List Int) : Nat → Int → Int → Option l1Cur
 | 0, _, _ => none
 | k + 1, z4, z5 =>
  bif (bo3 (decide (z5 < (lenI a0))) (decide (z5 < 4000)) false) then (
  (getO a0 z5).bind fun x11 =>
  qmD.l0 a0 k (Ls.ar .and .i64 (w64 ((w64 ((w64 (z4 * 131)) + (w64 x11))) + 7)) 1073741823) (w64 (z5 + 1)))
  else (
  some (l1Cur.mk a0 0 z4))
def qmD.f (a0 : List Int) : Option l1Cur :=
 qmD.l0 a0 (((lenI a0) - 0).toNat + 1) (w64 (17333 + (lenI a0))) 0
def qBE.f (a0 : l1Cur) : Option (l1Cur × Int) :=
 bif (decide (a0.i < (lenI a0.b))) then (
 (getO a0.b a0.i).bind fun x2 =>
 some ((l1Cur.mk a0.b (w64 (a0.i + 1)) (w64 ((w64 (a0.h * 6364136223846793005)) + 1442695040888963407))), (Ls.ar .and .i64 (w64 ((Ls.ar .and .i64 (Ls.ar .xor .i64 (Ls.ar .shr .i64 (w64 ((w64 (a0.h * 6364136223846793005)) + 1442695040888963407)) 33) (Ls.ar .shr .i64 (w64 ((w64 (a0.h * 6364136223846793005)) + 1442695040888963407)) 45)) 255) + (w64 x2))) 255)))
 else (
 some ((l1Cur.mk a0.b a0.i (w64 ((w64 (a0.h * 6364136223846793005)) + 1442695040888963407))), (Ls.ar .and .i64 (Ls.ar .xor .i64 (Ls.ar .shr .i64 (w64 ((w64 (a0.h * 6364136223846793005)) + 1442695040888963407)) 33) (Ls.ar .shr .i64 (w64 ((w64 (a0.h * 6364136223846793005)) + 1442695040888963407)) 45)) 255)))
def qa.f (a0 : l1Cur) (a1 : Int) : Option (l1Cur × Int) :=
 bif (decide (a1 ≤ 0)) then (
 some (a0, 0))
 else (
 bif (decide (a1 ≤ 256)) then (
 (qBE.f a0).bind fun r3 =>
 (nzO a1).bind fun u4 =>
 some ((l1Cur.mk a0.b r3.1.i r3.1.h), (Int.tmod r3.2 a1)))
 else (
 (qBE.f a0).bind fun r5 =>
 (qBE.f (l1Cur.mk a0.b r5.1.i r5.1.h)).bind fun r6 =>
 (qBE.f (l1Cur.mk a0.b r6.1.i r6.1.h)).bind fun r7 =>
 (qBE.f (l1Cur.mk a0.b r7.1.i r7.1.h)).bind fun r8 =>
 (nzO a1).bind fun u9 =>
 some ((l1Cur.mk a0.b r8.1.i r8.1.h), (Int.tmod (w64 ((w64 ((w64 ((w64 (r5.2 * 16777216)) + (w64 (r6.2 * 65536)))) + (w64 (r7.2 * 256)))) + r8.2)) a1))))
def qlE.f (a0 : Schema) : Option Schema :=
 (appO 8 [] a0.Cols).bind fun l1 =>
 some (Schema.mk l1)
def qnB.l0 (a0 : Schema) (K2 : Unit → Option Bool) : Nat → Int → Option Bool
 | 0, _ => none
 | k + 1, z5 =>
  bif (decide (z5 < (lenI a0.Cols))) then (
  (getO a0.Cols z5).bind fun x7 =>
  (qnC.f x7 1 4).bind fun r8 =>
  bif (bo3 r8 false true) then (
  some false)
  else (
  qnB.l0 a0 K2 k (w64 (z5 + 1))))
  else (
  K2 ())
def qnB.f (a0 : Schema) : Option Bool :=
 joinK (fun (y1 : Unit) =>
 (qnC.f (lenI a0.Cols) 1 3).bind fun r10 =>
 some r10) (fun K2 =>
 qnB.l0 a0 K2 (((lenI a0.Cols) - 0).toNat + 1) 0)
def qNF.f (a0 : Schema) : Option (Store × Bool) :=
 (qnB.f a0).bind fun r1 =>
 bif (bo3 r1 false true) then (
 some ((Store.mk (Schema.mk []) 0 []), false))
 else (
 (qlE.f a0).bind fun r3 =>
 (mkO 24 (lenI a0.Cols) []).bind fun l4 =>
 some ((Store.mk r3 0 l4), true))
def qqB.l0 (a0 : l1Cur) : Nat → Int → Int → (List Int) → Int → Option (l1Cur × Schema)
 | 0, _, _, _, _ => none
 | k + 1, z10, z11, z12, z13 =>
  (qa.f (l1Cur.mk a0.b z10 z11) 3).bind fun r14 =>
  bif (decide (z13 < (w64 (1 + r14.2)))) then (
  (qa.f (l1Cur.mk a0.b r14.1.i r14.1.h) 4).bind fun r16 =>
  (some [(w64 (1 + r16.2))]).bind fun l17 =>
  (appO 8 z12 l17).bind fun l18 =>
  qqB.l0 a0 k r16.1.i r16.1.h l18 (w64 (z13 + 1)))
  else (
  some ((l1Cur.mk a0.b r14.1.i r14.1.h), (Schema.mk z12)))
def qqB.f (a0 : l1Cur) : Option (l1Cur × Schema) :=
 qqB.l0 a0 1000 a0.i a0.h [] 0
def qTD.f (a0 : Row) : Option Row :=
 (appO 8 [] a0.Cells).bind fun l1 =>
 some (Row.mk a0.Id l1)
def qzC.l0 (a0 : List Row) (a1 : Int) : Nat → Int → Option Int
 | 0, _ => none
 | k + 1, z4 =>
  bif (decide (z4 < (lenI a0))) then (
  (getO a0 z4).bind fun x6 =>
  bif (decide (x6.Id = a1)) then (
  some z4)
  else (
  qzC.l0 a0 a1 k (w64 (z4 + 1))))
  else (
  some (-1))
def qzC.f (a0 : List Row) (a1 : Int) : Option Int :=
 qzC.l0 a0 a1 (((lenI a0) - 0).toNat + 1) 0
def qFC.l0 (a0 : List Row) (r1 : Int) : Nat → (List Row) → Int → Option ((List Row))
 | 0, _, _ => none
 | k + 1, z6, z7 =>
  bif (decide (z7 < (lenI a0))) then (
  bif (decide (z7 ≠ r1)) then (
  (getO a0 z7).bind fun x10 =>
  (qTD.f x10).bind fun r11 =>
  (some [r11]).bind fun l12 =>
  (appO 32 z6 l12).bind fun l13 =>
  qFC.l0 a0 r1 k l13 (w64 (z7 + 1)))
  else (
  qFC.l0 a0 r1 k z6 (w64 (z7 + 1))))
  else (
  some z6)
def qFC.f (a0 : List Row) (a1 : Int) : Option ((List Row)) :=
 (qzC.f a0 a1).bind fun r1 =>
 qFC.l0 a0 r1 (((lenI a0) - 0).toNat + 1) [] 0
def qZC.l0 (a1 : Row) (r1 : (List Row)) (K3 : Int → Option ((List Row))) : Nat → Int → Int → Option ((List Row))
 | 0, _, _ => none
 | k + 1, z12, z13 =>
  bif (decide (0 ≤ z13)) then (
  (getO r1 z13).bind fun x15 =>
  bif (decide (a1.Id < x15.Id)) then (
  qZC.l0 a1 r1 K3 k z13 (w64 (z13 - 1)))
  else (
  qZC.l0 a1 r1 K3 k z12 (w64 (z13 - 1))))
  else (
  K3 z12)
def qZC.f (a0 : List Row) (a1 : Row) : Option ((List Row)) :=
 (qFC.f a0 a1.Id).bind fun r1 =>
 joinK (fun (y2 : Int) =>
 (cutO r1 0 y2).bind fun l17 =>
 (appO 32 [] l17).bind fun l18 =>
 (qTD.f a1).bind fun r19 =>
 (some [r19]).bind fun l20 =>
 (appO 32 l18 l20).bind fun l21 =>
 (cutO r1 y2 (lenI r1)).bind fun l22 =>
 (appO 32 l21 l22).bind fun l23 =>
 some l23) (fun K3 =>
 (qzC.f a0 a1.Id).bind fun r4 =>
 bif (decide (0 ≤ r4)) then (
 (qzC.f a0 a1.Id).bind fun r6 =>
 K3 r6)
 else (
 qZC.l0 a1 r1 K3 (((w64 ((lenI r1) - 1)) - 0).toNat + 2) (lenI r1) (w64 ((lenI r1) - 1))))
def qKC.l0 (a0 : l1Cur) (a1 : Int) : Nat → Int → Int → Int → (List Int) → Int → Option (l1Cur × Row)
 | 0, _, _, _, _, _ => none
 | k + 1, z17, z18, z19, z20, z21 =>
  bif (decide (z21 < a1)) then (
  (qa.f (l1Cur.mk a0.b z17 z18) 6).bind fun r23 =>
  (some [r23.2]).bind fun l24 =>
  (appO 8 z20 l24).bind fun l25 =>
  qKC.l0 a0 a1 k r23.1.i r23.1.h z19 l25 (w64 (z21 + 1)))
  else (
  some ((l1Cur.mk a0.b z17 z18), (Row.mk z19 z20)))
def qKC.f (a0 : l1Cur) (a1 : Int) : Option (l1Cur × Row) :=
 (qa.f a0 12).bind fun r1 =>
 qKC.l0 a0 a1 ((a1 - 0).toNat + 1) r1.1.i r1.1.h (w64 (1 + r1.2)) [] 0
def qGC.l0 (a0 : l1Cur) (a1 : Int) : Nat → Int → Int → (List Row) → Int → Option (l1Cur × (List Row))
 | 0, _, _, _, _ => none
 | k + 1, z7, z8, z9, z10 =>
  (qa.f (l1Cur.mk a0.b z7 z8) 9).bind fun r11 =>
  bif (decide (z10 < r11.2)) then (
  (qKC.f (l1Cur.mk a0.b r11.1.i r11.1.h) a1).bind fun r13 =>
  (qZC.f z9 r13.2).bind fun r14 =>
  qGC.l0 a0 a1 k r13.1.i r13.1.h r14 (w64 (z10 + 1)))
  else (
  some ((l1Cur.mk a0.b r11.1.i r11.1.h), z9))
def qGC.f (a0 : l1Cur) (a1 : Int) : Option (l1Cur × (List Row)) :=
 qGC.l0 a0 a1 1000 a0.i a0.h [] 0
def qoB.l0 (a0 : l1Cur) (r2 : Store × Bool) (K6 : Int → Int → (List (List Row)) → Option (l1Cur × Store)) : Nat → Int → Int → (List (List Row)) → Int → Option (l1Cur × Store)
 | 0, _, _, _, _ => none
 | k + 1, z15, z16, z17, z18 =>
  bif (decide (z18 < (lenI z17))) then (
  (getO r2.1.Schema.Cols z18).bind fun x20 =>
  (qGC.f (l1Cur.mk a0.b z15 z16) x20).bind fun r21 =>
  (getO z17 z18).bind fun x22 =>
  (some (setI z17 z18 r21.2)).bind fun l23 =>
  qoB.l0 a0 r2 K6 k r21.1.i r21.1.h l23 (w64 (z18 + 1)))
  else (
  K6 z15 z16 z17)
def qoB.f (a0 : l1Cur) : Option (l1Cur × Store) :=
 (qqB.f a0).bind fun r1 =>
 (qNF.f r1.2).bind fun r2 =>
 joinK (fun (y3 : Int) (y4 : Int) (y5 : List (List Row)) =>
 (qa.f (l1Cur.mk a0.b y3 y4) 5).bind fun r24 =>
 some ((l1Cur.mk a0.b r24.1.i r24.1.h), (Store.mk r2.1.Schema r24.2 y5))) (fun K6 =>
 qoB.l0 a0 r2 K6 (((lenI r2.1.Tables) - 0).toNat + 1) r1.1.i r1.1.h r2.1.Tables 0)
def qfC.f (a0 : l1Cur) (a1 : Int) : Option (l1Cur × Bool) :=
 (qa.f a0 a1).bind fun r1 =>
 some ((l1Cur.mk a0.b r1.1.i r1.1.h), (decide (r1.2 = 0)))
def quC.f (a0 : Int) (a1 : Int) : Option Int :=
 bif (decide (a1 < a0)) then (
 some a0)
 else (
 some a1)
def qeC.f (a0 : l1Cur) (a1 : List Int) : Option (l1Cur × Int) :=
 (qa.f a0 (lenI a1)).bind fun r1 =>
 (getO a1 r1.2).bind fun x2 =>
 some ((l1Cur.mk a0.b r1.1.i r1.1.h), x2)
def qj.l0 (a0 : l1Cur) (y3 : Int) (K11 : Int → Int → (List Cond) → Option (l1Cur × Query)) : Nat → Int → Int → (List Cond) → Int → Option (l1Cur × Query)
 | 0, _, _, _, _ => none
 | k + 1, z53, z54, z55, z56 =>
  (qa.f (l1Cur.mk a0.b z53 z54) 3).bind fun r57 =>
  bif (decide (z56 < r57.2)) then (
  (qa.f (l1Cur.mk a0.b r57.1.i r57.1.h) y3).bind fun r59 =>
  (qa.f (l1Cur.mk a0.b r59.1.i r59.1.h) 4).bind fun r60 =>
  (qa.f (l1Cur.mk a0.b r60.1.i r60.1.h) 6).bind fun r61 =>
  (some [(Cond.mk r59.2 (w64 (1 + r60.2)) r61.2)]).bind fun l62 =>
  (appO 24 z55 l62).bind fun l63 =>
  qj.l0 a0 y3 K11 k r61.1.i r61.1.h l63 (w64 (z56 + 1)))
  else (
  K11 r57.1.i r57.1.h z55)
def qj.l1 (a0 : l1Cur) (y3 : Int) (K76 : Int → Int → Bool → (List Int) → Option (l1Cur × Query)) : Nat → Int → Int → Bool → (List Int) → Int → Option (l1Cur × Query)
 | 0, _, _, _, _, _ => none
 | k + 1, z120, z121, z122, z123, z124 =>
  bif (decide (z124 < y3)) then (
  (qfC.f (l1Cur.mk a0.b z120 z121) 2).bind fun r126 =>
  bif r126.2 then (
  (some [z124]).bind fun l128 =>
  (appO 8 z123 l128).bind fun l129 =>
  qj.l1 a0 y3 K76 k r126.1.i r126.1.h z122 l129 (w64 (z124 + 1)))
  else (
  qj.l1 a0 y3 K76 k r126.1.i r126.1.h z122 z123 (w64 (z124 + 1))))
  else (
  K76 z120 z121 z122 z123)
def qj.f (a0 : l1Cur) (a1 : Schema) : Option (l1Cur × Query) :=
 (quC.f (lenI a1.Cols) 1).bind fun r1 =>
 (qa.f a0 r1).bind fun r2 =>
 joinK (fun (y3 : Int) =>
 joinK (fun (y8 : Int) (y9 : Int) (y10 : List Cond) =>
 (qa.f (l1Cur.mk a0.b y8 y9) (w64 (y3 + 1))).bind fun r64 =>
 (gd (decide (0 < r64.2)) (qfC.f (l1Cur.mk a0.b r64.1.i r64.1.h) 2)).bind fun r65 =>
 (some [0, 0, 1, 2, 3, 5]).bind fun l70 =>
 (qeC.f (l1Cur.mk a0.b (ci3 (decide (0 < r64.2)) r65.1.i r64.1.i) (ci3 (decide (0 < r64.2)) r65.1.h r64.1.h)) l70).bind fun r71 =>
 joinK (fun (y72 : Int) (y73 : Int) (y74 : Bool) (y75 : List Int) =>
 (qfC.f (l1Cur.mk a0.b y72 y73) 2).bind fun r130 =>
 bif r130.2 then (
 (quC.f (lenI a1.Cols) 1).bind fun r132 =>
 (qa.f (l1Cur.mk a0.b r130.1.i r130.1.h) r132).bind fun r133 =>
 bif (decide (r133.2 < (lenI a1.Cols))) then (
 (getO a1.Cols r133.2).bind fun x135 =>
 (quC.f x135 1).bind fun r136 =>
 (qa.f (l1Cur.mk a0.b r133.1.i r133.1.h) r136).bind fun r137 =>
 some ((l1Cur.mk a0.b r137.1.i r137.1.h), (Query.mk r2.2 y10 r64.2 y74 r71.2 y75 true r133.2 r137.2)))
 else (
 some ((l1Cur.mk a0.b r133.1.i r133.1.h), (Query.mk r2.2 y10 r64.2 y74 r71.2 y75 true r133.2 0))))
 else (
 some ((l1Cur.mk a0.b r130.1.i r130.1.h), (Query.mk r2.2 y10 r64.2 y74 r71.2 y75 false 0 0)))) (fun K76 =>
 qj.l1 a0 y3 K76 ((y3 - 0).toNat + 1) r71.1.i r71.1.h (bo3 (decide (0 < r64.2)) r65.2 false) [] 0)) (fun K11 =>
 qj.l0 a0 y3 K11 1000 r2.1.i r2.1.h [] 0)) (fun K4 =>
 bif (decide (r2.2 < (lenI a1.Cols))) then (
 (getO a1.Cols r2.2).bind fun x6 =>
 (quC.f x6 1).bind fun r7 =>
 K4 r7)
 else (
 K4 1))
def qrE.f (a0 : l1Cur) (a1 : Store) : Option (l1Cur × Mut) :=
 (quC.f (lenI a1.Tables) 1).bind fun r1 =>
 (qa.f a0 r1).bind fun r2 =>
 bif (bo3 (decide ((lenI a1.Tables) ≤ r2.2)) true (decide ((lenI a1.Schema.Cols) ≤ r2.2))) then (
 some ((l1Cur.mk a0.b r2.1.i r2.1.h), (Mut.mk 3 0 (Row.mk 1 []))))
 else (
 (qa.f (l1Cur.mk a0.b r2.1.i r2.1.h) 3).bind fun r12 =>
 (getO a1.Schema.Cols r2.2).bind fun x13 =>
 (qKC.f (l1Cur.mk a0.b r12.1.i r12.1.h) x13).bind fun r14 =>
 joinK (fun (y15 : Int) (y16 : Int) (y17 : Int) (y18 : Int) =>
 joinK (fun (y40 : List Int) =>
 (qa.f (l1Cur.mk a0.b y15 y16) 25).bind fun r43 =>
 bif (decide (r43.2 = 0)) then (
 (qa.f (l1Cur.mk a0.b r43.1.i r43.1.h) 5).bind fun r45 =>
 some ((l1Cur.mk a0.b r45.1.i r45.1.h), (Mut.mk r45.2 r2.2 (Row.mk y18 y40))))
 else (
 bif (decide (r43.2 = 1)) then (
 (qa.f (l1Cur.mk a0.b r43.1.i r43.1.h) 5).bind fun r47 =>
 some ((l1Cur.mk a0.b r47.1.i r47.1.h), (Mut.mk y17 (w64 (r47.2 - 1)) (Row.mk y18 y40))))
 else (
 bif (decide (r43.2 = 2)) then (
 (some [0, 999, 1000]).bind fun l49 =>
 (qeC.f (l1Cur.mk a0.b r43.1.i r43.1.h) l49).bind fun r50 =>
 some ((l1Cur.mk a0.b r50.1.i r50.1.h), (Mut.mk y17 r2.2 (Row.mk r50.2 y40))))
 else (
 some ((l1Cur.mk a0.b r43.1.i r43.1.h), (Mut.mk y17 r2.2 (Row.mk y18 y40))))))) (fun K41 =>
 bif (decide (y17 = 3)) then (
 K41 [])
 else (
 K41 r14.2.Cells))) (fun K19 =>
 (gd (decide ((w64 (1 + r12.2)) ≠ 1)) (getO a1.Tables r2.2)).bind fun x20 =>
 (gd (bo3 (decide ((w64 (1 + r12.2)) ≠ 1)) (decide (0 < (lenI x20))) false) (qfC.f (l1Cur.mk a0.b r14.1.i r14.1.h) 9)).bind fun r21 =>
 bif (bo3 (bo3 (decide ((w64 (1 + r12.2)) ≠ 1)) (decide (0 < (lenI x20))) false) (bo3 r21.2 false true) false) then (
 (getO a1.Tables r2.2).bind fun x37 =>
 (qa.f (l1Cur.mk a0.b (ci3 (bo3 (decide ((w64 (1 + r12.2)) ≠ 1)) (decide (0 < (lenI x20))) false) r21.1.i r14.1.i) (ci3 (bo3 (decide ((w64 (1 + r12.2)) ≠ 1)) (decide (0 < (lenI x20))) false) r21.1.h r14.1.h)) (lenI x37)).bind fun r38 =>
 (getO x37 r38.2).bind fun x39 =>
 K19 r38.1.i r38.1.h (w64 (1 + r12.2)) x39.Id)
 else (
 K19 (ci3 (bo3 (decide ((w64 (1 + r12.2)) ≠ 1)) (decide (0 < (lenI x20))) false) r21.1.i r14.1.i) (ci3 (bo3 (decide ((w64 (1 + r12.2)) ≠ 1)) (decide (0 < (lenI x20))) false) r21.1.h r14.1.h) (w64 (1 + r12.2)) r14.2.Id)))
def qRD.l0 (a2 : Row) : Nat → Int → Option Bool
 | 0, _ => none
 | k + 1, z35 =>
  bif (decide (z35 < (lenI a2.Cells))) then (
  (getO a2.Cells z35).bind fun x37 =>
  (qnC.f x37 (-1000000000) 1000000000).bind fun r38 =>
  bif (bo3 r38 false true) then (
  some false)
  else (
  qRD.l0 a2 k (w64 (z35 + 1))))
  else (
  some true)
def qRD.f (a0 : Schema) (a1 : Int) (a2 : Row) : Option Bool :=
 (qnB.f a0).bind fun r1 =>
 (gd (bo3 (bo3 r1 false true) false true) (qnC.f a1 0 (w64 ((lenI a0.Cols) - 1)))).bind fun r2 =>
 (gd (bo3 (bo3 (bo3 r1 false true) true (bo3 r2 false true)) false true) (qnC.f a2.Id 1 999)).bind fun r3 =>
 (gd (bo3 (bo3 (bo3 (bo3 r1 false true) true (bo3 r2 false true)) true (bo3 r3 false true)) false true) (getO a0.Cols a1)).bind fun x4 =>
 bif (bo3 (bo3 (bo3 (bo3 r1 false true) true (bo3 r2 false true)) true (bo3 r3 false true)) true (decide ((lenI a2.Cells) ≠ x4))) then (
 some false)
 else (
 qRD.l0 a2 (((lenI a2.Cells) - 0).toNat + 1) 0)
def qDD.l0 (a0 : Schema) (a1 : Int) (a2 : List Row) (K2 : Unit → Option Bool) : Nat → Int → Option Bool
 | 0, _ => none
 | k + 1, z7 =>
  bif (decide (z7 < (lenI a2))) then (
  (getO a2 z7).bind fun x9 =>
  (qRD.f a0 a1 x9).bind fun r10 =>
  (gd (bo3 (bo3 (bo3 r10 false true) false true) (decide (0 < z7)) false) (getO a2 (w64 (z7 - 1)))).bind fun x11 =>
  bif (bo3 (bo3 r10 false true) true (bo3 (decide (0 < z7)) (decide (x9.Id ≤ x11.Id)) false)) then (
  some false)
  else (
  qDD.l0 a0 a1 a2 K2 k (w64 (z7 + 1))))
  else (
  K2 ())
def qDD.f (a0 : Schema) (a1 : Int) (a2 : List Row) : Option Bool :=
 joinK (fun (y1 : Unit) =>
 (qnB.f a0).bind fun r33 =>
 (gd r33 (qnC.f a1 0 (w64 ((lenI a0.Cols) - 1)))).bind fun r34 =>
 some (bo3 (bo3 r33 r34 false) (decide ((lenI a2) ≤ 24)) false)) (fun K2 =>
 qDD.l0 a0 a1 a2 K2 (((lenI a2) - 0).toNat + 1) 0)
def qbC.l0 (a0 : Store) : Nat → Int → Option Bool
 | 0, _ => none
 | k + 1, z24 =>
  bif (decide (z24 < (lenI a0.Tables))) then (
  (getO a0.Tables z24).bind fun x26 =>
  (qDD.f a0.Schema z24 x26).bind fun r27 =>
  bif (bo3 r27 false true) then (
  some false)
  else (
  qbC.l0 a0 k (w64 (z24 + 1))))
  else (
  some true)
def qbC.f (a0 : Store) : Option Bool :=
 (qnB.f a0.Schema).bind fun r1 =>
 (gd (bo3 (bo3 r1 false true) false true) (qnC.f a0.Version 0 100000)).bind fun r2 =>
 bif (bo3 (bo3 (bo3 r1 false true) true (bo3 r2 false true)) true (decide ((lenI a0.Tables) ≠ (lenI a0.Schema.Cols)))) then (
 some false)
 else (
 qbC.l0 a0 (((lenI a0.Tables) - 0).toNat + 1) 0)
def qED.l0 (a0 : List Row) : Nat → (List Row) → Int → Option ((List Row))
 | 0, _, _ => none
 | k + 1, z4, z5 =>
  bif (decide (z5 < (lenI a0))) then (
  (getO a0 z5).bind fun x7 =>
  (qTD.f x7).bind fun r8 =>
  (some [r8]).bind fun l9 =>
  (appO 32 z4 l9).bind fun l10 =>
  qED.l0 a0 k l10 (w64 (z5 + 1)))
  else (
  some z4)
def qED.f (a0 : List Row) : Option ((List Row)) :=
 qED.l0 a0 (((lenI a0) - 0).toNat + 1) [] 0
def qHC.l0 (a0 : Store) (r1 : Schema) : Nat → (List (List Row)) → Int → Option Store
 | 0, _, _ => none
 | k + 1, z17, z18 =>
  bif (decide (z18 < (lenI a0.Tables))) then (
  (getO a0.Tables z18).bind fun x20 =>
  (qED.f x20).bind fun r21 =>
  (some [r21]).bind fun l22 =>
  (appO 24 z17 l22).bind fun l23 =>
  qHC.l0 a0 r1 k l23 (w64 (z18 + 1)))
  else (
  some (Store.mk r1 a0.Version z17))
def qHC.f (a0 : Store) : Option Store :=
 (qlE.f a0.Schema).bind fun r1 =>
 qHC.l0 a0 r1 (((lenI a0.Tables) - 0).toNat + 1) [] 0
def qmH.f (a0 : Schema) (a1 : Mut) : Option Bool :=
 bif (decide (a1.Kind = 3)) then (
 (qnB.f a0).bind fun r2 =>
 (gd r2 (qnC.f a1.Table 0 (w64 ((lenI a0.Cols) - 1)))).bind fun r3 =>
 (gd (bo3 r2 r3 false) (qnC.f a1.Row.Id 1 999)).bind fun r4 =>
 some (bo3 (bo3 (bo3 r2 r3 false) r4 false) (decide ((lenI a1.Row.Cells) = 0)) false))
 else (
 (qnC.f a1.Kind 1 2).bind fun r27 =>
 (gd r27 (qRD.f a0 a1.Table a1.Row)).bind fun r28 =>
 some (bo3 r27 r28 false))
def qsI.f (a0 : Store) (a1 : Mut) : Option (Store × Change × Bool) :=
 (getO a0.Tables a1.Table).bind fun x1 =>
 (qzC.f x1 a1.Row.Id).bind fun r2 =>
 bif (bo3 (bo3 (decide (0 ≤ r2)) (bo3 (decide (a1.Kind ≠ 1)) false true) (decide (a1.Kind ≠ 1))) true (bo3 (decide (a1.Kind = 1)) (decide ((lenI x1) = 24)) false)) then (
 some (a0, (Change.mk 0 false false (Row.mk 0 []) (Row.mk 0 [])), false))
 else (
 bif (decide (a1.Kind ≠ 1)) then (
 (getO x1 r2).bind fun x17 =>
 (qTD.f x17).bind fun r18 =>
 bif (decide (a1.Kind ≠ 3)) then (
 (qTD.f a1.Row).bind fun r20 =>
 (qZC.f x1 a1.Row).bind fun r21 =>
 (some (setI a0.Tables a1.Table r21)).bind fun l22 =>
 some ((Store.mk a0.Schema a0.Version l22), (Change.mk a1.Table (decide (a1.Kind ≠ 1)) (decide (a1.Kind ≠ 3)) r18 r20), true))
 else (
 (qFC.f x1 a1.Row.Id).bind fun r23 =>
 (some (setI a0.Tables a1.Table r23)).bind fun l24 =>
 some ((Store.mk a0.Schema a0.Version l24), (Change.mk a1.Table (decide (a1.Kind ≠ 1)) (decide (a1.Kind ≠ 3)) r18 (Row.mk 0 [])), true)))
 else (
 bif (decide (a1.Kind ≠ 3)) then (
 (qTD.f a1.Row).bind fun r26 =>
 (qZC.f x1 a1.Row).bind fun r27 =>
 (some (setI a0.Tables a1.Table r27)).bind fun l28 =>
 some ((Store.mk a0.Schema a0.Version l28), (Change.mk a1.Table (decide (a1.Kind ≠ 1)) (decide (a1.Kind ≠ 3)) (Row.mk 0 []) r26), true))
 else (
 (qFC.f x1 a1.Row.Id).bind fun r29 =>
 (some (setI a0.Tables a1.Table r29)).bind fun l30 =>
 some ((Store.mk a0.Schema a0.Version l30), (Change.mk a1.Table (decide (a1.Kind ≠ 1)) (decide (a1.Kind ≠ 3)) (Row.mk 0 []) (Row.mk 0 [])), true))))
def qSG.f (a0 : Store) (a1 : Mut) : Option (Store × Change × Bool) :=
 (qbC.f a0).bind fun r1 =>
 bif (bo3 r1 false true) then (
 some ((Store.mk (Schema.mk []) 0 []), (Change.mk 0 false false (Row.mk 0 []) (Row.mk 0 [])), false))
 else (
 (qmH.f a0.Schema a1).bind fun r3 =>
 bif (bo3 r3 false true) then (
 (qHC.f a0).bind fun r5 =>
 some (r5, (Change.mk 0 false false (Row.mk 0 []) (Row.mk 0 [])), false))
 else (
 (qHC.f a0).bind fun r6 =>
 (qsI.f r6 a1).bind fun r7 =>
 bif (bo3 r7.2.2 false true) then (
 (qHC.f a0).bind fun r9 =>
 some (r9, (Change.mk 0 false false (Row.mk 0 []) (Row.mk 0 [])), false))
 else (
 some (r7.1, r7.2.1, true))))
def qwB.l0 (r1 : l1Cur) (r2 : l1Cur × Store) (r3 : l1Cur × Query) : Nat → Int → Int → (List Int) → Int → (List (List Row)) → (List Mut) → Int → Option (Store × Query × (List Mut))
 | 0, _, _, _, _, _, _, _ => none
 | k + 1, z32, z33, z34, z35, z36, z37, z38 =>
  (gd (decide (z38 < 6)) (qa.f (l1Cur.mk r1.b z32 z33) 4)).bind fun r39 =>
  bif (bo3 (decide (z38 < 6)) (decide ((lenI z37) < (w64 (1 + r39.2)))) false) then (
  (qrE.f (l1Cur.mk r1.b (ci3 (decide (z38 < 6)) r39.1.i z32) (ci3 (decide (z38 < 6)) r39.1.h z33)) (Store.mk (Schema.mk z34) z35 z36)).bind fun r49 =>
  (qSG.f (Store.mk (Schema.mk z34) z35 z36) r49.2).bind fun r50 =>
  bif r50.2.2 then (
  (some [r49.2]).bind fun l52 =>
  (appO 48 z37 l52).bind fun l53 =>
  qwB.l0 r1 r2 r3 k r49.1.i r49.1.h r50.1.Schema.Cols r50.1.Version r50.1.Tables l53 (w64 (z38 + 1)))
  else (
  qwB.l0 r1 r2 r3 k r49.1.i r49.1.h z34 z35 z36 z37 (w64 (z38 + 1))))
  else (
  some (r2.2, r3.2, z37))
def qwB.f (a0 : List Int) : Option (Store × Query × (List Mut)) :=
 (qmD.f a0).bind fun r1 =>
 (qoB.f r1).bind fun r2 =>
 (qj.f (l1Cur.mk r1.b r2.1.i r2.1.h) r2.2.Schema).bind fun r3 =>
 qwB.l0 r1 r2 r3 (((6 : Int) - 0).toNat + 1) r3.1.i r3.1.h r2.2.Schema.Cols r2.2.Version r2.2.Tables [] 0
def qzB.l0 (a0 : List Row) : Nat → (List Row) → Int → Option ((List Row))
 | 0, _, _ => none
 | k + 1, z5, z6 =>
  bif (decide (z6 < (lenI a0))) then (
  (getO a0 z6).bind fun x8 =>
  (qxC.f x8).bind fun r9 =>
  (some [r9]).bind fun l10 =>
  (appO 32 z5 l10).bind fun l11 =>
  qzB.l0 a0 k l11 (w64 (z6 + 1)))
  else (
  some z5)
def qzB.f (a0 : List Row) : Option ((List Row)) :=
 qzB.l0 a0 (((lenI a0) - 0).toNat + 1) [] 0
def qfB.l0 (a0 : Store) (r1 : (List Int)) : Nat → (List (List Row)) → Int → Option Store
 | 0, _, _ => none
 | k + 1, z15, z16 =>
  bif (decide (z16 < (lenI a0.Tables))) then (
  (getO a0.Tables z16).bind fun x18 =>
  (qzB.f x18).bind fun r19 =>
  (some [r19]).bind fun l20 =>
  (appO 24 z15 l20).bind fun l21 =>
  qfB.l0 a0 r1 k l21 (w64 (z16 + 1)))
  else (
  some (Store.mk (Schema.mk r1) a0.Version z15))
def qfB.f (a0 : Store) : Option Store :=
 (qkE.f a0.Schema.Cols).bind fun r1 =>
 qfB.l0 a0 r1 (((lenI a0.Tables) - 0).toNat + 1) [] 0
def qTG.f (a0 : Store) : Option Store :=
 (quB.f a0).bind fun r1 =>
 bif (bo3 r1 false true) then (
 some (Store.mk (Schema.mk []) 0 []))
 else (
 (qfB.f a0).bind fun r3 =>
 some r3)
def qnH.f (a0 : Schema) (a1 : Mut) : Option Bool :=
 bif (decide (a1.Kind = 3)) then (
 (qmB.f a0).bind fun r2 =>
 (gd r2 (qHD.f a0 a1.Table)).bind fun r3 =>
 (gd (bo3 r2 r3 false) (qdB.f a1.Row.Id 1 999)).bind fun r4 =>
 some (bo3 (bo3 (bo3 r2 r3 false) r4 false) (decide ((lenI a1.Row.Cells) = 0)) false))
 else (
 (qdB.f a1.Kind 1 2).bind fun r24 =>
 (gd r24 (qPD.f a0 a1.Table a1.Row)).bind fun r25 =>
 some (bo3 r24 r25 false))
def qZD.f (a0 : List Row) (a1 : Int) (a2 : Int) : Option (List Row) := delO a0 a1 a2
def qEH.f (a0 : Row) (a1 : Int) : Option Bool :=
 some (decide (a0.Id = a1))
def qU.l0 (a0 : List Row) (a1c0 : Int) : Nat → Int → Option Int
 | 0, _ => none
 | k + 1, z5 =>
  bif (decide (z5 < (lenI a0))) then (
  (getO a0 z5).bind fun x7 =>
  (qEH.f x7 a1c0).bind fun r8 =>
  bif r8 then (
  some z5)
  else (
  qU.l0 a0 a1c0 k (w64 (z5 + 1))))
  else (
  some (-1))
def qU.f (a0 : List Row) (a1c0 : Int) : Option Int :=
 qU.l0 a0 a1c0 (((lenI a0) - 0).toNat + 1) 0
def qaF.f (a0 : List Row) (a1 : Int) : Option Int :=
 (qU.f a0 a1).bind fun r1 =>
 some r1
def qwF.f (a0 : List Row) (a1 : Int) : Option ((List Row)) :=
 (qzB.f a0).bind fun r1 =>
 (qaF.f a0 a1).bind fun r2 =>
 bif (decide (0 ≤ r2)) then (
 (qZD.f r1 r2 (w64 (r2 + 1))).bind fun r4 =>
 some r4)
 else (
 some r1)
def qKG.f (a0 : Row) (a1 : Row) : Option Bool :=
 some (decide (a1.Id < a0.Id))
def qR.l0 (a0 : List Row) (a1c0 : Row) : Nat → Int → Option Int
 | 0, _ => none
 | k + 1, z6 =>
  bif (decide (z6 < (lenI a0))) then (
  (getO a0 z6).bind fun x8 =>
  (qKG.f x8 a1c0).bind fun r9 =>
  bif r9 then (
  some z6)
  else (
  qR.l0 a0 a1c0 k (w64 (z6 + 1))))
  else (
  some (-1))
def qR.f (a0 : List Row) (a1c0 : Row) : Option Int :=
 qR.l0 a0 a1c0 (((lenI a0) - 0).toNat + 1) 0
def qoC.f (a0 : List Row) (a1 : Int) (a2 : List Row) : Option (List Row) := insO 32 a0 a1 a2
def qcG.f (a0 : List Row) (a1 : Row) : Option ((List Row)) :=
 (qzB.f a0).bind fun r1 =>
 (qaF.f a0 a1.Id).bind fun r2 =>
 bif (decide (0 ≤ r2)) then (
 (qxC.f a1).bind fun r4 =>
 (getO r1 r2).bind fun x5 =>
 (some (setI r1 r2 r4)).bind fun l6 =>
 some l6)
 else (
 (qR.f a0 a1).bind fun r7 =>
 joinK (fun (y8 : Int) =>
 (qxC.f a1).bind fun r11 =>
 (some [r11]).bind fun l12 =>
 (qoC.f r1 y8 l12).bind fun r13 =>
 some r13) (fun K9 =>
 bif (decide (r7 < 0)) then (
 K9 (lenI a0))
 else (
 K9 r7)))
def qoH.f (a0 : Store) (a1 : Mut) : Option (Store × Change × Bool) :=
 (quB.f a0).bind fun r1 =>
 (gd (bo3 (bo3 r1 false true) false true) (qnH.f a0.Schema a1)).bind fun r2 =>
 bif (bo3 (bo3 r1 false true) true (bo3 r2 false true)) then (
 (qTG.f a0).bind fun r11 =>
 some (r11, (Change.mk 0 false false (Row.mk 0 []) (Row.mk 0 [])), false))
 else (
 (getO a0.Tables a1.Table).bind fun x12 =>
 (qaF.f x12 a1.Row.Id).bind fun r13 =>
 bif (bo3 (bo3 (decide (0 ≤ r13)) (decide (a1.Kind = 1)) (bo3 (decide (a1.Kind = 1)) false true)) true (bo3 (decide (a1.Kind = 1)) (decide ((lenI x12) = 24)) false)) then (
 (qfB.f a0).bind fun r27 =>
 some (r27, (Change.mk 0 false false (Row.mk 0 []) (Row.mk 0 [])), false))
 else (
 (qfB.f a0).bind fun r28 =>
 joinK (fun (y29 : Bool) (y30 : Int) (y31 : List Int) =>
 bif (decide (a1.Kind = 3)) then (
 (qwF.f x12 a1.Row.Id).bind fun r37 =>
 (getO r28.Tables a1.Table).bind fun x38 =>
 (some (setI r28.Tables a1.Table r37)).bind fun l39 =>
 some ((Store.mk r28.Schema r28.Version l39), (Change.mk a1.Table y29 false (Row.mk y30 y31) (Row.mk 0 [])), true))
 else (
 (qxC.f a1.Row).bind fun r40 =>
 (qcG.f x12 a1.Row).bind fun r41 =>
 (getO r28.Tables a1.Table).bind fun x42 =>
 (some (setI r28.Tables a1.Table r41)).bind fun l43 =>
 some ((Store.mk r28.Schema r28.Version l43), (Change.mk a1.Table y29 true (Row.mk y30 y31) r40), true))) (fun K32 =>
 bif (decide (0 ≤ r13)) then (
 (getO x12 r13).bind fun x34 =>
 (qxC.f x34).bind fun r35 =>
 K32 true r35.Id r35.Cells)
 else (
 K32 false 0 []))))
def qlC.l0 (a0 : Store) (a1 : List Mut) : Nat → (List Int) → Int → (List (List Row)) → (List Change) → Int → Option (Store × (List Change) × Bool)
 | 0, _, _, _, _, _ => none
 | k + 1, z28, z29, z30, z31, z32 =>
  bif (decide (z32 < (lenI a1))) then (
  (getO a1 z32).bind fun x34 =>
  (qoH.f (Store.mk (Schema.mk z28) z29 z30) x34).bind fun r35 =>
  bif (bo3 r35.2.2 false true) then (
  (qfB.f a0).bind fun r37 =>
  some (r37, [], false))
  else (
  (some [r35.2.1]).bind fun l38 =>
  (appO 80 z31 l38).bind fun l39 =>
  qlC.l0 a0 a1 k r35.1.Schema.Cols r35.1.Version r35.1.Tables l39 (w64 (z32 + 1))))
  else (
  some ((Store.mk (Schema.mk z28) (w64 (z29 + 1)) z30), z31, true))
def qlC.f (a0 : Store) (a1 : List Mut) : Option (Store × (List Change) × Bool) :=
 (quB.f a0).bind fun r1 =>
 (gd (bo3 (bo3 r1 false true) false true) (qdB.f (lenI a1) 1 5)).bind fun r2 =>
 bif (bo3 (bo3 (bo3 r1 false true) true (bo3 r2 false true)) true (decide (a0.Version = 100000))) then (
 (qTG.f a0).bind fun r15 =>
 some (r15, [], false))
 else (
 (qfB.f a0).bind fun r16 =>
 qlC.l0 a0 a1 (((lenI a1) - 0).toNat + 1) r16.Schema.Cols r16.Version r16.Tables [] 0)
def qmC.l0 (a0 : Store) (a1 : List Mut) : Nat → (List Int) → Int → (List (List Row)) → (List Change) → Int → Option (Store × (List Change) × Bool)
 | 0, _, _, _, _, _ => none
 | k + 1, z23, z24, z25, z26, z27 =>
  bif (decide (z27 < (lenI a1))) then (
  (getO a1 z27).bind fun x29 =>
  (qSG.f (Store.mk (Schema.mk z23) z24 z25) x29).bind fun r30 =>
  bif (bo3 r30.2.2 false true) then (
  (qHC.f a0).bind fun r32 =>
  some (r32, [], false))
  else (
  (some [r30.2.1]).bind fun l33 =>
  (appO 80 z26 l33).bind fun l34 =>
  qmC.l0 a0 a1 k r30.1.Schema.Cols r30.1.Version r30.1.Tables l34 (w64 (z27 + 1))))
  else (
  some ((Store.mk (Schema.mk z23) (w64 (a0.Version + 1)) z25), z26, true))
def qmC.f (a0 : Store) (a1 : List Mut) : Option (Store × (List Change) × Bool) :=
 (qbC.f a0).bind fun r1 =>
 bif (bo3 r1 false true) then (
 some ((Store.mk (Schema.mk []) 0 []), [], false))
 else (
 (qnC.f (lenI a1) 1 5).bind fun r3 =>
 bif (bo3 (bo3 r3 false true) true (decide (a0.Version = 100000))) then (
 (qHC.f a0).bind fun r10 =>
 some (r10, [], false))
 else (
 (qHC.f a0).bind fun r11 =>
 qmC.l0 a0 a1 (((lenI a1) - 0).toNat + 1) r11.Schema.Cols r11.Version r11.Tables [] 0))
def qzE.f (a0 : List Int) : Option Bool :=
 (qmK.f a0).bind fun r1 =>
 bif r1 then (
 some true)
 else (
 (qwB.f a0).bind fun r3 =>
 (qlC.f r3.1 r3.2.2).bind fun r4 =>
 (qmC.f r3.1 r3.2.2).bind fun r5 =>
 bif (bo3 r4.2.2 (bo3 r5.2.2 false true) r5.2.2) then (
 some false)
 else (
 bif (bo3 r4.2.2 false true) then (
 some (decide ((lenI r4.2.1) = 0)))
 else (
 (qpB.f r3.2.1 r4.2.1).bind fun r8 =>
 (qvB.f r3.2.1 r4.2.1).bind fun r9 =>
 bif (bo3 r8 (bo3 r9 false true) r9) then (
 some false)
 else (
 (some [r3.2.1]).bind fun l11 =>
 (qyB.f r3.1.Schema l11 r4.2.1).bind fun r12 =>
 (gd (bo3 (bo3 (decide ((lenI r12) = 1)) r8 (bo3 r8 false true)) (bo3 r8 false true) false) (qlD.f r3.1 r3.2.1)).bind fun r13 =>
 (gd (bo3 (bo3 (decide ((lenI r12) = 1)) r8 (bo3 r8 false true)) (bo3 r8 false true) false) (qlD.f r4.1 r3.2.1)).bind fun r14 =>
 (gd (bo3 (bo3 (decide ((lenI r12) = 1)) r8 (bo3 r8 false true)) (bo3 r8 false true) false) (qjE.f r13 r14)).bind fun r15 =>
 some (bo3 (bo3 (decide ((lenI r12) = 1)) r8 (bo3 r8 false true)) (bo3 r8 true r15) false)))))
end Go.Proofs.YtbhleignjmcdiaaGreatDoor.L