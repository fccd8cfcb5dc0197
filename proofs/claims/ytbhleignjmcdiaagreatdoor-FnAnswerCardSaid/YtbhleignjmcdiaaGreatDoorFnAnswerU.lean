/- The pure functions of the program. -/
import Derived.Test.YtbhleignjmcdiaaGreatDoorFnAnswerSl48
namespace Go.Proofs.YtbhleignjmcdiaaGreatDoor.L
open Go
set_option linter.unusedVariables false
structure Schema where
 Cols : List Int
 deriving Inhabited, DecidableEq
structure Row where
 Id : Int
 Cells : List Int
 deriving Inhabited, DecidableEq
structure Store where
 Schema : Schema
 Version : Int
 Tables : List (List Row)
 deriving Inhabited, DecidableEq
structure Cond where
 Col : Int
 Op : Int
 V : Int
 deriving Inhabited, DecidableEq
structure Query where
 Table : Int
 Where : List Cond
 Order : Int
 Down : Bool
 First : Int
 Show : List Int
 Kids : Bool
 KidTable : Int
 KidCol : Int
 deriving Inhabited, DecidableEq
structure Json where
 Kind : Int
 N : Int
 S : ByteArray
 List_ : List Json
 Names : List ByteArray
instance : Inhabited Json := ⟨⟨0, 0, ByteArray.empty, [], []⟩⟩
noncomputable instance : DecidableEq Json := fun _ _ => Classical.propDecidable _
structure l1Cur where
 b : List Int
 i : Int
 h : Int
 deriving Inhabited, DecidableEq
def quB.f (a0 : Int) (a1 : Int) (a2 : Int) : Option Bool :=
 some (bo3 (decide (a1 ≤ a0)) (decide (a0 ≤ a2)) false)
def qDH.f (a0 : Cond) (a1 : Row) : Option Bool :=
 (quB.f a0.Col 0 (w64 ((lenI a1.Cells) - 1))).bind fun r1 =>
 bif (bo3 r1 false true) then (
 some false)
 else (
 (getO a1.Cells a0.Col).bind fun x3 =>
 bif (decide (a0.Op = 1)) then (
 some (decide (x3 = a0.V)))
 else (
 bif (decide (a0.Op = 2)) then (
 some (decide (x3 < a0.V)))
 else (
 bif (decide (a0.Op = 3)) then (
 some (decide (a0.V < x3)))
 else (
 some (bo3 (decide (a0.Op = 4)) (decide (x3 ≠ a0.V)) false)))))
def qRC.l0 (a0 : Query) (a1 : Row) : Nat → Int → Option Bool
 | 0, _ => none
 | k + 1, z6 =>
  bif (decide (z6 < (lenI a0.Where))) then (
  (getO a0.Where z6).bind fun x8 =>
  (qDH.f x8 a1).bind fun r9 =>
  bif (bo3 r9 false true) then (
  some false)
  else (
  qRC.l0 a0 a1 k (w64 (z6 + 1))))
  else (
  some true)
def qRC.f (a0 : Query) (a1 : Row) : Option Bool :=
 qRC.l0 a0 a1 (((lenI a0.Where) - 0).toNat + 1) 0
def qyD.f (a0 : Int) : Option Bool :=
 (quB.f a0 0 100000).bind fun r1 =>
 some r1
def qOD.f (a0 : Schema) (a1 : Int) : Option Bool :=
 (quB.f a1 0 (w64 ((lenI a0.Cols) - 1))).bind fun r1 =>
 some r1
def qLF.f (a0 : Int) : Option Bool :=
 (quB.f a0 (-1000000000) 1000000000).bind fun r1 =>
 some r1
def qwB.l0 (a0 : Schema) (K2 : Unit → Option Bool) : Nat → Int → Option Bool
 | 0, _ => none
 | k + 1, z7 =>
  bif (decide (z7 < (lenI a0.Cols))) then (
  (getO a0.Cols z7).bind fun x9 =>
  (quB.f x9 1 4).bind fun r10 =>
  bif (bo3 r10 false true) then (
  some false)
  else (
  qwB.l0 a0 K2 k (w64 (z7 + 1))))
  else (
  K2 ())
def qwB.f (a0 : Schema) : Option Bool :=
 joinK (fun (y1 : Unit) =>
 (quB.f (lenI a0.Cols) 1 3).bind fun r12 =>
 some r12) (fun K2 =>
 qwB.l0 a0 K2 (((lenI a0.Cols) - 0).toNat + 1) 0)
def qKD.l0 (a2 : Row) (K2 : Unit → Option Bool) : Nat → Int → Option Bool
 | 0, _ => none
 | k + 1, z10 =>
  bif (decide (z10 < (lenI a2.Cells))) then (
  (getO a2.Cells z10).bind fun x12 =>
  (qLF.f x12).bind fun r13 =>
  bif (bo3 r13 false true) then (
  some false)
  else (
  qKD.l0 a2 K2 k (w64 (z10 + 1))))
  else (
  K2 ())
def qKD.f (a0 : Schema) (a1 : Int) (a2 : Row) : Option Bool :=
 joinK (fun (y1 : Unit) =>
 (qwB.f a0).bind fun r15 =>
 (gd r15 (qOD.f a0 a1)).bind fun r16 =>
 (gd (bo3 r15 r16 false) (getO a0.Cols a1)).bind fun x17 =>
 (gd (bo3 (bo3 r15 r16 false) (decide ((lenI a2.Cells) = x17)) false) (quB.f a2.Id 1 999)).bind fun r18 =>
 some (bo3 (bo3 (bo3 r15 r16 false) (decide ((lenI a2.Cells) = x17)) false) r18 false)) (fun K2 =>
 qKD.l0 a2 K2 (((lenI a2.Cells) - 0).toNat + 1) 0)
def qqC.l0 (a0 : Schema) (a1 : Int) (a2 : List Row) (K2 : Unit → Option Bool) : Nat → Int → Option Bool
 | 0, _ => none
 | k + 1, z9 =>
  bif (decide (z9 < (lenI a2))) then (
  (getO a2 z9).bind fun x11 =>
  (qKD.f a0 a1 x11).bind fun r12 =>
  (gd (bo3 (bo3 (bo3 r12 false true) false true) (decide (0 < z9)) false) (getO a2 (w64 (z9 - 1)))).bind fun x13 =>
  bif (bo3 (bo3 r12 false true) true (bo3 (decide (0 < z9)) (decide (x11.Id ≤ x13.Id)) false)) then (
  some false)
  else (
  qqC.l0 a0 a1 a2 K2 k (w64 (z9 + 1))))
  else (
  K2 ())
def qqC.f (a0 : Schema) (a1 : Int) (a2 : List Row) : Option Bool :=
 joinK (fun (y1 : Unit) =>
 (qwB.f a0).bind fun r32 =>
 (gd r32 (qOD.f a0 a1)).bind fun r33 =>
 some (bo3 (bo3 r32 r33 false) (decide ((lenI a2) ≤ 24)) false)) (fun K2 =>
 qqC.l0 a0 a1 a2 K2 (((lenI a2) - 0).toNat + 1) 0)
def qSC.l0 (a0 : Store) : Nat → Int → Option Bool
 | 0, _ => none
 | k + 1, z26 =>
  bif (decide (z26 < (lenI a0.Tables))) then (
  (getO a0.Tables z26).bind fun x28 =>
  (qqC.f a0.Schema z26 x28).bind fun r29 =>
  bif (bo3 r29 false true) then (
  some false)
  else (
  qSC.l0 a0 k (w64 (z26 + 1))))
  else (
  some true)
def qSC.f (a0 : Store) : Option Bool :=
 (qwB.f a0.Schema).bind fun r1 =>
 (gd (bo3 (bo3 r1 false true) false true) (qyD.f a0.Version)).bind fun r2 =>
 bif (bo3 (bo3 (bo3 r1 false true) true (bo3 r2 false true)) true (decide ((lenI a0.Tables) ≠ (lenI a0.Schema.Cols)))) then (
 some false)
 else (
 qSC.l0 a0 (((lenI a0.Tables) - 0).toNat + 1) 0)
def qdF.f (a0 : Schema) (a1 : Query) : Option Bool :=
 bif (bo3 a1.Kids false true) then (
 some (bo3 (decide (a1.KidTable = 0)) (decide (a1.KidCol = 0)) false))
 else (
 (qOD.f a0 a1.KidTable).bind fun r7 =>
 (gd r7 (getO a0.Cols a1.KidTable)).bind fun x8 =>
 (gd r7 (quB.f a1.KidCol 0 (w64 (x8 - 1)))).bind fun r9 =>
 some (bo3 r7 r9 false))
def qbB.l0 (a1 : Query) (x11 : Int) (K13 : Unit → Option Bool) : Nat → Int → Option Bool
 | 0, _ => none
 | k + 1, z28 =>
  bif (decide (z28 < (lenI a1.Where))) then (
  (getO a1.Where z28).bind fun x30 =>
  (quB.f x30.Col 0 (w64 (x11 - 1))).bind fun r31 =>
  (gd (bo3 (bo3 r31 false true) false true) (quB.f x30.Op 1 4)).bind fun r32 =>
  (gd (bo3 (bo3 (bo3 r31 false true) true (bo3 r32 false true)) false true) (qLF.f x30.V)).bind fun r33 =>
  bif (bo3 (bo3 (bo3 r31 false true) true (bo3 r32 false true)) true (bo3 r33 false true)) then (
  some false)
  else (
  qbB.l0 a1 x11 K13 k (w64 (z28 + 1))))
  else (
  K13 ())
def qbB.l1 (a1 : Query) (x11 : Int) (K48 : Unit → Option Bool) : Nat → Int → Option Bool
 | 0, _ => none
 | k + 1, z63 =>
  bif (decide (z63 < (lenI a1.Show))) then (
  (getO a1.Show z63).bind fun x65 =>
  (quB.f x65 0 (w64 (x11 - 1))).bind fun r66 =>
  (gd (bo3 (bo3 (bo3 r66 false true) false true) (decide (0 < z63)) false) (getO a1.Show (w64 (z63 - 1)))).bind fun x67 =>
  bif (bo3 (bo3 r66 false true) true (bo3 (decide (0 < z63)) (decide (x65 ≤ x67)) false)) then (
  some false)
  else (
  qbB.l1 a1 x11 K48 k (w64 (z63 + 1))))
  else (
  K48 ())
def qbB.f (a0 : Schema) (a1 : Query) : Option Bool :=
 (qwB.f a0).bind fun r1 =>
 (gd (bo3 (bo3 r1 false true) false true) (qOD.f a0 a1.Table)).bind fun r2 =>
 bif (bo3 (bo3 r1 false true) true (bo3 r2 false true)) then (
 some false)
 else (
 (getO a0.Cols a1.Table).bind fun x11 =>
 joinK (fun (y12 : Unit) =>
 joinK (fun (y47 : Unit) =>
 (quB.f a1.Order 0 x11).bind fun r85 =>
 (gd (bo3 (decide ((lenI a1.Where) ≤ 3)) (bo3 r85 (bo3 (bo3 a1.Down false true) true (decide (0 < a1.Order))) false) false) (quB.f a1.First 0 24)).bind fun r98 =>
 (gd (bo3 (bo3 (decide ((lenI a1.Where) ≤ 3)) (bo3 r85 (bo3 (bo3 a1.Down false true) true (decide (0 < a1.Order))) false) false) r98 false) (qdF.f a0 a1)).bind fun r99 =>
 some (bo3 (bo3 (bo3 (decide ((lenI a1.Where) ≤ 3)) (bo3 r85 (bo3 (bo3 a1.Down false true) true (decide (0 < a1.Order))) false) false) r98 false) r99 false)) (fun K48 =>
 qbB.l1 a1 x11 K48 (((lenI a1.Show) - 0).toNat + 1) 0)) (fun K13 =>
 qbB.l0 a1 x11 K13 (((lenI a1.Where) - 0).toNat + 1) 0))
def quE.f (a0 : List Int) : Option ((List Int)) :=
 (appO 8 [] a0).bind fun l1 =>
 some l1
def qeF.f (a0 : Row) : Option Row :=
 (quE.f a0.Cells).bind fun r1 =>
 some (Row.mk a0.Id r1)
def qfE.f (a0 : Row) (a1 : Int) : Option Int :=
 (quB.f a1 0 (w64 ((lenI a0.Cells) - 1))).bind fun r1 =>
 bif (bo3 r1 false true) then (
 some 0)
 else (
 (getO a0.Cells a1).bind fun x3 =>
 some x3)
def qyF.f (a0 : Query) (a1 : Row) (a2 : Row) : Option Bool :=
 bif (decide (a0.Order = 0)) then (
 some (decide (a1.Id < a2.Id)))
 else (
 (qfE.f a1 (w64 (a0.Order - 1))).bind fun r2 =>
 (qfE.f a2 (w64 (a0.Order - 1))).bind fun r3 =>
 bif (decide (r2 = r3)) then (
 some (decide (a1.Id < a2.Id)))
 else (
 bif a0.Down then (
 some (decide (r3 < r2)))
 else (
 some (decide (r2 < r3)))))
def qxC.f (a0 : Row) (a1 : Row) (a2 : Query) : Option Int :=
 (qyF.f a2 a0 a1).bind fun r1 =>
 bif r1 then (
 some (-1))
 else (
 some 1)
def qE.l1 (a1 : Int) (a3c0 : Query) (K18 : (List Row) → Option ((List Row))) : Nat → (List Row) → Int → Option ((List Row))
 | 0, _, _ => none
 | k + 1, z33, z34 =>
  (gd (decide (a1 < z34)) (getO z33 z34)).bind fun x35 =>
  (gd (decide (a1 < z34)) (getO z33 (w64 (z34 - 1)))).bind fun x36 =>
  (gd (decide (a1 < z34)) (qxC.f x35 x36 a3c0)).bind fun r37 =>
  bif (bo3 (decide (a1 < z34)) (decide (r37 < 0)) false) then (
  (getO z33 (w64 (z34 - 1))).bind fun x53 =>
  (getO z33 z34).bind fun x54 =>
  (neO (w64 (z34 - 1)) z34).bind fun u55 =>
  (some (setI (setI z33 z34 x53) (w64 (z34 - 1)) x54)).bind fun l56 =>
  qE.l1 a1 a3c0 K18 k l56 (w64 (z34 - 1)))
  else (
  K18 z33)
def qE.l0 (a1 : Int) (a2 : Int) (a3c0 : Query) : Nat → (List Row) → Int → Option ((List Row))
 | 0, _, _ => none
 | k + 1, z14, z15 =>
  bif (decide (z15 < a2)) then (
  joinK (fun (y17 : List Row) =>
  qE.l0 a1 a2 a3c0 k y17 (w64 (z15 + 1))) (fun K18 =>
  qE.l1 a1 a3c0 K18 ((z15 - a1).toNat + 1) z14 z15))
  else (
  some z14)
def qE.f (a0 : List Row) (a1 : Int) (a2 : Int) (a3c0 : Query) : Option ((List Row)) :=
 qE.l0 a1 a2 a3c0 ((a2 - (w64 (a1 + 1))).toNat + 1) a0 (w64 (a1 + 1))
def qG.l0 (a1 : Int) (a2 : Int) (a3 : Int) : Nat → (List Row) → Int → Option ((List Row))
 | 0, _, _ => none
 | k + 1, z6, z7 =>
  bif (decide (z7 < a3)) then (
  (getO z6 (w64 (a2 + z7))).bind fun x9 =>
  (getO z6 (w64 (a1 + z7))).bind fun x10 =>
  (neO (w64 (a2 + z7)) (w64 (a1 + z7))).bind fun u11 =>
  (some (setI (setI z6 (w64 (a1 + z7)) x9) (w64 (a2 + z7)) x10)).bind fun l12 =>
  qG.l0 a1 a2 a3 k l12 (w64 (z7 + 1)))
  else (
  some z6)
def qG.f (a0 : List Row) (a1 : Int) (a2 : Int) (a3 : Int) (a4c0 : Query) : Option ((List Row)) :=
 qG.l0 a1 a2 a3 ((a3 - 0).toNat + 1) a0 0
def qI.l0 (a2 : Int) (a4c0 : Query) (K3 : (List Row) → Int → Option ((List Row))) : Nat → (List Row) → Int → Int → Option ((List Row))
 | 0, _, _, _ => none
 | k + 1, z17, z18, z19 =>
  bif (decide (z18 ≠ z19)) then (
  bif (decide (z19 < z18)) then (
  (qG.f z17 (w64 (a2 - z18)) a2 z19 a4c0).bind fun r22 =>
  qI.l0 a2 a4c0 K3 k r22 (w64 (z18 - z19)) z19)
  else (
  (qG.f z17 (w64 (a2 - z18)) (w64 ((w64 (a2 + z19)) - z18)) z18 a4c0).bind fun r23 =>
  qI.l0 a2 a4c0 K3 k r23 z18 (w64 (z19 - z18))))
  else (
  K3 z17 z18)
def qI.f (a0 : List Row) (a1 : Int) (a2 : Int) (a3 : Int) (a4c0 : Query) : Option ((List Row)) :=
 joinK (fun (y1 : List Row) (y2 : Int) =>
 (qG.f y1 (w64 (a2 - y2)) a2 y2 a4c0).bind fun r24 =>
 some r24) (fun K3 =>
 qI.l0 a2 a4c0 K3 1000 a0 (w64 (a2 - a1)) (w64 (a3 - a2)))
def qA.l0 (a0 : List Row) (a1 : Int) (a4c0 : Query) (K5 : Int → Option ((List Row))) : Nat → Int → Int → Option ((List Row))
 | 0, _, _ => none
 | k + 1, z19, z20 =>
  bif (decide (z19 < z20)) then (
  (getO a0 (w64 (Ls.ar .shr .u64 (IntKind.wrap .u64 (w64 (z19 + z20))) 1))).bind fun x22 =>
  (getO a0 a1).bind fun x23 =>
  (qxC.f x22 x23 a4c0).bind fun r24 =>
  bif (decide (r24 < 0)) then (
  qA.l0 a0 a1 a4c0 K5 k (w64 ((w64 (Ls.ar .shr .u64 (IntKind.wrap .u64 (w64 (z19 + z20))) 1)) + 1)) z20)
  else (
  qA.l0 a0 a1 a4c0 K5 k z19 (w64 (Ls.ar .shr .u64 (IntKind.wrap .u64 (w64 (z19 + z20))) 1))))
  else (
  K5 z19)
def qA.l1 (y4 : Int) : Nat → (List Row) → Int → Option ((List Row))
 | 0, _, _ => none
 | k + 1, z29, z30 =>
  bif (decide (z30 < (w64 (y4 - 1)))) then (
  (getO z29 (w64 (z30 + 1))).bind fun x32 =>
  (getO z29 z30).bind fun x33 =>
  (neO (w64 (z30 + 1)) z30).bind fun u34 =>
  (some (setI (setI z29 z30 x32) (w64 (z30 + 1)) x33)).bind fun l35 =>
  qA.l1 y4 k l35 (w64 (z30 + 1)))
  else (
  some z29)
def qA.l2 (a0 : List Row) (a2 : Int) (a4c0 : Query) (K40 : Int → Option ((List Row))) : Nat → Int → Int → Option ((List Row))
 | 0, _, _ => none
 | k + 1, z54, z55 =>
  bif (decide (z54 < z55)) then (
  (getO a0 a2).bind fun x57 =>
  (getO a0 (w64 (Ls.ar .shr .u64 (IntKind.wrap .u64 (w64 (z54 + z55))) 1))).bind fun x58 =>
  (qxC.f x57 x58 a4c0).bind fun r59 =>
  bif (bo3 (decide (r59 < 0)) false true) then (
  qA.l2 a0 a2 a4c0 K40 k (w64 ((w64 (Ls.ar .shr .u64 (IntKind.wrap .u64 (w64 (z54 + z55))) 1)) + 1)) z55)
  else (
  qA.l2 a0 a2 a4c0 K40 k z54 (w64 (Ls.ar .shr .u64 (IntKind.wrap .u64 (w64 (z54 + z55))) 1))))
  else (
  K40 z54)
def qA.l3 (y39 : Int) : Nat → (List Row) → Int → Option ((List Row))
 | 0, _, _ => none
 | k + 1, z64, z65 =>
  bif (decide (y39 < z65)) then (
  (getO z64 (w64 (z65 - 1))).bind fun x67 =>
  (getO z64 z65).bind fun x68 =>
  (neO (w64 (z65 - 1)) z65).bind fun u69 =>
  (some (setI (setI z64 z65 x67) (w64 (z65 - 1)) x68)).bind fun l70 =>
  qA.l3 y39 k l70 (w64 (z65 - 1)))
  else (
  some z64)
def qA.l4 (a0 : List Row) (a4c0 : Query) (K78 : Int → Option ((List Row))) : Nat → Int → Int → Int → Option ((List Row))
 | 0, _, _, _ => none
 | k + 1, z97, z98, z99 =>
  bif (decide (z97 < z98)) then (
  (getO a0 (w64 (z99 - (w64 (Ls.ar .shr .u64 (IntKind.wrap .u64 (w64 (z97 + z98))) 1))))).bind fun x101 =>
  (getO a0 (w64 (Ls.ar .shr .u64 (IntKind.wrap .u64 (w64 (z97 + z98))) 1))).bind fun x102 =>
  (qxC.f x101 x102 a4c0).bind fun r103 =>
  bif (bo3 (decide (r103 < 0)) false true) then (
  qA.l4 a0 a4c0 K78 k (w64 ((w64 (Ls.ar .shr .u64 (IntKind.wrap .u64 (w64 (z97 + z98))) 1)) + 1)) z98 z99)
  else (
  qA.l4 a0 a4c0 K78 k z97 (w64 (Ls.ar .shr .u64 (IntKind.wrap .u64 (w64 (z97 + z98))) 1)) z99))
  else (
  K78 z97)
def qA.b (self : (List Row) → Int → Int → Int → Query → Option ((List Row))) (a0 : List Row) (a1 : Int) (a2 : Int) (a3 : Int) (a4c0 : Query) : Option ((List Row)) :=
 joinK (fun (y1 : Unit) =>
 joinK (fun (y36 : Unit) =>
 joinK (fun (y71 : Int) (y72 : Int) (y73 : Int) (y74 : Int) =>
 joinK (fun (y77 : Int) =>
 joinK (fun (y105 : List Row) (y106 : Int) =>
 joinK (fun (y115 : List Row) =>
 bif (bo3 (decide (y71 < y106)) (decide (y106 < a3)) false) then (
 (self y115 y71 y106 a3 a4c0).bind fun r130 =>
 some r130)
 else (
 some y115)) (fun K116 =>
 bif (bo3 (decide (a1 < y77)) (decide (y77 < y71)) false) then (
 (self y105 a1 y77 y71 a4c0).bind fun r123 =>
 K116 r123)
 else (
 K116 y105))) (fun K107 =>
 bif (bo3 (decide (y77 < a2)) (decide (a2 < (w64 (y72 - y77)))) false) then (
 (qI.f a0 y77 a2 (w64 (y72 - y77)) a4c0).bind fun r114 =>
 K107 r114 (w64 (y72 - y77)))
 else (
 K107 a0 (w64 (y72 - y77))))) (fun K78 =>
 qA.l4 a0 a4c0 K78 ((y74 - y73).toNat + 1) y73 y74 (w64 (y72 - 1)))) (fun K75 =>
 bif (decide ((w64 (Ls.ar .shr .u64 (IntKind.wrap .u64 (w64 (a1 + a3))) 1)) < a2)) then (
 K75 (w64 (Ls.ar .shr .u64 (IntKind.wrap .u64 (w64 (a1 + a3))) 1)) (w64 ((w64 (Ls.ar .shr .u64 (IntKind.wrap .u64 (w64 (a1 + a3))) 1)) + a2)) (w64 ((w64 ((w64 (Ls.ar .shr .u64 (IntKind.wrap .u64 (w64 (a1 + a3))) 1)) + a2)) - a3)) (w64 (Ls.ar .shr .u64 (IntKind.wrap .u64 (w64 (a1 + a3))) 1)))
 else (
 K75 (w64 (Ls.ar .shr .u64 (IntKind.wrap .u64 (w64 (a1 + a3))) 1)) (w64 ((w64 (Ls.ar .shr .u64 (IntKind.wrap .u64 (w64 (a1 + a3))) 1)) + a2)) a1 a2))) (fun K37 =>
 bif (decide ((w64 (a3 - a2)) = 1)) then (
 joinK (fun (y39 : Int) =>
 qA.l3 y39 ((a2 - y39).toNat + 1) a0 a2) (fun K40 =>
 qA.l2 a0 a2 a4c0 K40 ((a2 - a1).toNat + 1) a1 a2))
 else (
 K37 ()))) (fun K2 =>
 bif (decide ((w64 (a2 - a1)) = 1)) then (
 joinK (fun (y4 : Int) =>
 qA.l1 y4 (((w64 (y4 - 1)) - a1).toNat + 1) a0 a1) (fun K5 =>
 qA.l0 a0 a1 a4c0 K5 ((a3 - a2).toNat + 1) a2 a3))
 else (
 K2 ()))
def qA.g : Nat → (List Row) → Int → Int → Int → Query → Option ((List Row))
 | 0 => fun _ _ _ _ _ => none
 | k + 1 => qA.b (qA.g k)
def qA.f (a0 : List Row) (a1 : Int) (a2 : Int) (a3 : Int) (a4c0 : Query) : Option ((List Row)) := qA.g 1000 a0 a1 a2 a3 a4c0
def qC.l0 (a1 : Int) (a2c0 : Query) (K3 : (List Row) → Int → Option ((List Row))) : Nat → (List Row) → Int → Int → Option ((List Row))
 | 0, _, _, _ => none
 | k + 1, z18, z19, z20 =>
  bif (decide (z20 ≤ a1)) then (
  (qE.f z18 z19 z20 a2c0).bind fun r22 =>
  qC.l0 a1 a2c0 K3 k r22 z20 (w64 (z20 + 20)))
  else (
  K3 z18 z19)
def qC.l2 (a1 : Int) (a2c0 : Query) (z37 : Int) (K41 : (List Row) → Int → Option ((List Row))) : Nat → (List Row) → Int → Int → Option ((List Row))
 | 0, _, _, _ => none
 | k + 1, z56, z57, z58 =>
  bif (decide (z58 ≤ a1)) then (
  (qA.f z56 z57 (w64 (z57 + z37)) z58 a2c0).bind fun r60 =>
  qC.l2 a1 a2c0 z37 K41 k r60 z58 (w64 (z58 + (w64 (2 * z37)))))
  else (
  K41 z56 z57)
def qC.l1 (a1 : Int) (a2c0 : Query) : Nat → (List Row) → Int → Option ((List Row))
 | 0, _, _ => none
 | k + 1, z36, z37 =>
  bif (decide (z37 < a1)) then (
  joinK (fun (y39 : List Row) (y40 : Int) =>
  bif (decide ((w64 (y40 + z37)) < a1)) then (
  (qA.f y39 y40 (w64 (y40 + z37)) a1 a2c0).bind fun r62 =>
  qC.l1 a1 a2c0 k r62 (w64 (z37 * 2)))
  else (
  qC.l1 a1 a2c0 k y39 (w64 (z37 * 2)))) (fun K41 =>
  qC.l2 a1 a2c0 z37 K41 ((a1 - (w64 (2 * z37))).toNat + 2) z36 0 (w64 (2 * z37))))
  else (
  some z36)
def qC.f (a0 : List Row) (a1 : Int) (a2c0 : Query) : Option ((List Row)) :=
 joinK (fun (y1 : List Row) (y2 : Int) =>
 (qE.f y1 y2 a1 a2c0).bind fun r23 =>
 qC.l1 a1 a2c0 ((a1 - 20).toNat + 1) r23 20) (fun K3 =>
 qC.l0 a1 a2c0 K3 ((a1 - 20).toNat + 2) a0 0 20)
def qz.f (a0 : List Row) (a1c0 : Query) : Option ((List Row)) :=
 (qC.f a0 (lenI a0) a1c0).bind fun r1 =>
 some r1
def qXC.l0 (a1 : Query) (x13 : List Row) (K12 : (List Row) → Option ((List Row))) : Nat → (List Row) → Int → Option ((List Row))
 | 0, _, _ => none
 | k + 1, z27, z28 =>
  bif (decide (z28 < (lenI x13))) then (
  (getO x13 z28).bind fun x30 =>
  (qRC.f a1 x30).bind fun r31 =>
  bif r31 then (
  (qeF.f x30).bind fun r33 =>
  (some [r33]).bind fun l34 =>
  (appO 32 z27 l34).bind fun l35 =>
  qXC.l0 a1 x13 K12 k l35 (w64 (z28 + 1)))
  else (
  qXC.l0 a1 x13 K12 k z27 (w64 (z28 + 1))))
  else (
  K12 z27)
def qXC.f (a0 : Store) (a1 : Query) : Option ((List Row)) :=
 (qSC.f a0).bind fun r1 =>
 (gd (bo3 (bo3 r1 false true) false true) (qbB.f a0.Schema a1)).bind fun r2 =>
 bif (bo3 (bo3 r1 false true) true (bo3 r2 false true)) then (
 some [])
 else (
 joinK (fun (y11 : List Row) =>
 (qz.f y11 a1).bind fun r36 =>
 some r36) (fun K12 =>
 (getO a0.Tables a1.Table).bind fun x13 =>
 qXC.l0 a1 x13 K12 (((lenI x13) - 0).toNat + 1) [] 0))
def qgC.l0 (a1 : Query) (a2 : Int) (x16 : List Row) : Nat → Int → Int → Option Int
 | 0, _, _ => none
 | k + 1, z31, z32 =>
  bif (decide (z32 < (lenI x16))) then (
  (getO x16 z32).bind fun x34 =>
  (getO x34.Cells a1.KidCol).bind fun x35 =>
  bif (decide (x35 = a2)) then (
  qgC.l0 a1 a2 x16 k (w64 (z31 + 1)) (w64 (z32 + 1)))
  else (
  qgC.l0 a1 a2 x16 k z31 (w64 (z32 + 1))))
  else (
  some z31)
def qgC.f (a0 : Store) (a1 : Query) (a2 : Int) : Option Int :=
 (qSC.f a0).bind fun r1 =>
 (gd (bo3 (bo3 r1 false true) false true) (qbB.f a0.Schema a1)).bind fun r2 =>
 bif (bo3 (bo3 (bo3 r1 false true) true (bo3 r2 false true)) true (bo3 a1.Kids false true)) then (
 some 0)
 else (
 (getO a0.Tables a1.KidTable).bind fun x16 =>
 qgC.l0 a1 a2 x16 (((lenI x16) - 0).toNat + 1) 0 0)
def qfF.f (a0 : Query) (a1 : Int) : Option Int :=
 bif (decide (a0.First = 0)) then (
 some a1)
 else (
 (some (maxO a0.First 0)).bind fun m2 =>
 (some (minO m2 a1)).bind fun m3 =>
 some m3)
def qrC.l0 (a0 : ByteArray) : Nat → Int → Int → Option Bool
 | 0, _, _ => none
 | k + 1, z4, z5 =>
  bif (decide (z5 < z4)) then (
  (inS a0 z5).bind fun u7 =>
  (quB.f (w64 (Ls.sx a0 z5)) 32 126).bind fun r8 =>
  bif (bo3 r8 false true) then (
  some false)
  else (
  qrC.l0 a0 k z4 (w64 (z5 + 1))))
  else (
  some (decide ((Ls.sl a0) ≤ 60)))
def qrC.f (a0 : ByteArray) : Option Bool :=
 qrC.l0 a0 (((Ls.sl a0) - 0).toNat + 1) (Ls.sl a0) 0
def qdC.l0 (a0 : List ByteArray) : Nat → Int → Option Bool
 | 0, _ => none
 | k + 1, z5 =>
  bif (decide (z5 < (lenI a0))) then (
  (getO a0 z5).bind fun x7 =>
  (qrC.f x7).bind fun r8 =>
  (gd (bo3 (bo3 (bo3 r8 false true) false true) (decide (0 < z5)) false) (getO a0 (w64 (z5 - 1)))).bind fun x9 =>
  bif (bo3 (bo3 r8 false true) true (bo3 (decide (0 < z5)) (Ls.sc .geq x9 x7) false)) then (
  some false)
  else (
  qdC.l0 a0 k (w64 (z5 + 1))))
  else (
  some true)
def qdC.f (a0 : List ByteArray) : Option Bool :=
 qdC.l0 a0 (((lenI a0) - 0).toNat + 1) 0
def qEH.f (a0 : Json) : Option Bool :=
 bif (bo3 (bo3 (bo3 (decide (0 < (lenI a0.List_))) (decide (a0.Kind ≠ 4)) false) (decide (a0.Kind ≠ 5)) false) true (bo3 (decide (0 < (lenI a0.Names))) (decide (a0.Kind ≠ 5)) false)) then (
 some false)
 else (
 bif (bo3 (bo3 (bo3 (decide (a0.N ≠ 0)) (decide (a0.Kind ≠ 1)) false) (decide (a0.Kind ≠ 2)) false) true (bo3 (Ls.sc .neq a0.S (ByteArray.mk #[])) (decide (a0.Kind ≠ 3)) false)) then (
 some false)
 else (
 bif (decide (a0.Kind = 1)) then (
 (quB.f a0.N 0 1).bind fun r49 =>
 some r49)
 else (
 bif (decide (a0.Kind = 2)) then (
 (qLF.f a0.N).bind fun r51 =>
 some r51)
 else (
 bif (decide (a0.Kind = 3)) then (
 (qrC.f a0.S).bind fun r53 =>
 some r53)
 else (
 bif (decide (a0.Kind = 5)) then (
 (gd (decide ((lenI a0.Names) = (lenI a0.List_))) (qdC.f a0.Names)).bind fun r55 =>
 some (bo3 (decide ((lenI a0.Names) = (lenI a0.List_))) r55 false))
 else (
 some (bo3 (decide (a0.Kind = 0)) true (decide (a0.Kind = 4)))))))))
def qjB.l0 (a0 : Json) (a1 : Int) (self : Json → Int → Option Int) : Nat → Int → Int → Option Int
 | 0, _, _ => none
 | k + 1, z13, z14 =>
  bif (decide (z14 < (lenI a0.List_))) then (
  (getO a0.List_ z14).bind fun x16 =>
  (self x16 (w64 (a1 - 1))).bind fun r17 =>
  bif (decide (400 < (w64 (z13 + r17)))) then (
  some 401)
  else (
  qjB.l0 a0 a1 self k (w64 (z13 + r17)) (w64 (z14 + 1))))
  else (
  some z13)
def qjB.b (self : Json → Int → Option Int) (a0 : Json) (a1 : Int) : Option Int :=
 (gd (bo3 (decide (a1 < 1)) false true) (qEH.f a0)).bind fun r1 =>
 bif (bo3 (decide (a1 < 1)) true (bo3 r1 false true)) then (
 some 401)
 else (
 qjB.l0 a0 a1 self (((lenI a0.List_) - 0).toNat + 1) 1 0)
def qjB.g : Nat → Json → Int → Option Int
 | 0 => fun _ _ => none
 | k + 1 => qjB.b (qjB.g k)
def qjB.f (a0 : Json) (a1 : Int) : Option Int := qjB.g 20 a0 a1
def qgE.f (a0 : Json) : Option Bool :=
 (qjB.f a0 6).bind fun r1 =>
 some (decide (r1 ≤ 400))
def qhE.f (a0 : Json) : Option Json :=
 (qgE.f a0).bind fun r1 =>
 bif (bo3 r1 false true) then (
 some (Json.mk 0 0 ByteArray.empty [] []))
 else (
 some a0)
def qIC.l0 (a0 : List Int) (a1 : Int) : Nat → Int → Option Int
 | 0, _ => none
 | k + 1, z5 =>
  bif (decide (z5 < (lenI a0))) then (
  (getO a0 z5).bind fun x7 =>
  bif (decide (a1 = x7)) then (
  some z5)
  else (
  qIC.l0 a0 a1 k (w64 (z5 + 1))))
  else (
  some (-1))
def qIC.f (a0 : List Int) (a1 : Int) : Option Int :=
 qIC.l0 a0 a1 (((lenI a0) - 0).toNat + 1) 0
def qFD.f (a0 : List Int) (a1 : Int) : Option Bool :=
 (qIC.f a0 a1).bind fun r1 =>
 some (decide (0 ≤ r1))
def strconv_Itoa.f (a0 : Int) : Option ByteArray := itoaO a0
def qGG.f (a0 : Int) : Option ByteArray :=
 (strconv_Itoa.f a0).bind fun r1 =>
 some r1
def qoD.f (a0 : ByteArray) : Option Bool :=
 some (Ls.sc .neq a0 a0)
def qGE.f (a0 : ByteArray) (a1 : ByteArray) : Option Bool :=
 (qoD.f a0).bind fun r1 =>
 (gd r1 (qoD.f a1)).bind fun r2 =>
 some (bo3 (bo3 r1 (bo3 r2 false true) false) true (Ls.sc .lss a0 a1))
def qWC.f (a0 : ByteArray) : Option Bool :=
 some (Ls.sc .neq a0 a0)
def qd.l0 (a0 : List ByteArray) (a1 : ByteArray) (K2 : Int → Option (Int × Bool)) : Nat → Int → Int → Option (Int × Bool)
 | 0, _, _ => none
 | k + 1, z8, z9 =>
  bif (decide (z8 < z9)) then (
  (getO a0 (w64 (Ls.ar .shr .u64 (IntKind.wrap .u64 (w64 (z8 + z9))) 1))).bind fun x11 =>
  (qGE.f x11 a1).bind fun r12 =>
  bif r12 then (
  qd.l0 a0 a1 K2 k (w64 ((w64 (Ls.ar .shr .u64 (IntKind.wrap .u64 (w64 (z8 + z9))) 1)) + 1)) z9)
  else (
  qd.l0 a0 a1 K2 k z8 (w64 (Ls.ar .shr .u64 (IntKind.wrap .u64 (w64 (z8 + z9))) 1))))
  else (
  K2 z8)
def qd.f (a0 : List ByteArray) (a1 : ByteArray) : Option (Int × Bool) :=
 joinK (fun (y1 : Int) =>
 (gd (decide (y1 < (lenI a0))) (getO a0 y1)).bind fun x14 =>
 (gd (bo3 (decide (y1 < (lenI a0))) (bo3 (Ls.sc .eql x14 a1) false true) false) (getO a0 y1)).bind fun x15 =>
 (gd (bo3 (decide (y1 < (lenI a0))) (bo3 (Ls.sc .eql x14 a1) false true) false) (qWC.f x15)).bind fun r16 =>
 (gd (bo3 (bo3 (decide (y1 < (lenI a0))) (bo3 (Ls.sc .eql x14 a1) false true) false) r16 false) (qWC.f a1)).bind fun r17 =>
 some (y1, (bo3 (decide (y1 < (lenI a0))) (bo3 (Ls.sc .eql x14 a1) true (bo3 r16 r17 false)) false))) (fun K2 =>
 qd.l0 a0 a1 K2 (((lenI a0) - 0).toNat + 1) 0 (lenI a0))
def qWD.f (a0 : List ByteArray) (a1 : Int) (a2 : List ByteArray) : Option (List ByteArray) := insO 16 a0 a1 a2
def qvC.f (a0 : List Json) (a1 : Int) (a2 : List Json) : Option (List Json) := insO 80 a0 a1 a2
def qAD.l0 (a0 : List ByteArray) (a1 : List Int) : Nat → (List Json) → (List ByteArray) → Int → Option Json
 | 0, _, _, _ => none
 | k + 1, z23, z24, z25 =>
  bif (decide (z25 < (lenI a0))) then (
  (getO a0 z25).bind fun x27 =>
  (qd.f z24 x27).bind fun r28 =>
  (some [x27]).bind fun l29 =>
  (qWD.f z24 r28.1 l29).bind fun r30 =>
  (getO a1 z25).bind fun x31 =>
  (some [(Json.mk 2 x31 ByteArray.empty [] [])]).bind fun l32 =>
  (qvC.f z23 r28.1 l32).bind fun r33 =>
  qAD.l0 a0 a1 k r33 r30 (w64 (z25 + 1)))
  else (
  some (Json.mk 5 0 ByteArray.empty z23 z24))
def qAD.f (a0 : List ByteArray) (a1 : List Int) : Option Json :=
 qAD.l0 a0 a1 (((lenI a0) - 0).toNat + 1) [] [] 0
def qhC.l0 (a0 : Query) (a1 : Row) (K5 : (List ByteArray) → (List Int) → Option Json) : Nat → (List ByteArray) → (List Int) → Int → Option Json
 | 0, _, _, _ => none
 | k + 1, z26, z27, z28 =>
  bif (decide (z28 < (lenI a0.Show))) then (
  (getO a0.Show z28).bind fun x30 =>
  (cutO a0.Show 0 z28).bind fun l31 =>
  (qFD.f l31 x30).bind fun r32 =>
  bif r32 then (
  qhC.l0 a0 a1 K5 k z26 z27 (w64 (z28 + 1)))
  else (
  (qGG.f x30).bind fun r34 =>
  (smO (ByteArray.mk #[99]) r34).bind fun u35 =>
  (some [(Ls.sa (ByteArray.mk #[99]) r34)]).bind fun l36 =>
  (appO 16 z26 l36).bind fun l37 =>
  (qfE.f a1 x30).bind fun r38 =>
  (some [r38]).bind fun l39 =>
  (appO 8 z27 l39).bind fun l40 =>
  qhC.l0 a0 a1 K5 k l37 l40 (w64 (z28 + 1))))
  else (
  K5 z26 z27)
def qhC.f (a0 : Query) (a1 : Row) (a2 : Int) : Option Json :=
 (some [(ByteArray.mk #[105, 100])]).bind fun l1 =>
 (some [a1.Id]).bind fun l2 =>
 joinK (fun (y3 : List ByteArray) (y4 : List Int) =>
 joinK (fun (y41 : List ByteArray) (y42 : List Int) =>
 (qAD.f y41 y42).bind fun r49 =>
 (qhE.f r49).bind fun r50 =>
 some r50) (fun K43 =>
 bif a0.Kids then (
 (some [(ByteArray.mk #[107, 105, 100, 115])]).bind fun l45 =>
 (appO 16 y3 l45).bind fun l46 =>
 (some [a2]).bind fun l47 =>
 (appO 8 y4 l47).bind fun l48 =>
 K43 l46 l48)
 else (
 K43 y3 y4))) (fun K5 =>
 qhC.l0 a0 a1 K5 (((lenI a0.Show) - 0).toNat + 1) l1 l2 0)
def qpC.l0 (a0 : Query) (a2 : List Int) (l2 : List Row) : Nat → (List Json) → Int → Option ((List Json))
 | 0, _, _ => none
 | k + 1, z17, z18 =>
  bif (decide (z18 < (lenI l2))) then (
  (getO l2 z18).bind fun x20 =>
  joinK (fun (y21 : Int) =>
  (qhC.f a0 x20 y21).bind fun r25 =>
  (some [r25]).bind fun l26 =>
  (appO 80 z17 l26).bind fun l27 =>
  qpC.l0 a0 a2 l2 k l27 (w64 (z18 + 1))) (fun K22 =>
  bif (decide (z18 < (lenI a2))) then (
  (getO a2 z18).bind fun x24 =>
  K22 x24)
  else (
  K22 0)))
  else (
  some z17)
def qpC.f (a0 : Query) (a1 : List Row) (a2 : List Int) : Option ((List Json)) :=
 (qfF.f a0 (lenI a1)).bind fun r1 =>
 (cutO a1 0 r1).bind fun l2 =>
 qpC.l0 a0 a2 l2 (((lenI l2) - 0).toNat + 1) [] 0
def qiG.f (a0 : Json) : Option Bool :=
 some (decide (a0.Kind = 0))
def qX.l0 (a0 : List Json) : Nat → Int → Option Int
 | 0, _ => none
 | k + 1, z4 =>
  bif (decide (z4 < (lenI a0))) then (
  (getO a0 z4).bind fun x6 =>
  (qiG.f x6).bind fun r7 =>
  bif r7 then (
  some z4)
  else (
  qX.l0 a0 k (w64 (z4 + 1))))
  else (
  some (-1))
def qX.f (a0 : List Json) : Option Int :=
 qX.l0 a0 (((lenI a0) - 0).toNat + 1) 0
def qPB.f (a0 : List Json) : Option Bool :=
 (qX.f a0).bind fun r1 =>
 some (decide (0 ≤ r1))
def qMF.f (a0 : Query) (a1 : List Row) (a2 : List Int) : Option Json :=
 (qpC.f a0 a1 a2).bind fun r1 =>
 (qPB.f r1).bind fun r2 =>
 bif r2 then (
 some (Json.mk 0 0 ByteArray.empty [] []))
 else (
 (some [(ByteArray.mk #[99, 111, 117, 110, 116]), (ByteArray.mk #[114, 111, 119, 115])]).bind fun l4 =>
 (some [(Json.mk 2 (lenI a1) ByteArray.empty [] []), (Json.mk 4 0 ByteArray.empty r1 [])]).bind fun l5 =>
 (qhE.f (Json.mk 5 0 ByteArray.empty l5 l4)).bind fun r6 =>
 some r6)
def qpD.l0 (a0 : Store) (a1 : Query) (r11 : (List Row)) (K13 : (List Int) → Option Json) : Nat → (List Int) → Int → Option Json
 | 0, _, _ => none
 | k + 1, z33, z34 =>
  bif (decide (z34 < (lenI r11))) then (
  (getO r11 z34).bind fun x36 =>
  (qgC.f a0 a1 x36.Id).bind fun r37 =>
  (some [r37]).bind fun l38 =>
  (appO 8 z33 l38).bind fun l39 =>
  qpD.l0 a0 a1 r11 K13 k l39 (w64 (z34 + 1)))
  else (
  K13 z33)
def qpD.f (a0 : Store) (a1 : Query) : Option Json :=
 (qSC.f a0).bind fun r1 =>
 (gd (bo3 (bo3 r1 false true) false true) (qbB.f a0.Schema a1)).bind fun r2 =>
 bif (bo3 (bo3 r1 false true) true (bo3 r2 false true)) then (
 some (Json.mk 0 0 ByteArray.empty [] []))
 else (
 (qXC.f a0 a1).bind fun r11 =>
 joinK (fun (y12 : List Int) =>
 (qMF.f a1 r11 y12).bind fun r40 =>
 some r40) (fun K13 =>
 qpD.l0 a0 a1 r11 K13 (((lenI r11) - 0).toNat + 1) [] 0))
def qfD.f (a0 : l1Cur) : Option (l1Cur × Int) :=
 bif (decide (a0.i < (lenI a0.b))) then (
 (getO a0.b a0.i).bind fun x2 =>
 some ((l1Cur.mk a0.b (w64 (a0.i + 1)) (w64 ((w64 (a0.h * 6364136223846793005)) + 1442695040888963407))), (Ls.ar .and .i64 (w64 ((Ls.ar .and .i64 (Ls.ar .xor .i64 (Ls.ar .shr .i64 (w64 ((w64 (a0.h * 6364136223846793005)) + 1442695040888963407)) 33) (Ls.ar .shr .i64 (w64 ((w64 (a0.h * 6364136223846793005)) + 1442695040888963407)) 45)) 255) + (w64 x2))) 255)))
 else (
 some ((l1Cur.mk a0.b a0.i (w64 ((w64 (a0.h * 6364136223846793005)) + 1442695040888963407))), (Ls.ar .and .i64 (Ls.ar .xor .i64 (Ls.ar .shr .i64 (w64 ((w64 (a0.h * 6364136223846793005)) + 1442695040888963407)) 33) (Ls.ar .shr .i64 (w64 ((w64 (a0.h * 6364136223846793005)) + 1442695040888963407)) 45)) 255)))
def qk.f (a0 : l1Cur) (a1 : Int) : Option (l1Cur × Int) :=
 bif (decide (a1 ≤ 0)) then (
 some (a0, 0))
 else (
 bif (decide (a1 ≤ 256)) then (
 (qfD.f a0).bind fun r3 =>
 (nzO a1).bind fun u4 =>
 some ((l1Cur.mk a0.b r3.1.i r3.1.h), (Int.tmod r3.2 a1)))
 else (
 (qfD.f a0).bind fun r5 =>
 (qfD.f (l1Cur.mk a0.b r5.1.i r5.1.h)).bind fun r6 =>
 (qfD.f (l1Cur.mk a0.b r6.1.i r6.1.h)).bind fun r7 =>
 (qfD.f (l1Cur.mk a0.b r7.1.i r7.1.h)).bind fun r8 =>
 (nzO a1).bind fun u9 =>
 some ((l1Cur.mk a0.b r8.1.i r8.1.h), (Int.tmod (w64 ((w64 ((w64 ((w64 (r5.2 * 16777216)) + (w64 (r6.2 * 65536)))) + (w64 (r7.2 * 256)))) + r8.2)) a1))))
def qkB.l0 (a0 : l1Cur) : Nat → Int → Int → (List Int) → Int → Option (l1Cur × Schema)
 | 0, _, _, _, _ => none
 | k + 1, z10, z11, z12, z13 =>
  (qk.f (l1Cur.mk a0.b z10 z11) 3).bind fun r14 =>
  bif (decide (z13 < (w64 (1 + r14.2)))) then (
  (qk.f (l1Cur.mk a0.b r14.1.i r14.1.h) 4).bind fun r16 =>
  (some [(w64 (1 + r16.2))]).bind fun l17 =>
  (appO 8 z12 l17).bind fun l18 =>
  qkB.l0 a0 k r16.1.i r16.1.h l18 (w64 (z13 + 1)))
  else (
  some ((l1Cur.mk a0.b r14.1.i r14.1.h), (Schema.mk z12)))
def qkB.f (a0 : l1Cur) : Option (l1Cur × Schema) :=
 qkB.l0 a0 1000 a0.i a0.h [] 0
def qUC.f (a0 : l1Cur) (a1 : List Int) : Option (l1Cur × Int) :=
 (qk.f a0 (lenI a1)).bind fun r1 =>
 (getO a1 r1.2).bind fun x2 =>
 some ((l1Cur.mk a0.b r1.1.i r1.1.h), x2)
def qXE.f (a0 : l1Cur) : Option (l1Cur × Schema) :=
 (qkB.f a0).bind fun r1 =>
 (qk.f (l1Cur.mk a0.b r1.1.i r1.1.h) 12).bind fun r2 =>
 bif (decide (r2.2 = 0)) then (
 (some [1, 1, 1]).bind fun l4 =>
 (appO 8 r1.2.Cols l4).bind fun l5 =>
 some ((l1Cur.mk a0.b r2.1.i r2.1.h), (Schema.mk l5)))
 else (
 bif (decide (r2.2 = 1)) then (
 (some [0, 5, (-1)]).bind fun l7 =>
 (qUC.f (l1Cur.mk a0.b r2.1.i r2.1.h) l7).bind fun r8 =>
 (getO r1.2.Cols 0).bind fun x9 =>
 (some (setI r1.2.Cols 0 r8.2)).bind fun l10 =>
 some ((l1Cur.mk a0.b r8.1.i r8.1.h), (Schema.mk l10)))
 else (
 bif (decide (r2.2 = 2)) then (
 some ((l1Cur.mk a0.b r2.1.i r2.1.h), (Schema.mk [])))
 else (
 some ((l1Cur.mk a0.b r2.1.i r2.1.h), r1.2))))
def qvE.f (a0 : Schema) : Option Schema :=
 (appO 8 [] a0.Cols).bind fun l1 =>
 some (Schema.mk l1)
def qxB.f (a0 : Int) (a1 : Int) (a2 : Int) : Option Bool :=
 some (bo3 (decide (a1 ≤ a0)) (decide (a0 ≤ a2)) false)
def qrB.l0 (a0 : Schema) (K2 : Unit → Option Bool) : Nat → Int → Option Bool
 | 0, _ => none
 | k + 1, z5 =>
  bif (decide (z5 < (lenI a0.Cols))) then (
  (getO a0.Cols z5).bind fun x7 =>
  (qxB.f x7 1 4).bind fun r8 =>
  bif (bo3 r8 false true) then (
  some false)
  else (
  qrB.l0 a0 K2 k (w64 (z5 + 1))))
  else (
  K2 ())
def qrB.f (a0 : Schema) : Option Bool :=
 joinK (fun (y1 : Unit) =>
 (qxB.f (lenI a0.Cols) 1 3).bind fun r10 =>
 some r10) (fun K2 =>
 qrB.l0 a0 K2 (((lenI a0.Cols) - 0).toNat + 1) 0)
def qwE.f (a0 : Schema) : Option (Store × Bool) :=
 (qrB.f a0).bind fun r1 =>
 bif (bo3 r1 false true) then (
 some ((Store.mk (Schema.mk []) 0 []), false))
 else (
 (qvE.f a0).bind fun r3 =>
 (mkO 24 (lenI a0.Cols) []).bind fun l4 =>
 some ((Store.mk r3 0 l4), true))
def qUD.f (a0 : Row) : Option Row :=
 (appO 8 [] a0.Cells).bind fun l1 =>
 some (Row.mk a0.Id l1)
def qBD.l0 (a0 : List Row) (a1 : Int) : Nat → Int → Option Int
 | 0, _ => none
 | k + 1, z4 =>
  bif (decide (z4 < (lenI a0))) then (
  (getO a0 z4).bind fun x6 =>
  bif (decide (x6.Id = a1)) then (
  some z4)
  else (
  qBD.l0 a0 a1 k (w64 (z4 + 1))))
  else (
  some (-1))
def qBD.f (a0 : List Row) (a1 : Int) : Option Int :=
 qBD.l0 a0 a1 (((lenI a0) - 0).toNat + 1) 0
def qYC.l0 (a0 : List Row) (r1 : Int) : Nat → (List Row) → Int → Option ((List Row))
 | 0, _, _ => none
 | k + 1, z6, z7 =>
  bif (decide (z7 < (lenI a0))) then (
  bif (decide (z7 ≠ r1)) then (
  (getO a0 z7).bind fun x10 =>
  (qUD.f x10).bind fun r11 =>
  (some [r11]).bind fun l12 =>
  (appO 32 z6 l12).bind fun l13 =>
  qYC.l0 a0 r1 k l13 (w64 (z7 + 1)))
  else (
  qYC.l0 a0 r1 k z6 (w64 (z7 + 1))))
  else (
  some z6)
def qYC.f (a0 : List Row) (a1 : Int) : Option ((List Row)) :=
 (qBD.f a0 a1).bind fun r1 =>
 qYC.l0 a0 r1 (((lenI a0) - 0).toNat + 1) [] 0
def qiC.l0 (a1 : Row) (r1 : (List Row)) (K3 : Int → Option ((List Row))) : Nat → Int → Int → Option ((List Row))
 | 0, _, _ => none
 | k + 1, z12, z13 =>
  bif (decide (0 ≤ z13)) then (
  (getO r1 z13).bind fun x15 =>
  bif (decide (a1.Id < x15.Id)) then (
  qiC.l0 a1 r1 K3 k z13 (w64 (z13 - 1)))
  else (
  qiC.l0 a1 r1 K3 k z12 (w64 (z13 - 1))))
  else (
  K3 z12)
def qiC.f (a0 : List Row) (a1 : Row) : Option ((List Row)) :=
 (qYC.f a0 a1.Id).bind fun r1 =>
 joinK (fun (y2 : Int) =>
 (cutO r1 0 y2).bind fun l17 =>
 (appO 32 [] l17).bind fun l18 =>
 (qUD.f a1).bind fun r19 =>
 (some [r19]).bind fun l20 =>
 (appO 32 l18 l20).bind fun l21 =>
 (cutO r1 y2 (lenI r1)).bind fun l22 =>
 (appO 32 l21 l22).bind fun l23 =>
 some l23) (fun K3 =>
 (qBD.f a0 a1.Id).bind fun r4 =>
 bif (decide (0 ≤ r4)) then (
 (qBD.f a0 a1.Id).bind fun r6 =>
 K3 r6)
 else (
 qiC.l0 a1 r1 K3 (((w64 ((lenI r1) - 1)) - 0).toNat + 2) (lenI r1) (w64 ((lenI r1) - 1))))
def qJC.l0 (a0 : l1Cur) (a1 : Int) : Nat → Int → Int → Int → (List Int) → Int → Option (l1Cur × Row)
 | 0, _, _, _, _, _ => none
 | k + 1, z17, z18, z19, z20, z21 =>
  bif (decide (z21 < a1)) then (
  (qk.f (l1Cur.mk a0.b z17 z18) 6).bind fun r23 =>
  (some [r23.2]).bind fun l24 =>
  (appO 8 z20 l24).bind fun l25 =>
  qJC.l0 a0 a1 k r23.1.i r23.1.h z19 l25 (w64 (z21 + 1)))
  else (
  some ((l1Cur.mk a0.b z17 z18), (Row.mk z19 z20)))
def qJC.f (a0 : l1Cur) (a1 : Int) : Option (l1Cur × Row) :=
 (qk.f a0 12).bind fun r1 =>
 qJC.l0 a0 a1 ((a1 - 0).toNat + 1) r1.1.i r1.1.h (w64 (1 + r1.2)) [] 0
def qEC.l0 (a0 : l1Cur) (a1 : Int) : Nat → Int → Int → (List Row) → Int → Option (l1Cur × (List Row))
 | 0, _, _, _, _ => none
 | k + 1, z7, z8, z9, z10 =>
  (qk.f (l1Cur.mk a0.b z7 z8) 9).bind fun r11 =>
  bif (decide (z10 < r11.2)) then (
  (qJC.f (l1Cur.mk a0.b r11.1.i r11.1.h) a1).bind fun r13 =>
  (qiC.f z9 r13.2).bind fun r14 =>
  qEC.l0 a0 a1 k r13.1.i r13.1.h r14 (w64 (z10 + 1)))
  else (
  some ((l1Cur.mk a0.b r11.1.i r11.1.h), z9))
def qEC.f (a0 : l1Cur) (a1 : Int) : Option (l1Cur × (List Row)) :=
 qEC.l0 a0 a1 1000 a0.i a0.h [] 0
def qsB.l0 (a0 : l1Cur) (r2 : Store × Bool) (K6 : Int → Int → (List (List Row)) → Option (l1Cur × Store)) : Nat → Int → Int → (List (List Row)) → Int → Option (l1Cur × Store)
 | 0, _, _, _, _ => none
 | k + 1, z15, z16, z17, z18 =>
  bif (decide (z18 < (lenI z17))) then (
  (getO r2.1.Schema.Cols z18).bind fun x20 =>
  (qEC.f (l1Cur.mk a0.b z15 z16) x20).bind fun r21 =>
  (getO z17 z18).bind fun x22 =>
  (some (setI z17 z18 r21.2)).bind fun l23 =>
  qsB.l0 a0 r2 K6 k r21.1.i r21.1.h l23 (w64 (z18 + 1)))
  else (
  K6 z15 z16 z17)
def qsB.f (a0 : l1Cur) : Option (l1Cur × Store) :=
 (qkB.f a0).bind fun r1 =>
 (qwE.f r1.2).bind fun r2 =>
 joinK (fun (y3 : Int) (y4 : Int) (y5 : List (List Row)) =>
 (qk.f (l1Cur.mk a0.b y3 y4) 5).bind fun r24 =>
 some ((l1Cur.mk a0.b r24.1.i r24.1.h), (Store.mk r2.1.Schema r24.2 y5))) (fun K6 =>
 qsB.l0 a0 r2 K6 (((lenI r2.1.Tables) - 0).toNat + 1) r1.1.i r1.1.h r2.1.Tables 0)
def qHG.f (a0 : l1Cur) : Option (l1Cur × Store) :=
 (qsB.f a0).bind fun r1 =>
 (qk.f (l1Cur.mk a0.b r1.1.i r1.1.h) 25).bind fun r2 =>
 bif (decide (r2.2 = 0)) then (
 (some [(-1), 100000, 100001]).bind fun l4 =>
 (qUC.f (l1Cur.mk a0.b r2.1.i r2.1.h) l4).bind fun r5 =>
 some ((l1Cur.mk a0.b r5.1.i r5.1.h), (Store.mk r1.2.Schema r5.2 r1.2.Tables)))
 else (
 bif (decide (r2.2 = 1)) then (
 (cutO r1.2.Tables 1 (lenI r1.2.Tables)).bind fun l7 =>
 some ((l1Cur.mk a0.b r2.1.i r2.1.h), (Store.mk r1.2.Schema r1.2.Version l7)))
 else (
 bif (decide (r2.2 = 2)) then (
 (getO r1.2.Tables 0).bind fun x9 =>
 (qJC.f (l1Cur.mk a0.b r2.1.i r2.1.h) 2).bind fun r10 =>
 (some [r10.2]).bind fun l11 =>
 (appO 32 x9 l11).bind fun l12 =>
 (some (setI r1.2.Tables 0 l12)).bind fun l13 =>
 some ((l1Cur.mk a0.b r10.1.i r10.1.h), (Store.mk r1.2.Schema r1.2.Version l13)))
 else (
 bif (decide (r2.2 = 3)) then (
 (qXE.f (l1Cur.mk a0.b r2.1.i r2.1.h)).bind fun r15 =>
 some ((l1Cur.mk a0.b r15.1.i r15.1.h), (Store.mk r15.2 r1.2.Version r1.2.Tables)))
 else (
 some ((l1Cur.mk a0.b r2.1.i r2.1.h), r1.2)))))
def qjC.f (a0 : l1Cur) (a1 : Int) : Option (l1Cur × Bool) :=
 (qk.f a0 a1).bind fun r1 =>
 some ((l1Cur.mk a0.b r1.1.i r1.1.h), (decide (r1.2 = 0)))
def qkC.f (a0 : Int) (a1 : Int) : Option Int :=
 bif (decide (a1 < a0)) then (
 some a0)
 else (
 some a1)
def qo.l0 (a0 : l1Cur) (y3 : Int) (K11 : Int → Int → (List Cond) → Option (l1Cur × Query)) : Nat → Int → Int → (List Cond) → Int → Option (l1Cur × Query)
 | 0, _, _, _, _ => none
 | k + 1, z53, z54, z55, z56 =>
  (qk.f (l1Cur.mk a0.b z53 z54) 3).bind fun r57 =>
  bif (decide (z56 < r57.2)) then (
  (qk.f (l1Cur.mk a0.b r57.1.i r57.1.h) y3).bind fun r59 =>
  (qk.f (l1Cur.mk a0.b r59.1.i r59.1.h) 4).bind fun r60 =>
  (qk.f (l1Cur.mk a0.b r60.1.i r60.1.h) 6).bind fun r61 =>
  (some [(Cond.mk r59.2 (w64 (1 + r60.2)) r61.2)]).bind fun l62 =>
  (appO 24 z55 l62).bind fun l63 =>
  qo.l0 a0 y3 K11 k r61.1.i r61.1.h l63 (w64 (z56 + 1)))
  else (
  K11 r57.1.i r57.1.h z55)
def qo.l1 (a0 : l1Cur) (y3 : Int) (K76 : Int → Int → Bool → (List Int) → Option (l1Cur × Query)) : Nat → Int → Int → Bool → (List Int) → Int → Option (l1Cur × Query)
 | 0, _, _, _, _, _ => none
 | k + 1, z120, z121, z122, z123, z124 =>
  bif (decide (z124 < y3)) then (
  (qjC.f (l1Cur.mk a0.b z120 z121) 2).bind fun r126 =>
  bif r126.2 then (
  (some [z124]).bind fun l128 =>
  (appO 8 z123 l128).bind fun l129 =>
  qo.l1 a0 y3 K76 k r126.1.i r126.1.h z122 l129 (w64 (z124 + 1)))
  else (
  qo.l1 a0 y3 K76 k r126.1.i r126.1.h z122 z123 (w64 (z124 + 1))))
  else (
  K76 z120 z121 z122 z123)
def qo.f (a0 : l1Cur) (a1 : Schema) : Option (l1Cur × Query) :=
 (qkC.f (lenI a1.Cols) 1).bind fun r1 =>
 (qk.f a0 r1).bind fun r2 =>
 joinK (fun (y3 : Int) =>
 joinK (fun (y8 : Int) (y9 : Int) (y10 : List Cond) =>
 (qk.f (l1Cur.mk a0.b y8 y9) (w64 (y3 + 1))).bind fun r64 =>
 (gd (decide (0 < r64.2)) (qjC.f (l1Cur.mk a0.b r64.1.i r64.1.h) 2)).bind fun r65 =>
 (some [0, 0, 1, 2, 3, 5]).bind fun l70 =>
 (qUC.f (l1Cur.mk a0.b (ci3 (decide (0 < r64.2)) r65.1.i r64.1.i) (ci3 (decide (0 < r64.2)) r65.1.h r64.1.h)) l70).bind fun r71 =>
 joinK (fun (y72 : Int) (y73 : Int) (y74 : Bool) (y75 : List Int) =>
 (qjC.f (l1Cur.mk a0.b y72 y73) 2).bind fun r130 =>
 bif r130.2 then (
 (qkC.f (lenI a1.Cols) 1).bind fun r132 =>
 (qk.f (l1Cur.mk a0.b r130.1.i r130.1.h) r132).bind fun r133 =>
 bif (decide (r133.2 < (lenI a1.Cols))) then (
 (getO a1.Cols r133.2).bind fun x135 =>
 (qkC.f x135 1).bind fun r136 =>
 (qk.f (l1Cur.mk a0.b r133.1.i r133.1.h) r136).bind fun r137 =>
 some ((l1Cur.mk a0.b r137.1.i r137.1.h), (Query.mk r2.2 y10 r64.2 y74 r71.2 y75 true r133.2 r137.2)))
 else (
 some ((l1Cur.mk a0.b r133.1.i r133.1.h), (Query.mk r2.2 y10 r64.2 y74 r71.2 y75 true r133.2 0))))
 else (
 some ((l1Cur.mk a0.b r130.1.i r130.1.h), (Query.mk r2.2 y10 r64.2 y74 r71.2 y75 false 0 0)))) (fun K76 =>
 qo.l1 a0 y3 K76 ((y3 - 0).toNat + 1) r71.1.i r71.1.h (bo3 (decide (0 < r64.2)) r65.2 false) [] 0)) (fun K11 =>
 qo.l0 a0 y3 K11 1000 r2.1.i r2.1.h [] 0)) (fun K4 =>
 bif (decide (r2.2 < (lenI a1.Cols))) then (
 (getO a1.Cols r2.2).bind fun x6 =>
 (qkC.f x6 1).bind fun r7 =>
 K4 r7)
 else (
 K4 1))
def qIG.f (a0 : l1Cur) (a1 : Schema) : Option (l1Cur × Query) :=
 (qo.f a0 a1).bind fun r1 =>
 (qk.f (l1Cur.mk a0.b r1.1.i r1.1.h) 25).bind fun r2 =>
 bif (decide (r2.2 = 0)) then (
 (qk.f (l1Cur.mk a0.b r2.1.i r2.1.h) 5).bind fun r4 =>
 some ((l1Cur.mk a0.b r4.1.i r4.1.h), (Query.mk (w64 (r4.2 - 1)) r1.2.Where r1.2.Order r1.2.Down r1.2.First r1.2.Show r1.2.Kids r1.2.KidTable r1.2.KidCol)))
 else (
 bif (decide (r2.2 = 1)) then (
 (qk.f (l1Cur.mk a0.b r2.1.i r2.1.h) 6).bind fun r6 =>
 (qk.f (l1Cur.mk a0.b r6.1.i r6.1.h) 6).bind fun r7 =>
 (some [0, 1000000001]).bind fun l8 =>
 (qUC.f (l1Cur.mk a0.b r7.1.i r7.1.h) l8).bind fun r9 =>
 (some [(Cond.mk (w64 (r6.2 - 1)) r7.2 r9.2)]).bind fun l10 =>
 (appO 24 r1.2.Where l10).bind fun l11 =>
 some ((l1Cur.mk a0.b r9.1.i r9.1.h), (Query.mk r1.2.Table l11 r1.2.Order r1.2.Down r1.2.First r1.2.Show r1.2.Kids r1.2.KidTable r1.2.KidCol)))
 else (
 bif (decide (r2.2 = 2)) then (
 (qk.f (l1Cur.mk a0.b r2.1.i r2.1.h) 7).bind fun r13 =>
 some ((l1Cur.mk a0.b r13.1.i r13.1.h), (Query.mk r1.2.Table r1.2.Where (w64 (r13.2 - 1)) r1.2.Down r1.2.First r1.2.Show r1.2.Kids r1.2.KidTable r1.2.KidCol)))
 else (
 bif (decide (r2.2 = 3)) then (
 (some [(-1), 24, 25]).bind fun l15 =>
 (qUC.f (l1Cur.mk a0.b r2.1.i r2.1.h) l15).bind fun r16 =>
 some ((l1Cur.mk a0.b r16.1.i r16.1.h), (Query.mk r1.2.Table r1.2.Where r1.2.Order r1.2.Down r16.2 r1.2.Show r1.2.Kids r1.2.KidTable r1.2.KidCol)))
 else (
 bif (decide (r2.2 = 4)) then (
 (qk.f (l1Cur.mk a0.b r2.1.i r2.1.h) 5).bind fun r18 =>
 (some [r18.2]).bind fun l19 =>
 (appO 8 r1.2.Show l19).bind fun l20 =>
 some ((l1Cur.mk a0.b r18.1.i r18.1.h), (Query.mk r1.2.Table r1.2.Where r1.2.Order r1.2.Down r1.2.First l20 r1.2.Kids r1.2.KidTable r1.2.KidCol)))
 else (
 bif (decide (r2.2 = 5)) then (
 (qk.f (l1Cur.mk a0.b r2.1.i r2.1.h) 6).bind fun r22 =>
 some ((l1Cur.mk a0.b r22.1.i r22.1.h), (Query.mk r1.2.Table r1.2.Where r1.2.Order r1.2.Down r1.2.First r1.2.Show r1.2.Kids r1.2.KidTable (w64 (r22.2 - 1)))))
 else (
 some ((l1Cur.mk a0.b r2.1.i r2.1.h), r1.2)))))))
def qZD.l0 (a0 : List Int) : Nat → Int → Int → Option l1Cur
 | 0, _, _ => none
 | k + 1, z4, z5 =>
  bif (bo3 (decide (z5 < (lenI a0))) (decide (z5 < 4000)) false) then (
  (getO a0 z5).bind fun x11 =>
  qZD.l0 a0 k (Ls.ar .and .i64 (w64 ((w64 ((w64 (z4 * 131)) + (w64 x11))) + 7)) 1073741823) (w64 (z5 + 1)))
  else (
  some (l1Cur.mk a0 0 z4))
def qZD.f (a0 : List Int) : Option l1Cur :=
 qZD.l0 a0 (((lenI a0) - 0).toNat + 1) (w64 (17333 + (lenI a0))) 0
def qgF.f (a0 : List Int) : Option (Store × Query) :=
 (qZD.f a0).bind fun r1 =>
 (qHG.f r1).bind fun r2 =>
 (qIG.f (l1Cur.mk r1.b r2.1.i r2.1.h) r2.2.Schema).bind fun r3 =>
 some (r2.2, r3.2)
def qxE.f (a0 : List Int) : Option (Store × Query) :=
 (qgF.f a0).bind fun r1 =>
 some (r1.1, r1.2)
def qLD.l0 (a2 : Row) : Nat → Int → Option Bool
 | 0, _ => none
 | k + 1, z35 =>
  bif (decide (z35 < (lenI a2.Cells))) then (
  (getO a2.Cells z35).bind fun x37 =>
  (qxB.f x37 (-1000000000) 1000000000).bind fun r38 =>
  bif (bo3 r38 false true) then (
  some false)
  else (
  qLD.l0 a2 k (w64 (z35 + 1))))
  else (
  some true)
def qLD.f (a0 : Schema) (a1 : Int) (a2 : Row) : Option Bool :=
 (qrB.f a0).bind fun r1 =>
 (gd (bo3 (bo3 r1 false true) false true) (qxB.f a1 0 (w64 ((lenI a0.Cols) - 1)))).bind fun r2 =>
 (gd (bo3 (bo3 (bo3 r1 false true) true (bo3 r2 false true)) false true) (qxB.f a2.Id 1 999)).bind fun r3 =>
 (gd (bo3 (bo3 (bo3 (bo3 r1 false true) true (bo3 r2 false true)) true (bo3 r3 false true)) false true) (getO a0.Cols a1)).bind fun x4 =>
 bif (bo3 (bo3 (bo3 (bo3 r1 false true) true (bo3 r2 false true)) true (bo3 r3 false true)) true (decide ((lenI a2.Cells) ≠ x4))) then (
 some false)
 else (
 qLD.l0 a2 (((lenI a2.Cells) - 0).toNat + 1) 0)
def qsC.l0 (a0 : Schema) (a1 : Int) (a2 : List Row) (K2 : Unit → Option Bool) : Nat → Int → Option Bool
 | 0, _ => none
 | k + 1, z7 =>
  bif (decide (z7 < (lenI a2))) then (
  (getO a2 z7).bind fun x9 =>
  (qLD.f a0 a1 x9).bind fun r10 =>
  (gd (bo3 (bo3 (bo3 r10 false true) false true) (decide (0 < z7)) false) (getO a2 (w64 (z7 - 1)))).bind fun x11 =>
  bif (bo3 (bo3 r10 false true) true (bo3 (decide (0 < z7)) (decide (x9.Id ≤ x11.Id)) false)) then (
  some false)
  else (
  qsC.l0 a0 a1 a2 K2 k (w64 (z7 + 1))))
  else (
  K2 ())
def qsC.f (a0 : Schema) (a1 : Int) (a2 : List Row) : Option Bool :=
 joinK (fun (y1 : Unit) =>
 (qrB.f a0).bind fun r33 =>
 (gd r33 (qxB.f a1 0 (w64 ((lenI a0.Cols) - 1)))).bind fun r34 =>
 some (bo3 (bo3 r33 r34 false) (decide ((lenI a2) ≤ 24)) false)) (fun K2 =>
 qsC.l0 a0 a1 a2 K2 (((lenI a2) - 0).toNat + 1) 0)
def qFC.l0 (a0 : Store) : Nat → Int → Option Bool
 | 0, _ => none
 | k + 1, z24 =>
  bif (decide (z24 < (lenI a0.Tables))) then (
  (getO a0.Tables z24).bind fun x26 =>
  (qsC.f a0.Schema z24 x26).bind fun r27 =>
  bif (bo3 r27 false true) then (
  some false)
  else (
  qFC.l0 a0 k (w64 (z24 + 1))))
  else (
  some true)
def qFC.f (a0 : Store) : Option Bool :=
 (qrB.f a0.Schema).bind fun r1 =>
 (gd (bo3 (bo3 r1 false true) false true) (qxB.f a0.Version 0 100000)).bind fun r2 =>
 bif (bo3 (bo3 (bo3 r1 false true) true (bo3 r2 false true)) true (decide ((lenI a0.Tables) ≠ (lenI a0.Schema.Cols)))) then (
 some false)
 else (
 qFC.l0 a0 (((lenI a0.Tables) - 0).toNat + 1) 0)
def qYB.l0 (a1 : Query) (x20 : Int) (K22 : Unit → Option Bool) : Nat → Int → Option Bool
 | 0, _ => none
 | k + 1, z35 =>
  bif (decide (z35 < (lenI a1.Where))) then (
  (getO a1.Where z35).bind fun x37 =>
  (qxB.f x37.Col 0 (w64 (x20 - 1))).bind fun r38 =>
  (gd (bo3 (bo3 r38 false true) false true) (qxB.f x37.Op 1 4)).bind fun r39 =>
  (gd (bo3 (bo3 (bo3 r38 false true) true (bo3 r39 false true)) false true) (qxB.f x37.V (-1000000000) 1000000000)).bind fun r40 =>
  bif (bo3 (bo3 (bo3 r38 false true) true (bo3 r39 false true)) true (bo3 r40 false true)) then (
  some false)
  else (
  qYB.l0 a1 x20 K22 k (w64 (z35 + 1))))
  else (
  K22 ())
def qYB.l1 (a1 : Query) (x20 : Int) (K55 : Unit → Option Bool) : Nat → Int → Option Bool
 | 0, _ => none
 | k + 1, z68 =>
  bif (decide (z68 < (lenI a1.Show))) then (
  (getO a1.Show z68).bind fun x70 =>
  (qxB.f x70 0 (w64 (x20 - 1))).bind fun r71 =>
  (gd (bo3 (bo3 (bo3 r71 false true) false true) (decide (0 < z68)) false) (getO a1.Show (w64 (z68 - 1)))).bind fun x72 =>
  bif (bo3 (bo3 r71 false true) true (bo3 (decide (0 < z68)) (decide (x70 ≤ x72)) false)) then (
  some false)
  else (
  qYB.l1 a1 x20 K55 k (w64 (z68 + 1))))
  else (
  K55 ())
def qYB.f (a0 : Schema) (a1 : Query) : Option Bool :=
 (qrB.f a0).bind fun r1 =>
 (gd (bo3 (bo3 r1 false true) false true) (qxB.f a1.Table 0 (w64 ((lenI a0.Cols) - 1)))).bind fun r2 =>
 bif (bo3 (bo3 (bo3 r1 false true) true (bo3 r2 false true)) true (decide (3 < (lenI a1.Where)))) then (
 some false)
 else (
 (getO a0.Cols a1.Table).bind fun x20 =>
 joinK (fun (y21 : Unit) =>
 joinK (fun (y54 : Unit) =>
 (qxB.f a1.Order 0 x20).bind fun r94 =>
 (gd (bo3 (bo3 r94 false true) false true) (qxB.f a1.First 0 24)).bind fun r95 =>
 bif (bo3 (bo3 (bo3 r94 false true) true (bo3 r95 false true)) true (bo3 (decide (a1.Order = 0)) a1.Down false)) then (
 some false)
 else (
 bif (bo3 a1.Kids false true) then (
 some (bo3 (decide (a1.KidTable = 0)) (decide (a1.KidCol = 0)) false))
 else (
 (qxB.f a1.KidTable 0 (w64 ((lenI a0.Cols) - 1))).bind fun r120 =>
 (gd r120 (getO a0.Cols a1.KidTable)).bind fun x121 =>
 (gd r120 (qxB.f a1.KidCol 0 (w64 (x121 - 1)))).bind fun r122 =>
 some (bo3 r120 r122 false)))) (fun K55 =>
 qYB.l1 a1 x20 K55 (((lenI a1.Show) - 0).toNat + 1) 0)) (fun K22 =>
 qYB.l0 a1 x20 K22 (((lenI a1.Where) - 0).toNat + 1) 0))
def qhF.f (a0 : Cond) (a1 : Row) : Option Bool :=
 (qxB.f a0.Col 0 (w64 ((lenI a1.Cells) - 1))).bind fun r1 =>
 bif (bo3 r1 false true) then (
 some false)
 else (
 (getO a1.Cells a0.Col).bind fun x3 =>
 bif (decide (a0.Op = 1)) then (
 some (decide (x3 = a0.V)))
 else (
 bif (decide (a0.Op = 2)) then (
 some (decide (x3 < a0.V)))
 else (
 bif (decide (a0.Op = 3)) then (
 some (decide (a0.V < x3)))
 else (
 bif (decide (a0.Op = 4)) then (
 some (decide (x3 ≠ a0.V)))
 else (
 some false)))))
def qeC.l0 (a0 : Query) (a1 : Row) : Nat → Int → Option Bool
 | 0, _ => none
 | k + 1, z13 =>
  bif (decide (z13 < (lenI a0.Where))) then (
  (getO a0.Where z13).bind fun x15 =>
  (qhF.f x15 a1).bind fun r16 =>
  bif (bo3 r16 false true) then (
  some false)
  else (
  qeC.l0 a0 a1 k (w64 (z13 + 1))))
  else (
  some true)
def qeC.f (a0 : Query) (a1 : Row) : Option Bool :=
 qeC.l0 a0 a1 (((lenI a0.Where) - 0).toNat + 1) 0
def qiE.f (a0 : Row) (a1 : Int) : Option Int :=
 (qxB.f a1 0 (w64 ((lenI a0.Cells) - 1))).bind fun r1 =>
 bif (bo3 r1 false true) then (
 some 0)
 else (
 (getO a0.Cells a1).bind fun x3 =>
 some x3)
def qFH.f (a0 : Query) (a1 : Row) (a2 : Row) : Option Bool :=
 bif (decide (a0.Order ≠ 0)) then (
 (qiE.f a1 (w64 (a0.Order - 1))).bind fun r2 =>
 (qiE.f a2 (w64 (a0.Order - 1))).bind fun r3 =>
 bif (decide (r2 ≠ r3)) then (
 some (bo3 (decide (r2 < r3)) (bo3 a0.Down false true) a0.Down))
 else (
 some (decide (a1.Id < a2.Id))))
 else (
 some (decide (a1.Id < a2.Id)))
def qQC.l0 (a0 : Query) (a1 : List Row) (a2 : Row) (K4 : (List Row) → Bool → Int → Option ((List Row))) : Nat → (List Row) → Bool → Int → Option ((List Row))
 | 0, _, _, _ => none
 | k + 1, z20, z21, z22 =>
  bif (decide (z22 < (lenI a1))) then (
  (gd (bo3 z21 false true) (getO a1 z22)).bind fun x24 =>
  (gd (bo3 z21 false true) (qFH.f a0 a2 x24)).bind fun r25 =>
  bif (bo3 (bo3 z21 false true) r25 false) then (
  (qUD.f a2).bind fun r36 =>
  (some [r36]).bind fun l37 =>
  (appO 32 z20 l37).bind fun l38 =>
  (getO a1 z22).bind fun x39 =>
  (ltO z22).bind fun u40 =>
  (some [x39]).bind fun l41 =>
  (appO 32 l38 l41).bind fun l42 =>
  qQC.l0 a0 a1 a2 K4 k l42 true (w64 (z22 + 1)))
  else (
  (getO a1 z22).bind fun x43 =>
  (ltO z22).bind fun u44 =>
  (some [x43]).bind fun l45 =>
  (appO 32 z20 l45).bind fun l46 =>
  qQC.l0 a0 a1 a2 K4 k l46 z21 (w64 (z22 + 1))))
  else (
  K4 z20 z21 z22)
def qQC.f (a0 : Query) (a1 : List Row) (a2 : Row) : Option ((List Row)) :=
 joinK (fun (y1 : List Row) (y2 : Bool) (y3 : Int) =>
 bif (bo3 y2 false true) then (
 (qUD.f a2).bind fun r48 =>
 (some [r48]).bind fun l49 =>
 (appO 32 y1 l49).bind fun l50 =>
 some l50)
 else (
 some y1)) (fun K4 =>
 qQC.l0 a0 a1 a2 K4 (((lenI a1) - 0).toNat + 1) [] false 0)
def qZC.l0 (a1 : Query) (x11 : List Row) : Nat → (List Row) → Int → Option ((List Row))
 | 0, _, _ => none
 | k + 1, z24, z25 =>
  bif (decide (z25 < (lenI x11))) then (
  (getO x11 z25).bind fun x27 =>
  (qeC.f a1 x27).bind fun r28 =>
  bif r28 then (
  (qQC.f a1 z24 x27).bind fun r30 =>
  qZC.l0 a1 x11 k r30 (w64 (z25 + 1)))
  else (
  qZC.l0 a1 x11 k z24 (w64 (z25 + 1))))
  else (
  some z24)
def qZC.f (a0 : Store) (a1 : Query) : Option ((List Row)) :=
 (qFC.f a0).bind fun r1 =>
 (gd (bo3 (bo3 r1 false true) false true) (qYB.f a0.Schema a1)).bind fun r2 =>
 bif (bo3 (bo3 r1 false true) true (bo3 r2 false true)) then (
 some [])
 else (
 (getO a0.Tables a1.Table).bind fun x11 =>
 qZC.l0 a1 x11 (((lenI x11) - 0).toNat + 1) [] 0)
def qKC.l0 (a0 : List ByteArray) (a1 : List ByteArray) : Nat → Int → Option Bool
 | 0, _ => none
 | k + 1, z5 =>
  bif (decide (z5 < (lenI a0))) then (
  (getO a0 z5).bind fun x7 =>
  (getO a1 z5).bind fun x8 =>
  bif (Ls.sc .neq x7 x8) then (
  some false)
  else (
  qKC.l0 a0 a1 k (w64 (z5 + 1))))
  else (
  some true)
def qKC.f (a0 : List ByteArray) (a1 : List ByteArray) : Option Bool :=
 bif (decide ((lenI a0) ≠ (lenI a1))) then (
 some false)
 else (
 qKC.l0 a0 a1 (((lenI a0) - 0).toNat + 1) 0)
def qQB.l0 (a0 : Json) (a1 : Json) (self : Json → Json → Option Bool) : Nat → Int → Option Bool
 | 0, _ => none
 | k + 1, z45 =>
  bif (decide (z45 < (lenI a0.List_))) then (
  (getO a0.List_ z45).bind fun x47 =>
  (getO a1.List_ z45).bind fun x48 =>
  (self x47 x48).bind fun r49 =>
  bif (bo3 r49 false true) then (
  some false)
  else (
  qQB.l0 a0 a1 self k (w64 (z45 + 1))))
  else (
  some true)
def qQB.b (self : Json → Json → Option Bool) (a0 : Json) (a1 : Json) : Option Bool :=
 (gd (bo3 (bo3 (bo3 (bo3 (decide (a0.Kind ≠ a1.Kind)) true (decide (a0.N ≠ a1.N))) true (Ls.sc .neq a0.S a1.S)) true (decide ((lenI a0.List_) ≠ (lenI a1.List_)))) false true) (qKC.f a0.Names a1.Names)).bind fun r1 =>
 bif (bo3 (bo3 (bo3 (bo3 (decide (a0.Kind ≠ a1.Kind)) true (decide (a0.N ≠ a1.N))) true (Ls.sc .neq a0.S a1.S)) true (decide ((lenI a0.List_) ≠ (lenI a1.List_)))) true (bo3 r1 false true)) then (
 some false)
 else (
 qQB.l0 a0 a1 self (((lenI a0.List_) - 0).toNat + 1) 0)
def qQB.g : Nat → Json → Json → Option Bool
 | 0 => fun _ _ => none
 | k + 1 => qQB.b (qQB.g k)
def qQB.f (a0 : Json) (a1 : Json) : Option Bool := qQB.g 20 a0 a1
def qlC.l0 (a1 : Query) (a2 : Int) (x16 : List Row) : Nat → Int → Int → Option Int
 | 0, _, _ => none
 | k + 1, z30, z31 =>
  bif (decide (z31 < (lenI x16))) then (
  (getO x16 z31).bind fun x33 =>
  (getO x33.Cells a1.KidCol).bind fun x34 =>
  bif (decide (x34 = a2)) then (
  qlC.l0 a1 a2 x16 k (w64 (z30 + 1)) (w64 (z31 + 1)))
  else (
  qlC.l0 a1 a2 x16 k z30 (w64 (z31 + 1))))
  else (
  some z30)
def qlC.f (a0 : Store) (a1 : Query) (a2 : Int) : Option Int :=
 (qFC.f a0).bind fun r1 =>
 (gd (bo3 (bo3 r1 false true) false true) (qYB.f a0.Schema a1)).bind fun r2 =>
 bif (bo3 (bo3 (bo3 r1 false true) true (bo3 r2 false true)) true (bo3 a1.Kids false true)) then (
 some 0)
 else (
 (getO a0.Tables a1.KidTable).bind fun x16 =>
 qlC.l0 a1 a2 x16 (((lenI x16) - 0).toNat + 1) 0 0)
def qGH.f (a0 : Int) (a1 : Int) : Option Int :=
 bif (decide (a0 < a1)) then (
 some a0)
 else (
 some a1)
def qyE.f (a0 : Query) (a1 : Int) : Option Int :=
 bif (decide (a0.First = 0)) then (
 some a1)
 else (
 (qGH.f a1 a0.First).bind fun r2 =>
 (qkC.f r2 0).bind fun r3 =>
 some r3)
def qgD.f (a0 : Int) : Option Json :=
 some (Json.mk 2 a0 ByteArray.empty [] [])
def qcC.l0 (a0 : Json) (a1 : ByteArray) (a2 : Json) (K4 : (List Json) → (List ByteArray) → Bool → Option Json) : Nat → (List Json) → (List ByteArray) → Bool → Int → Option Json
 | 0, _, _, _, _ => none
 | k + 1, z45, z46, z47, z48 =>
  bif (decide (z48 < (lenI a0.Names))) then (
  joinK (fun (y50 : List Json) (y51 : List ByteArray) (y52 : Bool) =>
  (getO a0.Names z48).bind fun x69 =>
  bif (Ls.sc .neq x69 a1) then (
  (some [x69]).bind fun l71 =>
  (appO 16 y51 l71).bind fun l72 =>
  (getO a0.List_ z48).bind fun x73 =>
  (some [x73]).bind fun l74 =>
  (appO 80 y50 l74).bind fun l75 =>
  qcC.l0 a0 a1 a2 K4 k l75 l72 y52 (w64 (z48 + 1)))
  else (
  qcC.l0 a0 a1 a2 K4 k y50 y51 y52 (w64 (z48 + 1)))) (fun K53 =>
  (gd (bo3 z47 false true) (getO a0.Names z48)).bind fun x54 =>
  bif (bo3 (bo3 z47 false true) (Ls.sc .geq x54 a1) false) then (
  (some [a1]).bind fun l65 =>
  (appO 16 z46 l65).bind fun l66 =>
  (some [a2]).bind fun l67 =>
  (appO 80 z45 l67).bind fun l68 =>
  K53 l68 l66 true)
  else (
  K53 z45 z46 z47)))
  else (
  K4 z45 z46 z47)
def qcC.f (a0 : Json) (a1 : ByteArray) (a2 : Json) : Option Json :=
 joinK (fun (y1 : List Json) (y2 : List ByteArray) (y3 : Bool) =>
 bif (bo3 y3 false true) then (
 (some [a1]).bind fun l77 =>
 (appO 16 y2 l77).bind fun l78 =>
 (some [a2]).bind fun l79 =>
 (appO 80 y1 l79).bind fun l80 =>
 some (Json.mk 5 0 ByteArray.empty l80 l78))
 else (
 some (Json.mk 5 0 ByteArray.empty y1 y2))) (fun K4 =>
 qcC.l0 a0 a1 a2 K4 (((lenI a0.Names) - 0).toNat + 1) [] [] false 0)
def qCC.l0 (K4 : Bool → ByteArray → Option ByteArray) : Nat → Int → Bool → ByteArray → Option ByteArray
 | 0, _, _, _ => none
 | k + 1, z8, z9, z10 =>
  bif (decide (z8 ≠ 0)) then (
  bif (decide ((Int.tmod z8 10) < 0)) then (
  (some [(IntKind.wrap .u8 (w64 (48 + (w64 (0 - (Int.tmod z8 10))))))]).bind fun l13 =>
  (some (bsO l13)).bind fun s14 =>
  (smO s14 z10).bind fun u15 =>
  qCC.l0 K4 k (w64 (Int.tdiv z8 10)) z9 (Ls.sa s14 z10))
  else (
  (some [(IntKind.wrap .u8 (w64 (48 + (Int.tmod z8 10))))]).bind fun l16 =>
  (some (bsO l16)).bind fun s17 =>
  (smO s17 z10).bind fun u18 =>
  qCC.l0 K4 k (w64 (Int.tdiv z8 10)) z9 (Ls.sa s17 z10)))
  else (
  K4 z9 z10)
def qCC.f (a0 : Int) : Option ByteArray :=
 bif (decide (a0 = 0)) then (
 some (ByteArray.mk #[48]))
 else (
 joinK (fun (y2 : Bool) (y3 : ByteArray) =>
 bif y2 then (
 (smO (ByteArray.mk #[45]) y3).bind fun u20 =>
 some (Ls.sa (ByteArray.mk #[45]) y3))
 else (
 some y3)) (fun K4 =>
 qCC.l0 K4 30 a0 (decide (a0 < 0)) (ByteArray.mk #[])))
def qGD.l0 (a0 : Query) (a1 : Row) (K6 : Int → Int → ByteArray → (List Json) → (List ByteArray) → Option Json) : Nat → Int → Int → ByteArray → (List Json) → (List ByteArray) → Int → Option Json
 | 0, _, _, _, _, _, _ => none
 | k + 1, z47, z48, z49, z50, z51, z52 =>
  bif (decide (z52 < (lenI a0.Show))) then (
  (getO a0.Show z52).bind fun x54 =>
  (qCC.f x54).bind fun r55 =>
  (smO (ByteArray.mk #[99]) r55).bind fun u56 =>
  (qiE.f a1 x54).bind fun r57 =>
  (qgD.f r57).bind fun r58 =>
  (qcC.f (Json.mk z47 z48 z49 z50 z51) (Ls.sa (ByteArray.mk #[99]) r55) r58).bind fun r59 =>
  qGD.l0 a0 a1 K6 k r59.Kind r59.N r59.S r59.List_ r59.Names (w64 (z52 + 1)))
  else (
  K6 z47 z48 z49 z50 z51)
def qGD.f (a0 : Query) (a1 : Row) (a2 : Int) : Option Json :=
 joinK (fun (y1 : Int) (y2 : Int) (y3 : ByteArray) (y4 : List Json) (y5 : List ByteArray) =>
 (qgD.f a1.Id).bind fun r60 =>
 (qcC.f (Json.mk y1 y2 y3 y4 y5) (ByteArray.mk #[105, 100]) r60).bind fun r61 =>
 bif a0.Kids then (
 (qgD.f a2).bind fun r63 =>
 (qcC.f r61 (ByteArray.mk #[107, 105, 100, 115]) r63).bind fun r64 =>
 some r64)
 else (
 some r61)) (fun K6 =>
 qGD.l0 a0 a1 K6 (((lenI a0.Show) - 0).toNat + 1) 5 0 ByteArray.empty [] [] 0)
def qtC.l0 (a0 : ByteArray) : Nat → Int → Option Bool
 | 0, _ => none
 | k + 1, z3 =>
  bif (decide (z3 < (Ls.sl a0))) then (
  (inS a0 z3).bind fun u5 =>
  (gd (bo3 (decide ((Ls.sx a0 z3) < 32)) false true) (inS a0 z3)).bind fun u6 =>
  bif (bo3 (decide ((Ls.sx a0 z3) < 32)) true (decide (126 < (Ls.sx a0 z3)))) then (
  some false)
  else (
  qtC.l0 a0 k (w64 (z3 + 1))))
  else (
  some (decide ((Ls.sl a0) ≤ 60)))
def qtC.f (a0 : ByteArray) : Option Bool :=
 qtC.l0 a0 (((Ls.sl a0) - 0).toNat + 1) 0
def qfC.l0 (a0 : Json) : Nat → Int → Option Bool
 | 0, _ => none
 | k + 1, z8 =>
  bif (decide (z8 < (lenI a0.Names))) then (
  (getO a0.Names z8).bind fun x10 =>
  (qtC.f x10).bind fun r11 =>
  (gd (bo3 (bo3 (bo3 r11 false true) false true) (decide (0 < z8)) false) (getO a0.Names (w64 (z8 - 1)))).bind fun x12 =>
  bif (bo3 (bo3 r11 false true) true (bo3 (decide (0 < z8)) (Ls.sc .geq x12 x10) false)) then (
  some false)
  else (
  qfC.l0 a0 k (w64 (z8 + 1))))
  else (
  some (decide ((lenI a0.Names) = (lenI a0.List_))))
def qfC.f (a0 : Json) : Option Bool :=
 bif (decide (a0.Kind ≠ 5)) then (
 some (decide ((lenI a0.Names) = 0)))
 else (
 qfC.l0 a0 (((lenI a0.Names) - 0).toNat + 1) 0)
def qSB.l0 (a0 : Json) (a1 : Int) (self : Json → Int → Option Int) (K3 : Int → Option Int) : Nat → Int → Int → Option Int
 | 0, _, _ => none
 | k + 1, z28, z29 =>
  bif (bo3 (decide (z29 < (lenI a0.List_))) (decide (z28 ≤ 400)) false) then (
  (getO a0.List_ z29).bind fun x35 =>
  (self x35 (w64 (a1 - 1))).bind fun r36 =>
  qSB.l0 a0 a1 self K3 k (w64 (z28 + r36)) (w64 (z29 + 1)))
  else (
  K3 z28)
def qSB.b (self : Json → Int → Option Int) (a0 : Json) (a1 : Int) : Option Int :=
 bif (decide (a1 = 0)) then (
 some 401)
 else (
 joinK (fun (y2 : Int) =>
 (gd (bo3 (bo3 (bo3 (bo3 (decide (a0.Kind ≠ 3)) (Ls.sc .neq a0.S (ByteArray.mk #[])) false) true (bo3 (bo3 (decide (a0.Kind = 3)) true (decide (4 ≤ a0.Kind))) (decide (a0.N ≠ 0)) false)) true (bo3 (decide (a0.Kind < 4)) (decide (0 < (lenI a0.List_))) false)) false true) (qfC.f a0)).bind fun r37 =>
 bif (bo3 (bo3 (bo3 (bo3 (decide (a0.Kind ≠ 3)) (Ls.sc .neq a0.S (ByteArray.mk #[])) false) true (bo3 (bo3 (decide (a0.Kind = 3)) true (decide (4 ≤ a0.Kind))) (decide (a0.N ≠ 0)) false)) true (bo3 (decide (a0.Kind < 4)) (decide (0 < (lenI a0.List_))) false)) true (bo3 r37 false true)) then (
 some 401)
 else (
 some y2)) (fun K3 =>
 bif (decide (a0.Kind = 0)) then (
 bif (decide (a0.N ≠ 0)) then (
 some 401)
 else (
 K3 1))
 else (
 bif (decide (a0.Kind = 1)) then (
 (qxB.f a0.N 0 1).bind fun r7 =>
 bif (bo3 r7 false true) then (
 some 401)
 else (
 K3 1))
 else (
 bif (decide (a0.Kind = 2)) then (
 (qxB.f a0.N (-1000000000) 1000000000).bind fun r10 =>
 bif (bo3 r10 false true) then (
 some 401)
 else (
 K3 1))
 else (
 bif (decide (a0.Kind = 3)) then (
 (qtC.f a0.S).bind fun r13 =>
 bif (bo3 r13 false true) then (
 some 401)
 else (
 K3 1))
 else (
 joinK (fun (y15 : Bool) =>
 bif y15 then (
 qSB.l0 a0 a1 self K3 (((lenI a0.List_) - 0).toNat + 1) 1 0)
 else (
 some 401)) (fun K16 =>
 bif (decide (a0.Kind = 4)) then (
 K16 (decide (a0.Kind = 4)))
 else (
 K16 (decide (a0.Kind = 5))))))))))
def qSB.g : Nat → Json → Int → Option Int
 | 0 => fun _ _ => none
 | k + 1 => qSB.b (qSB.g k)
def qSB.f (a0 : Json) (a1 : Int) : Option Int := qSB.g 20 a0 a1
def qJG.f (a0 : Json) : Option Bool :=
 (qSB.f a0 6).bind fun r1 =>
 some (decide (r1 ≤ 400))
def qqD.f (a0 : Json) : Option Json :=
 (qJG.f a0).bind fun r1 =>
 bif (bo3 r1 false true) then (
 some (Json.mk 0 0 ByteArray.empty [] []))
 else (
 some a0)
def qCD.l0 (a0 : Query) (a1 : List Row) (a2 : List Int) (K2 : (List Json) → Option Json) : Nat → (List Json) → Int → Option Json
 | 0, _, _ => none
 | k + 1, z40, z41 =>
  (qyE.f a0 (lenI a1)).bind fun r42 =>
  bif (decide (z41 < r42)) then (
  joinK (fun (y44 : Int) =>
  (getO a1 z41).bind fun x48 =>
  (qGD.f a0 x48 y44).bind fun r49 =>
  (some [r49]).bind fun l50 =>
  (appO 80 z40 l50).bind fun l51 =>
  qCD.l0 a0 a1 a2 K2 k l51 (w64 (z41 + 1))) (fun K45 =>
  bif (decide (z41 < (lenI a2))) then (
  (getO a2 z41).bind fun x47 =>
  K45 x47)
  else (
  K45 0)))
  else (
  K2 z40)
def qCD.f (a0 : Query) (a1 : List Row) (a2 : List Int) : Option Json :=
 joinK (fun (y1 : List Json) =>
 (some [(ByteArray.mk #[99, 111, 117, 110, 116]), (ByteArray.mk #[114, 111, 119, 115])]).bind fun l52 =>
 (qgD.f (lenI a1)).bind fun r53 =>
 (some [r53, (Json.mk 4 0 ByteArray.empty y1 [])]).bind fun l54 =>
 (qqD.f (Json.mk 5 0 ByteArray.empty l54 l52)).bind fun r55 =>
 some r55) (fun K2 =>
 qCD.l0 a0 a1 a2 K2 ((lenI a1).toNat + 1) [] 0)
def qrD.l0 (a0 : Store) (a1 : Query) (r11 : (List Row)) (K13 : (List Int) → Option Json) : Nat → (List Int) → Int → Option Json
 | 0, _, _ => none
 | k + 1, z32, z33 =>
  bif (decide (z33 < (lenI r11))) then (
  (getO r11 z33).bind fun x35 =>
  (qlC.f a0 a1 x35.Id).bind fun r36 =>
  (some [r36]).bind fun l37 =>
  (appO 8 z32 l37).bind fun l38 =>
  qrD.l0 a0 a1 r11 K13 k l38 (w64 (z33 + 1)))
  else (
  K13 z32)
def qrD.f (a0 : Store) (a1 : Query) : Option Json :=
 (qFC.f a0).bind fun r1 =>
 (gd (bo3 (bo3 r1 false true) false true) (qYB.f a0.Schema a1)).bind fun r2 =>
 bif (bo3 (bo3 r1 false true) true (bo3 r2 false true)) then (
 some (Json.mk 0 0 ByteArray.empty [] []))
 else (
 (qZC.f a0 a1).bind fun r11 =>
 joinK (fun (y12 : List Int) =>
 (qCD.f a1 r11 y12).bind fun r39 =>
 some r39) (fun K13 =>
 qrD.l0 a0 a1 r11 K13 (((lenI r11) - 0).toNat + 1) [] 0))
def qdB.l0 (a0 : List ByteArray) (a1 : ByteArray) : Nat → Int → Option Int
 | 0, _ => none
 | k + 1, z5 =>
  bif (decide (z5 < (lenI a0))) then (
  (getO a0 z5).bind fun x7 =>
  bif (Ls.sc .eql a1 x7) then (
  some z5)
  else (
  qdB.l0 a0 a1 k (w64 (z5 + 1))))
  else (
  some (-1))
def qdB.f (a0 : List ByteArray) (a1 : ByteArray) : Option Int :=
 qdB.l0 a0 a1 (((lenI a0) - 0).toNat + 1) 0
def qYE.f (a0 : List ByteArray) : Option ((List ByteArray)) :=
 (appO 16 [] a0).bind fun l1 =>
 some l1
def qRB.l0 (a0 : Json) (r1 : (List ByteArray)) (self : Json → Option Json) : Nat → (List Json) → Int → Option Json
 | 0, _, _ => none
 | k + 1, z23, z24 =>
  bif (decide (z24 < (lenI a0.List_))) then (
  (getO a0.List_ z24).bind fun x26 =>
  (self x26).bind fun r27 =>
  (some [r27]).bind fun l28 =>
  (appO 80 z23 l28).bind fun l29 =>
  qRB.l0 a0 r1 self k l29 (w64 (z24 + 1)))
  else (
  some (Json.mk a0.Kind a0.N a0.S z23 r1))
def qRB.b (self : Json → Option Json) (a0 : Json) : Option Json :=
 (qYE.f a0.Names).bind fun r1 =>
 qRB.l0 a0 r1 self (((lenI a0.List_) - 0).toNat + 1) [] 0
def qRB.g : Nat → Json → Option Json
 | 0 => fun _ => none
 | k + 1 => qRB.b (qRB.g k)
def qRB.f (a0 : Json) : Option Json := qRB.g 20 a0
def qoE.f (a0 : Json) (a1 : ByteArray) : Option (Json × Bool) :=
 (qdB.f a0.Names a1).bind fun r1 =>
 (qgE.f a0).bind fun r2 =>
 bif (bo3 (bo3 r2 false true) true (decide (r1 < 0))) then (
 some ((Json.mk 0 0 ByteArray.empty [] []), false))
 else (
 (getO a0.List_ r1).bind fun x8 =>
 (qRB.f x8).bind fun r9 =>
 some (r9, true))
def qXJ.f (a0 : List Int) : Option Bool :=
 some (decide (1048576 < (lenI a0)))
def qmB.l0 (r3 : Store × Query) (K34 : Int → Option Bool) : Nat → Int → Int → Option Bool
 | 0, _, _ => none
 | k + 1, z55, z56 =>
  (getO r3.1.Tables r3.2.Table).bind fun x57 =>
  bif (decide (z56 < (lenI x57))) then (
  (getO x57 z56).bind fun x59 =>
  (qRC.f r3.2 x59).bind fun r60 =>
  bif r60 then (
  qmB.l0 r3 K34 k (w64 (z55 + 1)) (w64 (z56 + 1)))
  else (
  qmB.l0 r3 K34 k z55 (w64 (z56 + 1))))
  else (
  K34 z55)
def qmB.l1 (r3 : Store × Query) (r4 : (List Row)) (K63 : Unit → Option Bool) : Nat → Int → Option Bool
 | 0, _ => none
 | k + 1, z81 =>
  bif (decide (z81 < (lenI r4))) then (
  (getO r4 z81).bind fun x83 =>
  (qRC.f r3.2 x83).bind fun r84 =>
  (gd (bo3 (bo3 (bo3 r84 false true) false true) (decide (0 < z81)) false) (getO r4 (w64 (z81 - 1)))).bind fun x85 =>
  (gd (bo3 (bo3 (bo3 r84 false true) false true) (decide (0 < z81)) false) (qyF.f r3.2 x85 x83)).bind fun r86 =>
  bif (bo3 (bo3 r84 false true) true (bo3 (decide (0 < z81)) (bo3 r86 false true) false)) then (
  some false)
  else (
  qmB.l1 r3 r4 K63 k (w64 (z81 + 1))))
  else (
  K63 ())
def qmB.f (a0 : List Int) : Option Bool :=
 (qXJ.f a0).bind fun r1 =>
 bif r1 then (
 some true)
 else (
 (qxE.f a0).bind fun r3 =>
 (qXC.f r3.1 r3.2).bind fun r4 =>
 (qZC.f r3.1 r3.2).bind fun r5 =>
 (qpD.f r3.1 r3.2).bind fun r6 =>
 (gd (bo3 (decide ((lenI r4) ≠ (lenI r5))) false true) (qrD.f r3.1 r3.2)).bind fun r7 =>
 (gd (bo3 (decide ((lenI r4) ≠ (lenI r5))) false true) (qQB.f r6 r7)).bind fun r8 =>
 bif (bo3 (decide ((lenI r4) ≠ (lenI r5))) true (bo3 r8 false true)) then (
 some false)
 else (
 (qFC.f r3.1).bind fun r18 =>
 (gd (bo3 (bo3 r18 false true) false true) (qYB.f r3.1.Schema r3.2)).bind fun r19 =>
 bif (bo3 (bo3 r18 false true) true (bo3 r19 false true)) then (
 some (bo3 (decide ((lenI r4) = 0)) (decide (r6.Kind = 0)) false))
 else (
 joinK (fun (y33 : Int) =>
 joinK (fun (y62 : Unit) =>
 (qoE.f r6 (ByteArray.mk #[99, 111, 117, 110, 116])).bind fun r108 =>
 (qoE.f r6 (ByteArray.mk #[114, 111, 119, 115])).bind fun r109 =>
 (gd (bo3 (bo3 (bo3 (bo3 (decide (y33 = (lenI r4))) r108.2 false) (decide (r108.1.N = y33)) false) r109.2 false) (bo3 (decide ((lenI r109.1.List_) = y33)) true (bo3 (decide ((lenI r109.1.List_) = r3.2.First)) (decide (0 < r3.2.First)) false)) false) (qgE.f r6)).bind fun r110 =>
 some (bo3 (bo3 (bo3 (bo3 (bo3 (decide (y33 = (lenI r4))) r108.2 false) (decide (r108.1.N = y33)) false) r109.2 false) (bo3 (decide ((lenI r109.1.List_) = y33)) true (bo3 (decide ((lenI r109.1.List_) = r3.2.First)) (decide (0 < r3.2.First)) false)) false) r110 false)) (fun K63 =>
 qmB.l1 r3 r4 K63 (((lenI r4) - 0).toNat + 1) 0)) (fun K34 =>
 qmB.l0 r3 K34 1000 0 0))))
end Go.Proofs.YtbhleignjmcdiaaGreatDoor.L