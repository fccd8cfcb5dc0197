/- The pure functions of the program. -/
import Derived.Test.YtgjboegobhafhaaGreatDoorFxEvalSl48
namespace Go.Proofs.YtgjboegobhafhaaGreatDoor.L
open Go
set_option linter.unusedVariables false
structure Schema where
 Cols : List Int
 deriving Inhabited, DecidableEq
structure Row where
 Id : Int
 Cells : List Int
 deriving Inhabited, DecidableEq
structure Store where
 Schema : Schema
 Version : Int
 Tables : List (List Row)
 deriving Inhabited, DecidableEq
structure Cond where
 Col : Int
 Op : Int
 V : Int
 deriving Inhabited, DecidableEq
structure Query where
 Table : Int
 Where : List Cond
 Order : Int
 Down : Bool
 First : Int
 Show : List Int
 Kids : Bool
 KidTable : Int
 KidCol : Int
 deriving Inhabited, DecidableEq
structure Json where
 Kind : Int
 N : Int
 S : ByteArray
 List_ : List Json
 Names : List ByteArray
instance : Inhabited Json := ⟨⟨0, 0, ByteArray.empty, [], []⟩⟩
noncomputable instance : DecidableEq Json := fun _ _ => Classical.propDecidable _
def qiB.l0  : Nat → Int → ByteArray → Option ByteArray
 | 0, _, _ => none
 | k + 1, z4, z5 =>
  bif (decide (0 < z4)) then (
  (some [(IntKind.wrap .u8 (w64 (48 + (Int.tmod z4 10))))]).bind fun l7 =>
  (some (bsO l7)).bind fun s8 =>
  (smO s8 z5).bind fun u9 =>
  qiB.l0 k (w64 (Int.tdiv z4 10)) (Ls.sa s8 z5))
  else (
  (smO (ByteArray.mk #[109]) z5).bind fun u10 =>
  some (Ls.sa (ByteArray.mk #[109]) z5))
def qiB.f (a0 : Int) : Option ByteArray :=
 bif (decide (a0 ≤ 0)) then (
 some (ByteArray.mk #[109, 48]))
 else (
 qiB.l0 ((a0 - 0).toNat + 1) a0 (ByteArray.mk #[]))
def qVB.l0  : Nat → (List ByteArray) → Int → Int → Option ((List ByteArray) × Int)
 | 0, _, _, _ => none
 | k + 1, z4, z5, z6 =>
  bif (decide (z6 < (lenI z4))) then (
  (qiB.f z5).bind fun r8 =>
  (getO z4 z6).bind fun x9 =>
  (some (setI z4 z6 r8)).bind fun l10 =>
  qVB.l0 k l10 (w64 (z5 + 1)) (w64 (z6 + 1)))
  else (
  some (z4, z5))
def qVB.f (a0 : List ByteArray) (a1 : Int) : Option ((List ByteArray) × Int) :=
 qVB.l0 (((lenI a0) - 0).toNat + 1) a0 a1 0
def qt.l0 (self : (List Json) → Int → Option ((List Json) × Int)) : Nat → (List Json) → Int → Int → Option ((List Json) × Int)
 | 0, _, _, _ => none
 | k + 1, z4, z5, z6 =>
  bif (decide (z6 < (lenI z4))) then (
  (getO z4 z6).bind fun x8 =>
  (some (setI z4 z6 (Json.mk z5 x8.N x8.S x8.List_ x8.Names))).bind fun l9 =>
  (getO l9 z6).bind fun x10 =>
  (some (setI l9 z6 (Json.mk x10.Kind (w64 (z5 + 1)) x10.S x10.List_ x10.Names))).bind fun l11 =>
  (qiB.f (w64 ((w64 (z5 + 1)) + 1))).bind fun r12 =>
  (getO l11 z6).bind fun x13 =>
  (some (setI l11 z6 (Json.mk x13.Kind x13.N r12 x13.List_ x13.Names))).bind fun l14 =>
  (getO l14 z6).bind fun x15 =>
  (self x15.List_ (w64 ((w64 ((w64 (z5 + 1)) + 1)) + 1))).bind fun r16 =>
  (some (setI l14 z6 (Json.mk x15.Kind x15.N x15.S r16.1 x15.Names))).bind fun l17 =>
  (getO l17 z6).bind fun x18 =>
  (qVB.f x18.Names r16.2).bind fun r19 =>
  (some (setI l17 z6 (Json.mk x18.Kind x18.N x18.S x18.List_ r19.1))).bind fun l20 =>
  qt.l0 self k l20 r19.2 (w64 (z6 + 1)))
  else (
  some (z4, z5))
def qt.b (self : (List Json) → Int → Option ((List Json) × Int)) (a0 : List Json) (a1 : Int) : Option ((List Json) × Int) :=
 qt.l0 self (((lenI a0) - 0).toNat + 1) a0 a1 0
def qt.g : Nat → (List Json) → Int → Option ((List Json) × Int)
 | 0 => fun _ _ => none
 | k + 1 => qt.b (qt.g k)
def qt.f (a0 : List Json) (a1 : Int) : Option ((List Json) × Int) := qt.g 1000 a0 a1
def qnE.f (a0 : Json) (a1 : Int) : Option (Json × Int) :=
 (qt.f a0.List_ a1).bind fun r1 =>
 (qVB.f a0.Names r1.2).bind fun r2 =>
 some ((Json.mk a0.Kind a0.N a0.S r1.1 r2.1), r2.2)
def qbB.l0 (a0 : List ByteArray) : Nat → Int → Int → Option Int
 | 0, _, _ => none
 | k + 1, z4, z5 =>
  bif (decide (z5 < (lenI a0))) then (
  (getO a0 z5).bind fun x7 =>
  (qiB.f z4).bind fun r8 =>
  bif (Ls.sc .neq x7 r8) then (
  some (-1))
  else (
  qbB.l0 a0 k (w64 (z4 + 1)) (w64 (z5 + 1))))
  else (
  some z4)
def qbB.f (a0 : List ByteArray) (a1 : Int) : Option Int :=
 qbB.l0 a0 (((lenI a0) - 0).toNat + 1) a1 0
def qBB.l0 (a0 : List Json) (self : (List Json) → Int → Option Int) : Nat → Int → Int → Option Int
 | 0, _, _ => none
 | k + 1, z4, z5 =>
  bif (decide (z5 < (lenI a0))) then (
  (getO a0 z5).bind fun x7 =>
  bif (decide (x7.Kind ≠ z4)) then (
  some (-1))
  else (
  bif (decide (x7.N ≠ (w64 (z4 + 1)))) then (
  some (-1))
  else (
  (qiB.f (w64 ((w64 (z4 + 1)) + 1))).bind fun r10 =>
  bif (Ls.sc .neq x7.S r10) then (
  some (-1))
  else (
  (self x7.List_ (w64 ((w64 ((w64 (z4 + 1)) + 1)) + 1))).bind fun r12 =>
  bif (decide (r12 < 0)) then (
  some (-1))
  else (
  (qbB.f x7.Names r12).bind fun r14 =>
  bif (decide (r14 < 0)) then (
  some (-1))
  else (
  qBB.l0 a0 self k r14 (w64 (z5 + 1))))))))
  else (
  some z4)
def qBB.b (self : (List Json) → Int → Option Int) (a0 : List Json) (a1 : Int) : Option Int :=
 qBB.l0 a0 self (((lenI a0) - 0).toNat + 1) a1 0
def qBB.g : Nat → (List Json) → Int → Option Int
 | 0 => fun _ _ => none
 | k + 1 => qBB.b (qBB.g k)
def qBB.f (a0 : List Json) (a1 : Int) : Option Int := qBB.g 1000 a0 a1
def qEE.f (a0 : Json) (a1 : Int) : Option Int :=
 (qBB.f a0.List_ a1).bind fun r1 =>
 bif (decide (r1 < 0)) then (
 some (-1))
 else (
 (qbB.f a0.Names r1).bind fun r3 =>
 bif (decide (r3 < 0)) then (
 some (-1))
 else (
 some r3))
def qXE.f (a0 : List Int) (a1 : Int) : Option Int :=
 bif (decide ((w64 (a1 - (lenI a0))) < 0)) then (
 some (-1))
 else (
 some (w64 (a1 - (lenI a0))))
def qoE.f (a0 : Schema) (a1 : Int) : Option Int :=
 (qXE.f a0.Cols a1).bind fun r1 =>
 bif (decide (r1 < 0)) then (
 some (-1))
 else (
 some r1)
def qtG.f (a0 : Row) (a1 : Int) : Option Int :=
 (qXE.f a0.Cells a1).bind fun r1 =>
 bif (decide (r1 < 0)) then (
 some (-1))
 else (
 some r1)
def qkC.l0 (a0 : List Row) : Nat → Int → Int → Option Int
 | 0, _, _ => none
 | k + 1, z5, z6 =>
  bif (decide (z6 < (lenI a0))) then (
  (getO a0 z6).bind fun x8 =>
  (qtG.f x8 z5).bind fun r9 =>
  bif (decide (r9 < 0)) then (
  some (-1))
  else (
  qkC.l0 a0 k r9 (w64 (z6 + 1))))
  else (
  some z5)
def qkC.f (a0 : List Row) (a1 : Int) : Option Int :=
 bif (decide ((w64 (a1 - (lenI a0))) < 0)) then (
 some (-1))
 else (
 qkC.l0 a0 (((lenI a0) - 0).toNat + 1) (w64 (a1 - (lenI a0))) 0)
def qQC.l0 (a0 : List (List Row)) : Nat → Int → Int → Option Int
 | 0, _, _ => none
 | k + 1, z5, z6 =>
  bif (decide (z6 < (lenI a0))) then (
  (getO a0 z6).bind fun x8 =>
  (qkC.f x8 z5).bind fun r9 =>
  bif (decide (r9 < 0)) then (
  some (-1))
  else (
  qQC.l0 a0 k r9 (w64 (z6 + 1))))
  else (
  some z5)
def qQC.f (a0 : List (List Row)) (a1 : Int) : Option Int :=
 bif (decide ((w64 (a1 - (lenI a0))) < 0)) then (
 some (-1))
 else (
 qQC.l0 a0 (((lenI a0) - 0).toNat + 1) (w64 (a1 - (lenI a0))) 0)
def qPF.f (a0 : Store) (a1 : Int) : Option Int :=
 (qoE.f a0.Schema a1).bind fun r1 =>
 bif (decide (r1 < 0)) then (
 some (-1))
 else (
 (qQC.f a0.Tables r1).bind fun r3 =>
 bif (decide (r3 < 0)) then (
 some (-1))
 else (
 some r3))
def qQF.f (a0 : List Cond) (a1 : Int) : Option Int :=
 bif (decide ((w64 (a1 - (lenI a0))) < 0)) then (
 some (-1))
 else (
 some (w64 (a1 - (lenI a0))))
def qRF.f (a0 : Query) (a1 : Int) : Option Int :=
 (qQF.f a0.Where a1).bind fun r1 =>
 bif (decide (r1 < 0)) then (
 some (-1))
 else (
 (qXE.f a0.Show r1).bind fun r3 =>
 bif (decide (r3 < 0)) then (
 some (-1))
 else (
 some r3))
def quG.f (a0 : Int) (a1 : Int) : Option Int :=
 bif (decide (a1 < a0)) then (
 some a0)
 else (
 some a1)
def qvG.f (a0 : Int) (a1 : Int) : Option Int :=
 bif (decide (a0 < a1)) then (
 some a0)
 else (
 some a1)
def qpE.f (a0 : Query) (a1 : Int) : Option Int :=
 bif (decide (a0.First = 0)) then (
 some a1)
 else (
 (qvG.f a1 a0.First).bind fun r2 =>
 (quG.f r2 0).bind fun r3 =>
 some r3)
def qPC.l0 (a0 : Json) (a1 : ByteArray) (a2 : Json) (K4 : (List Json) → (List ByteArray) → Bool → Option Json) : Nat → (List Json) → (List ByteArray) → Bool → Int → Option Json
 | 0, _, _, _, _ => none
 | k + 1, z45, z46, z47, z48 =>
  bif (decide (z48 < (lenI a0.Names))) then (
  joinK (fun (y50 : List Json) (y51 : List ByteArray) (y52 : Bool) =>
  (getO a0.Names z48).bind fun x69 =>
  bif (Ls.sc .neq x69 a1) then (
  (some [x69]).bind fun l71 =>
  (appO 16 y51 l71).bind fun l72 =>
  (getO a0.List_ z48).bind fun x73 =>
  (some [x73]).bind fun l74 =>
  (appO 80 y50 l74).bind fun l75 =>
  qPC.l0 a0 a1 a2 K4 k l75 l72 y52 (w64 (z48 + 1)))
  else (
  qPC.l0 a0 a1 a2 K4 k y50 y51 y52 (w64 (z48 + 1)))) (fun K53 =>
  (gd (bo3 z47 false true) (getO a0.Names z48)).bind fun x54 =>
  bif (bo3 (bo3 z47 false true) (Ls.sc .geq x54 a1) false) then (
  (some [a1]).bind fun l65 =>
  (appO 16 z46 l65).bind fun l66 =>
  (some [a2]).bind fun l67 =>
  (appO 80 z45 l67).bind fun l68 =>
  K53 l68 l66 true)
  else (
  K53 z45 z46 z47)))
  else (
  K4 z45 z46 z47)
def qPC.f (a0 : Json) (a1 : ByteArray) (a2 : Json) : Option Json :=
 joinK (fun (y1 : List Json) (y2 : List ByteArray) (y3 : Bool) =>
 bif (bo3 y3 false true) then (
 (some [a1]).bind fun l77 =>
 (appO 16 y2 l77).bind fun l78 =>
 (some [a2]).bind fun l79 =>
 (appO 80 y1 l79).bind fun l80 =>
 some (Json.mk 5 0 ByteArray.empty l80 l78))
 else (
 some (Json.mk 5 0 ByteArray.empty y1 y2))) (fun K4 =>
 qPC.l0 a0 a1 a2 K4 (((lenI a0.Names) - 0).toNat + 1) [] [] false 0)
def qxB.l0 (K4 : Bool → ByteArray → Option ByteArray) : Nat → Int → Bool → ByteArray → Option ByteArray
 | 0, _, _, _ => none
 | k + 1, z8, z9, z10 =>
  bif (decide (z8 ≠ 0)) then (
  bif (decide ((Int.tmod z8 10) < 0)) then (
  (some [(IntKind.wrap .u8 (w64 (48 + (w64 (0 - (Int.tmod z8 10))))))]).bind fun l13 =>
  (some (bsO l13)).bind fun s14 =>
  (smO s14 z10).bind fun u15 =>
  qxB.l0 K4 k (w64 (Int.tdiv z8 10)) z9 (Ls.sa s14 z10))
  else (
  (some [(IntKind.wrap .u8 (w64 (48 + (Int.tmod z8 10))))]).bind fun l16 =>
  (some (bsO l16)).bind fun s17 =>
  (smO s17 z10).bind fun u18 =>
  qxB.l0 K4 k (w64 (Int.tdiv z8 10)) z9 (Ls.sa s17 z10)))
  else (
  K4 z9 z10)
def qxB.f (a0 : Int) : Option ByteArray :=
 bif (decide (a0 = 0)) then (
 some (ByteArray.mk #[48]))
 else (
 joinK (fun (y2 : Bool) (y3 : ByteArray) =>
 bif y2 then (
 (smO (ByteArray.mk #[45]) y3).bind fun u20 =>
 some (Ls.sa (ByteArray.mk #[45]) y3))
 else (
 some y3)) (fun K4 =>
 qxB.l0 K4 30 a0 (decide (a0 < 0)) (ByteArray.mk #[])))
def qsB.f (a0 : Int) (a1 : Int) (a2 : Int) : Option Bool :=
 some (bo3 (decide (a1 ≤ a0)) (decide (a0 ≤ a2)) false)
def qYE.f (a0 : Row) (a1 : Int) : Option Int :=
 (qsB.f a1 0 (w64 ((lenI a0.Cells) - 1))).bind fun r1 =>
 bif (bo3 r1 false true) then (
 some 0)
 else (
 (getO a0.Cells a1).bind fun x3 =>
 some x3)
def qdD.f (a0 : Int) : Option Json :=
 some (Json.mk 2 a0 ByteArray.empty [] [])
def qyC.l0 (a0 : Query) (a1 : Row) (K6 : Int → Int → ByteArray → (List Json) → (List ByteArray) → Option Json) : Nat → Int → Int → ByteArray → (List Json) → (List ByteArray) → Int → Option Json
 | 0, _, _, _, _, _, _ => none
 | k + 1, z47, z48, z49, z50, z51, z52 =>
  bif (decide (z52 < (lenI a0.Show))) then (
  (getO a0.Show z52).bind fun x54 =>
  (qxB.f x54).bind fun r55 =>
  (smO (ByteArray.mk #[99]) r55).bind fun u56 =>
  (qYE.f a1 x54).bind fun r57 =>
  (qdD.f r57).bind fun r58 =>
  (qPC.f (Json.mk z47 z48 z49 z50 z51) (Ls.sa (ByteArray.mk #[99]) r55) r58).bind fun r59 =>
  qyC.l0 a0 a1 K6 k r59.Kind r59.N r59.S r59.List_ r59.Names (w64 (z52 + 1)))
  else (
  K6 z47 z48 z49 z50 z51)
def qyC.f (a0 : Query) (a1 : Row) (a2 : Int) : Option Json :=
 joinK (fun (y1 : Int) (y2 : Int) (y3 : ByteArray) (y4 : List Json) (y5 : List ByteArray) =>
 (qdD.f a1.Id).bind fun r60 =>
 (qPC.f (Json.mk y1 y2 y3 y4 y5) (ByteArray.mk #[105, 100]) r60).bind fun r61 =>
 bif a0.Kids then (
 (qdD.f a2).bind fun r63 =>
 (qPC.f r61 (ByteArray.mk #[107, 105, 100, 115]) r63).bind fun r64 =>
 some r64)
 else (
 some r61)) (fun K6 =>
 qyC.l0 a0 a1 K6 (((lenI a0.Show) - 0).toNat + 1) 5 0 ByteArray.empty [] [] 0)
def qlC.l0 (a0 : ByteArray) : Nat → Int → Option Bool
 | 0, _ => none
 | k + 1, z3 =>
  bif (decide (z3 < (Ls.sl a0))) then (
  (inS a0 z3).bind fun u5 =>
  (gd (bo3 (decide ((Ls.sx a0 z3) < 32)) false true) (inS a0 z3)).bind fun u6 =>
  bif (bo3 (decide ((Ls.sx a0 z3) < 32)) true (decide (126 < (Ls.sx a0 z3)))) then (
  some false)
  else (
  qlC.l0 a0 k (w64 (z3 + 1))))
  else (
  some (decide ((Ls.sl a0) ≤ 60)))
def qlC.f (a0 : ByteArray) : Option Bool :=
 qlC.l0 a0 (((Ls.sl a0) - 0).toNat + 1) 0
def qRC.l0 (a0 : Json) : Nat → Int → Option Bool
 | 0, _ => none
 | k + 1, z8 =>
  bif (decide (z8 < (lenI a0.Names))) then (
  (getO a0.Names z8).bind fun x10 =>
  (qlC.f x10).bind fun r11 =>
  (gd (bo3 (bo3 (bo3 r11 false true) false true) (decide (0 < z8)) false) (getO a0.Names (w64 (z8 - 1)))).bind fun x12 =>
  bif (bo3 (bo3 r11 false true) true (bo3 (decide (0 < z8)) (Ls.sc .geq x12 x10) false)) then (
  some false)
  else (
  qRC.l0 a0 k (w64 (z8 + 1))))
  else (
  some (decide ((lenI a0.Names) = (lenI a0.List_))))
def qRC.f (a0 : Json) : Option Bool :=
 bif (decide (a0.Kind ≠ 5)) then (
 some (decide ((lenI a0.Names) = 0)))
 else (
 qRC.l0 a0 (((lenI a0.Names) - 0).toNat + 1) 0)
def qPB.l0 (a0 : Json) (a1 : Int) (self : Json → Int → Option Int) (K3 : Int → Option Int) : Nat → Int → Int → Option Int
 | 0, _, _ => none
 | k + 1, z28, z29 =>
  bif (bo3 (decide (z29 < (lenI a0.List_))) (decide (z28 ≤ 400)) false) then (
  (getO a0.List_ z29).bind fun x35 =>
  (self x35 (w64 (a1 - 1))).bind fun r36 =>
  qPB.l0 a0 a1 self K3 k (w64 (z28 + r36)) (w64 (z29 + 1)))
  else (
  K3 z28)
def qPB.b (self : Json → Int → Option Int) (a0 : Json) (a1 : Int) : Option Int :=
 bif (decide (a1 = 0)) then (
 some 401)
 else (
 joinK (fun (y2 : Int) =>
 (gd (bo3 (bo3 (bo3 (bo3 (decide (a0.Kind ≠ 3)) (Ls.sc .neq a0.S (ByteArray.mk #[])) false) true (bo3 (bo3 (decide (a0.Kind = 3)) true (decide (4 ≤ a0.Kind))) (decide (a0.N ≠ 0)) false)) true (bo3 (decide (a0.Kind < 4)) (decide (0 < (lenI a0.List_))) false)) false true) (qRC.f a0)).bind fun r37 =>
 bif (bo3 (bo3 (bo3 (bo3 (decide (a0.Kind ≠ 3)) (Ls.sc .neq a0.S (ByteArray.mk #[])) false) true (bo3 (bo3 (decide (a0.Kind = 3)) true (decide (4 ≤ a0.Kind))) (decide (a0.N ≠ 0)) false)) true (bo3 (decide (a0.Kind < 4)) (decide (0 < (lenI a0.List_))) false)) true (bo3 r37 false true)) then (
 some 401)
 else (
 some y2)) (fun K3 =>
 bif (decide (a0.Kind = 0)) then (
 bif (decide (a0.N ≠ 0)) then (
 some 401)
 else (
 K3 1))
 else (
 bif (decide (a0.Kind = 1)) then (
 (qsB.f a0.N 0 1).bind fun r7 =>
 bif (bo3 r7 false true) then (
 some 401)
 else (
 K3 1))
 else (
 bif (decide (a0.Kind = 2)) then (
 (qsB.f a0.N (-1000000000) 1000000000).bind fun r10 =>
 bif (bo3 r10 false true) then (
 some 401)
 else (
 K3 1))
 else (
 bif (decide (a0.Kind = 3)) then (
 (qlC.f a0.S).bind fun r13 =>
 bif (bo3 r13 false true) then (
 some 401)
 else (
 K3 1))
 else (
 joinK (fun (y15 : Bool) =>
 bif y15 then (
 qPB.l0 a0 a1 self K3 (((lenI a0.List_) - 0).toNat + 1) 1 0)
 else (
 some 401)) (fun K16 =>
 bif (decide (a0.Kind = 4)) then (
 K16 (decide (a0.Kind = 4)))
 else (
 K16 (decide (a0.Kind = 5))))))))))
def qPB.g : Nat → Json → Int → Option Int
 | 0 => fun _ _ => none
 | k + 1 => qPB.b (qPB.g k)
def qPB.f (a0 : Json) (a1 : Int) : Option Int := qPB.g 20 a0 a1
def qrF.f (a0 : Json) : Option Bool :=
 (qPB.f a0 6).bind fun r1 =>
 some (decide (r1 ≤ 400))
def qhD.f (a0 : Json) : Option Json :=
 (qrF.f a0).bind fun r1 =>
 bif (bo3 r1 false true) then (
 some (Json.mk 0 0 ByteArray.empty [] []))
 else (
 some a0)
def qvC.l0 (a0 : Query) (a1 : List Row) (a2 : List Int) (K2 : (List Json) → Option Json) : Nat → (List Json) → Int → Option Json
 | 0, _, _ => none
 | k + 1, z40, z41 =>
  (qpE.f a0 (lenI a1)).bind fun r42 =>
  bif (decide (z41 < r42)) then (
  joinK (fun (y44 : Int) =>
  (getO a1 z41).bind fun x48 =>
  (qyC.f a0 x48 y44).bind fun r49 =>
  (some [r49]).bind fun l50 =>
  (appO 80 z40 l50).bind fun l51 =>
  qvC.l0 a0 a1 a2 K2 k l51 (w64 (z41 + 1))) (fun K45 =>
  bif (decide (z41 < (lenI a2))) then (
  (getO a2 z41).bind fun x47 =>
  K45 x47)
  else (
  K45 0)))
  else (
  K2 z40)
def qvC.f (a0 : Query) (a1 : List Row) (a2 : List Int) : Option Json :=
 joinK (fun (y1 : List Json) =>
 (some [(ByteArray.mk #[99, 111, 117, 110, 116]), (ByteArray.mk #[114, 111, 119, 115])]).bind fun l52 =>
 (qdD.f (lenI a1)).bind fun r53 =>
 (some [r53, (Json.mk 4 0 ByteArray.empty y1 [])]).bind fun l54 =>
 (qhD.f (Json.mk 5 0 ByteArray.empty l54 l52)).bind fun r55 =>
 some r55) (fun K2 =>
 qvC.l0 a0 a1 a2 K2 ((lenI a1).toNat + 1) [] 0)
def qpB.l0 (a0 : Schema) (K2 : Unit → Option Bool) : Nat → Int → Option Bool
 | 0, _ => none
 | k + 1, z5 =>
  bif (decide (z5 < (lenI a0.Cols))) then (
  (getO a0.Cols z5).bind fun x7 =>
  (qsB.f x7 1 4).bind fun r8 =>
  bif (bo3 r8 false true) then (
  some false)
  else (
  qpB.l0 a0 K2 k (w64 (z5 + 1))))
  else (
  K2 ())
def qpB.f (a0 : Schema) : Option Bool :=
 joinK (fun (y1 : Unit) =>
 (qsB.f (lenI a0.Cols) 1 3).bind fun r10 =>
 some r10) (fun K2 =>
 qpB.l0 a0 K2 (((lenI a0.Cols) - 0).toNat + 1) 0)
def qJD.l0 (a2 : Row) : Nat → Int → Option Bool
 | 0, _ => none
 | k + 1, z35 =>
  bif (decide (z35 < (lenI a2.Cells))) then (
  (getO a2.Cells z35).bind fun x37 =>
  (qsB.f x37 (-1000000000) 1000000000).bind fun r38 =>
  bif (bo3 r38 false true) then (
  some false)
  else (
  qJD.l0 a2 k (w64 (z35 + 1))))
  else (
  some true)
def qJD.f (a0 : Schema) (a1 : Int) (a2 : Row) : Option Bool :=
 (qpB.f a0).bind fun r1 =>
 (gd (bo3 (bo3 r1 false true) false true) (qsB.f a1 0 (w64 ((lenI a0.Cols) - 1)))).bind fun r2 =>
 (gd (bo3 (bo3 (bo3 r1 false true) true (bo3 r2 false true)) false true) (qsB.f a2.Id 1 999)).bind fun r3 =>
 (gd (bo3 (bo3 (bo3 (bo3 r1 false true) true (bo3 r2 false true)) true (bo3 r3 false true)) false true) (getO a0.Cols a1)).bind fun x4 =>
 bif (bo3 (bo3 (bo3 (bo3 r1 false true) true (bo3 r2 false true)) true (bo3 r3 false true)) true (decide ((lenI a2.Cells) ≠ x4))) then (
 some false)
 else (
 qJD.l0 a2 (((lenI a2.Cells) - 0).toNat + 1) 0)
def qmC.l0 (a0 : Schema) (a1 : Int) (a2 : List Row) (K2 : Unit → Option Bool) : Nat → Int → Option Bool
 | 0, _ => none
 | k + 1, z7 =>
  bif (decide (z7 < (lenI a2))) then (
  (getO a2 z7).bind fun x9 =>
  (qJD.f a0 a1 x9).bind fun r10 =>
  (gd (bo3 (bo3 (bo3 r10 false true) false true) (decide (0 < z7)) false) (getO a2 (w64 (z7 - 1)))).bind fun x11 =>
  bif (bo3 (bo3 r10 false true) true (bo3 (decide (0 < z7)) (decide (x9.Id ≤ x11.Id)) false)) then (
  some false)
  else (
  qmC.l0 a0 a1 a2 K2 k (w64 (z7 + 1))))
  else (
  K2 ())
def qmC.f (a0 : Schema) (a1 : Int) (a2 : List Row) : Option Bool :=
 joinK (fun (y1 : Unit) =>
 (qpB.f a0).bind fun r33 =>
 (gd r33 (qsB.f a1 0 (w64 ((lenI a0.Cols) - 1)))).bind fun r34 =>
 some (bo3 (bo3 r33 r34 false) (decide ((lenI a2) ≤ 24)) false)) (fun K2 =>
 qmC.l0 a0 a1 a2 K2 (((lenI a2) - 0).toNat + 1) 0)
def qIC.l0 (a0 : Store) : Nat → Int → Option Bool
 | 0, _ => none
 | k + 1, z24 =>
  bif (decide (z24 < (lenI a0.Tables))) then (
  (getO a0.Tables z24).bind fun x26 =>
  (qmC.f a0.Schema z24 x26).bind fun r27 =>
  bif (bo3 r27 false true) then (
  some false)
  else (
  qIC.l0 a0 k (w64 (z24 + 1))))
  else (
  some true)
def qIC.f (a0 : Store) : Option Bool :=
 (qpB.f a0.Schema).bind fun r1 =>
 (gd (bo3 (bo3 r1 false true) false true) (qsB.f a0.Version 0 100000)).bind fun r2 =>
 bif (bo3 (bo3 (bo3 r1 false true) true (bo3 r2 false true)) true (decide ((lenI a0.Tables) ≠ (lenI a0.Schema.Cols)))) then (
 some false)
 else (
 qIC.l0 a0 (((lenI a0.Tables) - 0).toNat + 1) 0)
def qYB.l0 (a1 : Query) (x20 : Int) (K22 : Unit → Option Bool) : Nat → Int → Option Bool
 | 0, _ => none
 | k + 1, z35 =>
  bif (decide (z35 < (lenI a1.Where))) then (
  (getO a1.Where z35).bind fun x37 =>
  (qsB.f x37.Col 0 (w64 (x20 - 1))).bind fun r38 =>
  (gd (bo3 (bo3 r38 false true) false true) (qsB.f x37.Op 1 4)).bind fun r39 =>
  (gd (bo3 (bo3 (bo3 r38 false true) true (bo3 r39 false true)) false true) (qsB.f x37.V (-1000000000) 1000000000)).bind fun r40 =>
  bif (bo3 (bo3 (bo3 r38 false true) true (bo3 r39 false true)) true (bo3 r40 false true)) then (
  some false)
  else (
  qYB.l0 a1 x20 K22 k (w64 (z35 + 1))))
  else (
  K22 ())
def qYB.l1 (a1 : Query) (x20 : Int) (K55 : Unit → Option Bool) : Nat → Int → Option Bool
 | 0, _ => none
 | k + 1, z68 =>
  bif (decide (z68 < (lenI a1.Show))) then (
  (getO a1.Show z68).bind fun x70 =>
  (qsB.f x70 0 (w64 (x20 - 1))).bind fun r71 =>
  (gd (bo3 (bo3 (bo3 r71 false true) false true) (decide (0 < z68)) false) (getO a1.Show (w64 (z68 - 1)))).bind fun x72 =>
  bif (bo3 (bo3 r71 false true) true (bo3 (decide (0 < z68)) (decide (x70 ≤ x72)) false)) then (
  some false)
  else (
  qYB.l1 a1 x20 K55 k (w64 (z68 + 1))))
  else (
  K55 ())
def qYB.f (a0 : Schema) (a1 : Query) : Option Bool :=
 (qpB.f a0).bind fun r1 =>
 (gd (bo3 (bo3 r1 false true) false true) (qsB.f a1.Table 0 (w64 ((lenI a0.Cols) - 1)))).bind fun r2 =>
 bif (bo3 (bo3 (bo3 r1 false true) true (bo3 r2 false true)) true (decide (3 < (lenI a1.Where)))) then (
 some false)
 else (
 (getO a0.Cols a1.Table).bind fun x20 =>
 joinK (fun (y21 : Unit) =>
 joinK (fun (y54 : Unit) =>
 (qsB.f a1.Order 0 x20).bind fun r94 =>
 (gd (bo3 (bo3 r94 false true) false true) (qsB.f a1.First 0 24)).bind fun r95 =>
 bif (bo3 (bo3 (bo3 r94 false true) true (bo3 r95 false true)) true (bo3 (decide (a1.Order = 0)) a1.Down false)) then (
 some false)
 else (
 bif (bo3 a1.Kids false true) then (
 some (bo3 (decide (a1.KidTable = 0)) (decide (a1.KidCol = 0)) false))
 else (
 (qsB.f a1.KidTable 0 (w64 ((lenI a0.Cols) - 1))).bind fun r120 =>
 (gd r120 (getO a0.Cols a1.KidTable)).bind fun x121 =>
 (gd r120 (qsB.f a1.KidCol 0 (w64 (x121 - 1)))).bind fun r122 =>
 some (bo3 r120 r122 false)))) (fun K55 =>
 qYB.l1 a1 x20 K55 (((lenI a1.Show) - 0).toNat + 1) 0)) (fun K22 =>
 qYB.l0 a1 x20 K22 (((lenI a1.Where) - 0).toNat + 1) 0))
def qSF.f (a0 : Cond) (a1 : Row) : Option Bool :=
 (qsB.f a0.Col 0 (w64 ((lenI a1.Cells) - 1))).bind fun r1 =>
 bif (bo3 r1 false true) then (
 some false)
 else (
 (getO a1.Cells a0.Col).bind fun x3 =>
 bif (decide (a0.Op = 1)) then (
 some (decide (x3 = a0.V)))
 else (
 bif (decide (a0.Op = 2)) then (
 some (decide (x3 < a0.V)))
 else (
 bif (decide (a0.Op = 3)) then (
 some (decide (a0.V < x3)))
 else (
 bif (decide (a0.Op = 4)) then (
 some (decide (x3 ≠ a0.V)))
 else (
 some false)))))
def qSC.l0 (a0 : Query) (a1 : Row) : Nat → Int → Option Bool
 | 0, _ => none
 | k + 1, z13 =>
  bif (decide (z13 < (lenI a0.Where))) then (
  (getO a0.Where z13).bind fun x15 =>
  (qSF.f x15 a1).bind fun r16 =>
  bif (bo3 r16 false true) then (
  some false)
  else (
  qSC.l0 a0 a1 k (w64 (z13 + 1))))
  else (
  some true)
def qSC.f (a0 : Query) (a1 : Row) : Option Bool :=
 qSC.l0 a0 a1 (((lenI a0.Where) - 0).toNat + 1) 0
def qwG.f (a0 : Query) (a1 : Row) (a2 : Row) : Option Bool :=
 bif (decide (a0.Order ≠ 0)) then (
 (qYE.f a1 (w64 (a0.Order - 1))).bind fun r2 =>
 (qYE.f a2 (w64 (a0.Order - 1))).bind fun r3 =>
 bif (decide (r2 ≠ r3)) then (
 some (bo3 (decide (r2 < r3)) (bo3 a0.Down false true) a0.Down))
 else (
 some (decide (a1.Id < a2.Id))))
 else (
 some (decide (a1.Id < a2.Id)))
def qZE.f (a0 : Row) : Option Row :=
 (appO 8 [] a0.Cells).bind fun l1 =>
 some (Row.mk a0.Id l1)
def qHC.l0 (a0 : Query) (a1 : List Row) (a2 : Row) (K4 : (List Row) → Bool → Int → Option ((List Row))) : Nat → (List Row) → Bool → Int → Option ((List Row))
 | 0, _, _, _ => none
 | k + 1, z20, z21, z22 =>
  bif (decide (z22 < (lenI a1))) then (
  (gd (bo3 z21 false true) (getO a1 z22)).bind fun x24 =>
  (gd (bo3 z21 false true) (qwG.f a0 a2 x24)).bind fun r25 =>
  bif (bo3 (bo3 z21 false true) r25 false) then (
  (qZE.f a2).bind fun r36 =>
  (some [r36]).bind fun l37 =>
  (appO 32 z20 l37).bind fun l38 =>
  (getO a1 z22).bind fun x39 =>
  (ltO z22).bind fun u40 =>
  (some [x39]).bind fun l41 =>
  (appO 32 l38 l41).bind fun l42 =>
  qHC.l0 a0 a1 a2 K4 k l42 true (w64 (z22 + 1)))
  else (
  (getO a1 z22).bind fun x43 =>
  (ltO z22).bind fun u44 =>
  (some [x43]).bind fun l45 =>
  (appO 32 z20 l45).bind fun l46 =>
  qHC.l0 a0 a1 a2 K4 k l46 z21 (w64 (z22 + 1))))
  else (
  K4 z20 z21 z22)
def qHC.f (a0 : Query) (a1 : List Row) (a2 : Row) : Option ((List Row)) :=
 joinK (fun (y1 : List Row) (y2 : Bool) (y3 : Int) =>
 bif (bo3 y2 false true) then (
 (qZE.f a2).bind fun r48 =>
 (some [r48]).bind fun l49 =>
 (appO 32 y1 l49).bind fun l50 =>
 some l50)
 else (
 some y1)) (fun K4 =>
 qHC.l0 a0 a1 a2 K4 (((lenI a1) - 0).toNat + 1) [] false 0)
def qTC.l0 (a1 : Query) (x11 : List Row) : Nat → (List Row) → Int → Option ((List Row))
 | 0, _, _ => none
 | k + 1, z24, z25 =>
  bif (decide (z25 < (lenI x11))) then (
  (getO x11 z25).bind fun x27 =>
  (qSC.f a1 x27).bind fun r28 =>
  bif r28 then (
  (qHC.f a1 z24 x27).bind fun r30 =>
  qTC.l0 a1 x11 k r30 (w64 (z25 + 1)))
  else (
  qTC.l0 a1 x11 k z24 (w64 (z25 + 1))))
  else (
  some z24)
def qTC.f (a0 : Store) (a1 : Query) : Option ((List Row)) :=
 (qIC.f a0).bind fun r1 =>
 (gd (bo3 (bo3 r1 false true) false true) (qYB.f a0.Schema a1)).bind fun r2 =>
 bif (bo3 (bo3 r1 false true) true (bo3 r2 false true)) then (
 some [])
 else (
 (getO a0.Tables a1.Table).bind fun x11 =>
 qTC.l0 a1 x11 (((lenI x11) - 0).toNat + 1) [] 0)
def qeC.l0 (a1 : Query) (a2 : Int) (x16 : List Row) : Nat → Int → Int → Option Int
 | 0, _, _ => none
 | k + 1, z30, z31 =>
  bif (decide (z31 < (lenI x16))) then (
  (getO x16 z31).bind fun x33 =>
  (getO x33.Cells a1.KidCol).bind fun x34 =>
  bif (decide (x34 = a2)) then (
  qeC.l0 a1 a2 x16 k (w64 (z30 + 1)) (w64 (z31 + 1)))
  else (
  qeC.l0 a1 a2 x16 k z30 (w64 (z31 + 1))))
  else (
  some z30)
def qeC.f (a0 : Store) (a1 : Query) (a2 : Int) : Option Int :=
 (qIC.f a0).bind fun r1 =>
 (gd (bo3 (bo3 r1 false true) false true) (qYB.f a0.Schema a1)).bind fun r2 =>
 bif (bo3 (bo3 (bo3 r1 false true) true (bo3 r2 false true)) true (bo3 a1.Kids false true)) then (
 some 0)
 else (
 (getO a0.Tables a1.KidTable).bind fun x16 =>
 qeC.l0 a1 a2 x16 (((lenI x16) - 0).toNat + 1) 0 0)
def qVD.l0 (a0 : Store) (a1 : Query) (r11 : (List Row)) (K13 : (List Int) → Option Json) : Nat → (List Int) → Int → Option Json
 | 0, _, _ => none
 | k + 1, z32, z33 =>
  bif (decide (z33 < (lenI r11))) then (
  (getO r11 z33).bind fun x35 =>
  (qeC.f a0 a1 x35.Id).bind fun r36 =>
  (some [r36]).bind fun l37 =>
  (appO 8 z32 l37).bind fun l38 =>
  qVD.l0 a0 a1 r11 K13 k l38 (w64 (z33 + 1)))
  else (
  K13 z32)
def qVD.f (a0 : Store) (a1 : Query) : Option Json :=
 (qIC.f a0).bind fun r1 =>
 (gd (bo3 (bo3 r1 false true) false true) (qYB.f a0.Schema a1)).bind fun r2 =>
 bif (bo3 (bo3 r1 false true) true (bo3 r2 false true)) then (
 some (Json.mk 0 0 ByteArray.empty [] []))
 else (
 (qTC.f a0 a1).bind fun r11 =>
 joinK (fun (y12 : List Int) =>
 (qvC.f a1 r11 y12).bind fun r39 =>
 some r39) (fun K13 =>
 qVD.l0 a0 a1 r11 K13 (((lenI r11) - 0).toNat + 1) [] 0))
def qNC.l0 (a0 : List Int) : Nat → (List Int) → Int → Option ((List Int))
 | 0, _, _ => none
 | k + 1, z5, z6 =>
  bif (decide (z6 < (lenI a0))) then (
  (getO a0 z6).bind fun x8 =>
  (getO z5 z6).bind fun x9 =>
  (some (setI z5 z6 x8)).bind fun l10 =>
  qNC.l0 a0 k l10 (w64 (z6 + 1)))
  else (
  some z5)
def qNC.f (a0 : List Int) : Option ((List Int)) :=
 (mkO 8 (lenI a0) 0).bind fun l1 =>
 qNC.l0 a0 (((lenI a0) - 0).toNat + 1) l1 0
def qqE.f (a0 : Schema) : Option Schema :=
 (qNC.f a0.Cols).bind fun r1 =>
 some (Schema.mk r1)
def qxG.f (a0 : Row) : Option Row :=
 (qNC.f a0.Cells).bind fun r1 =>
 some (Row.mk a0.Id r1)
def qnC.l0 (a0 : List Row) : Nat → (List Row) → Int → Option ((List Row))
 | 0, _, _ => none
 | k + 1, z5, z6 =>
  bif (decide (z6 < (lenI a0))) then (
  (getO a0 z6).bind fun x8 =>
  (qxG.f x8).bind fun r9 =>
  (getO z5 z6).bind fun x10 =>
  (some (setI z5 z6 r9)).bind fun l11 =>
  qnC.l0 a0 k l11 (w64 (z6 + 1)))
  else (
  some z5)
def qnC.f (a0 : List Row) : Option ((List Row)) :=
 (mkO 32 (lenI a0) (Row.mk 0 [])).bind fun l1 =>
 qnC.l0 a0 (((lenI a0) - 0).toNat + 1) l1 0
def qUC.l0 (a0 : List (List Row)) : Nat → (List (List Row)) → Int → Option ((List (List Row)))
 | 0, _, _ => none
 | k + 1, z5, z6 =>
  bif (decide (z6 < (lenI a0))) then (
  (getO a0 z6).bind fun x8 =>
  (qnC.f x8).bind fun r9 =>
  (getO z5 z6).bind fun x10 =>
  (some (setI z5 z6 r9)).bind fun l11 =>
  qUC.l0 a0 k l11 (w64 (z6 + 1)))
  else (
  some z5)
def qUC.f (a0 : List (List Row)) : Option ((List (List Row))) :=
 (mkO 24 (lenI a0) []).bind fun l1 =>
 qUC.l0 a0 (((lenI a0) - 0).toNat + 1) l1 0
def qZD.f (a0 : Store) : Option Store :=
 (qqE.f a0.Schema).bind fun r1 =>
 (qUC.f a0.Tables).bind fun r2 =>
 some (Store.mk r1 a0.Version r2)
def qRH.f (a0 : Cond) : Option Cond :=
 some a0
def qVC.l0 (a0 : List Cond) : Nat → (List Cond) → Int → Option ((List Cond))
 | 0, _, _ => none
 | k + 1, z5, z6 =>
  bif (decide (z6 < (lenI a0))) then (
  (getO a0 z6).bind fun x8 =>
  (qRH.f x8).bind fun r9 =>
  (getO z5 z6).bind fun x10 =>
  (some (setI z5 z6 r9)).bind fun l11 =>
  qVC.l0 a0 k l11 (w64 (z6 + 1)))
  else (
  some z5)
def qVC.f (a0 : List Cond) : Option ((List Cond)) :=
 (mkO 24 (lenI a0) (Cond.mk 0 0 0)).bind fun l1 =>
 qVC.l0 a0 (((lenI a0) - 0).toNat + 1) l1 0
def qaD.f (a0 : Query) : Option Query :=
 (qVC.f a0.Where).bind fun r1 =>
 (qNC.f a0.Show).bind fun r2 =>
 some (Query.mk a0.Table r1 a0.Order a0.Down a0.First r2 a0.Kids a0.KidTable a0.KidCol)
def qTF.f (a0 : Query) (a1 : Int) : Option Int :=
 bif (decide (a0.First = 0)) then (
 some a1)
 else (
 (some (maxO a0.First 0)).bind fun m2 =>
 (some (minO m2 a1)).bind fun m3 =>
 some m3)
def qlB.f (a0 : Int) (a1 : Int) (a2 : Int) : Option Bool :=
 some (bo3 (decide (a1 ≤ a0)) (decide (a0 ≤ a2)) false)
def qaE.f (a0 : Row) (a1 : Int) : Option Int :=
 (qlB.f a1 0 (w64 ((lenI a0.Cells) - 1))).bind fun r1 =>
 bif (bo3 r1 false true) then (
 some 0)
 else (
 (getO a0.Cells a1).bind fun x3 =>
 some x3)
def qBC.l0 (a0 : List Int) (a1 : Int) : Nat → Int → Option Int
 | 0, _ => none
 | k + 1, z5 =>
  bif (decide (z5 < (lenI a0))) then (
  (getO a0 z5).bind fun x7 =>
  bif (decide (a1 = x7)) then (
  some z5)
  else (
  qBC.l0 a0 a1 k (w64 (z5 + 1))))
  else (
  some (-1))
def qBC.f (a0 : List Int) (a1 : Int) : Option Int :=
 qBC.l0 a0 a1 (((lenI a0) - 0).toNat + 1) 0
def qzC.f (a0 : List Int) (a1 : Int) : Option Bool :=
 (qBC.f a0 a1).bind fun r1 =>
 some (decide (0 ≤ r1))
def strconv_Itoa.f (a0 : Int) : Option ByteArray := itoaO a0
def qsF.f (a0 : Int) : Option ByteArray :=
 (strconv_Itoa.f a0).bind fun r1 =>
 some r1
def qiD.f (a0 : ByteArray) : Option Bool :=
 some (Ls.sc .neq a0 a0)
def qvD.f (a0 : ByteArray) (a1 : ByteArray) : Option Bool :=
 (qiD.f a0).bind fun r1 =>
 (gd r1 (qiD.f a1)).bind fun r2 =>
 some (bo3 (bo3 r1 (bo3 r2 false true) false) true (Ls.sc .lss a0 a1))
def qMC.f (a0 : ByteArray) : Option Bool :=
 some (Ls.sc .neq a0 a0)
def qk.l0 (a0 : List ByteArray) (a1 : ByteArray) (K2 : Int → Option (Int × Bool)) : Nat → Int → Int → Option (Int × Bool)
 | 0, _, _ => none
 | k + 1, z8, z9 =>
  bif (decide (z8 < z9)) then (
  (getO a0 (w64 (Ls.ar .shr .u64 (IntKind.wrap .u64 (w64 (z8 + z9))) 1))).bind fun x11 =>
  (qvD.f x11 a1).bind fun r12 =>
  bif r12 then (
  qk.l0 a0 a1 K2 k (w64 ((w64 (Ls.ar .shr .u64 (IntKind.wrap .u64 (w64 (z8 + z9))) 1)) + 1)) z9)
  else (
  qk.l0 a0 a1 K2 k z8 (w64 (Ls.ar .shr .u64 (IntKind.wrap .u64 (w64 (z8 + z9))) 1))))
  else (
  K2 z8)
def qk.f (a0 : List ByteArray) (a1 : ByteArray) : Option (Int × Bool) :=
 joinK (fun (y1 : Int) =>
 (gd (decide (y1 < (lenI a0))) (getO a0 y1)).bind fun x14 =>
 (gd (bo3 (decide (y1 < (lenI a0))) (bo3 (Ls.sc .eql x14 a1) false true) false) (getO a0 y1)).bind fun x15 =>
 (gd (bo3 (decide (y1 < (lenI a0))) (bo3 (Ls.sc .eql x14 a1) false true) false) (qMC.f x15)).bind fun r16 =>
 (gd (bo3 (bo3 (decide (y1 < (lenI a0))) (bo3 (Ls.sc .eql x14 a1) false true) false) r16 false) (qMC.f a1)).bind fun r17 =>
 some (y1, (bo3 (decide (y1 < (lenI a0))) (bo3 (Ls.sc .eql x14 a1) true (bo3 r16 r17 false)) false))) (fun K2 =>
 qk.l0 a0 a1 K2 (((lenI a0) - 0).toNat + 1) 0 (lenI a0))
def qSD.f (a0 : List ByteArray) (a1 : Int) (a2 : List ByteArray) : Option (List ByteArray) := insO 16 a0 a1 a2
def qsC.f (a0 : List Json) (a1 : Int) (a2 : List Json) : Option (List Json) := insO 80 a0 a1 a2
def qwC.l0 (a0 : List ByteArray) (a1 : List Int) : Nat → (List Json) → (List ByteArray) → Int → Option Json
 | 0, _, _, _ => none
 | k + 1, z23, z24, z25 =>
  bif (decide (z25 < (lenI a0))) then (
  (getO a0 z25).bind fun x27 =>
  (qk.f z24 x27).bind fun r28 =>
  (some [x27]).bind fun l29 =>
  (qSD.f z24 r28.1 l29).bind fun r30 =>
  (getO a1 z25).bind fun x31 =>
  (some [(Json.mk 2 x31 ByteArray.empty [] [])]).bind fun l32 =>
  (qsC.f z23 r28.1 l32).bind fun r33 =>
  qwC.l0 a0 a1 k r33 r30 (w64 (z25 + 1)))
  else (
  some (Json.mk 5 0 ByteArray.empty z23 z24))
def qwC.f (a0 : List ByteArray) (a1 : List Int) : Option Json :=
 qwC.l0 a0 a1 (((lenI a0) - 0).toNat + 1) [] [] 0
def qoC.l0 (a0 : ByteArray) : Nat → Int → Int → Option Bool
 | 0, _, _ => none
 | k + 1, z4, z5 =>
  bif (decide (z5 < z4)) then (
  (inS a0 z5).bind fun u7 =>
  (qlB.f (w64 (Ls.sx a0 z5)) 32 126).bind fun r8 =>
  bif (bo3 r8 false true) then (
  some false)
  else (
  qoC.l0 a0 k z4 (w64 (z5 + 1))))
  else (
  some (decide ((Ls.sl a0) ≤ 60)))
def qoC.f (a0 : ByteArray) : Option Bool :=
 qoC.l0 a0 (((Ls.sl a0) - 0).toNat + 1) (Ls.sl a0) 0
def qWC.l0 (a0 : List ByteArray) : Nat → Int → Option Bool
 | 0, _ => none
 | k + 1, z5 =>
  bif (decide (z5 < (lenI a0))) then (
  (getO a0 z5).bind fun x7 =>
  (qoC.f x7).bind fun r8 =>
  (gd (bo3 (bo3 (bo3 r8 false true) false true) (decide (0 < z5)) false) (getO a0 (w64 (z5 - 1)))).bind fun x9 =>
  bif (bo3 (bo3 r8 false true) true (bo3 (decide (0 < z5)) (Ls.sc .geq x9 x7) false)) then (
  some false)
  else (
  qWC.l0 a0 k (w64 (z5 + 1))))
  else (
  some true)
def qWC.f (a0 : List ByteArray) : Option Bool :=
 qWC.l0 a0 (((lenI a0) - 0).toNat + 1) 0
def qBF.f (a0 : Int) : Option Bool :=
 (qlB.f a0 (-1000000000) 1000000000).bind fun r1 =>
 some r1
def qyG.f (a0 : Json) : Option Bool :=
 bif (bo3 (bo3 (bo3 (decide (0 < (lenI a0.List_))) (decide (a0.Kind ≠ 4)) false) (decide (a0.Kind ≠ 5)) false) true (bo3 (decide (0 < (lenI a0.Names))) (decide (a0.Kind ≠ 5)) false)) then (
 some false)
 else (
 bif (bo3 (bo3 (bo3 (decide (a0.N ≠ 0)) (decide (a0.Kind ≠ 1)) false) (decide (a0.Kind ≠ 2)) false) true (bo3 (Ls.sc .neq a0.S (ByteArray.mk #[])) (decide (a0.Kind ≠ 3)) false)) then (
 some false)
 else (
 bif (decide (a0.Kind = 1)) then (
 (qlB.f a0.N 0 1).bind fun r49 =>
 some r49)
 else (
 bif (decide (a0.Kind = 2)) then (
 (qBF.f a0.N).bind fun r51 =>
 some r51)
 else (
 bif (decide (a0.Kind = 3)) then (
 (qoC.f a0.S).bind fun r53 =>
 some r53)
 else (
 bif (decide (a0.Kind = 5)) then (
 (gd (decide ((lenI a0.Names) = (lenI a0.List_))) (qWC.f a0.Names)).bind fun r55 =>
 some (bo3 (decide ((lenI a0.Names) = (lenI a0.List_))) r55 false))
 else (
 some (bo3 (decide (a0.Kind = 0)) true (decide (a0.Kind = 4)))))))))
def qhB.l0 (a0 : Json) (a1 : Int) (self : Json → Int → Option Int) : Nat → Int → Int → Option Int
 | 0, _, _ => none
 | k + 1, z13, z14 =>
  bif (decide (z14 < (lenI a0.List_))) then (
  (getO a0.List_ z14).bind fun x16 =>
  (self x16 (w64 (a1 - 1))).bind fun r17 =>
  bif (decide (400 < (w64 (z13 + r17)))) then (
  some 401)
  else (
  qhB.l0 a0 a1 self k (w64 (z13 + r17)) (w64 (z14 + 1))))
  else (
  some z13)
def qhB.b (self : Json → Int → Option Int) (a0 : Json) (a1 : Int) : Option Int :=
 (gd (bo3 (decide (a1 < 1)) false true) (qyG.f a0)).bind fun r1 =>
 bif (bo3 (decide (a1 < 1)) true (bo3 r1 false true)) then (
 some 401)
 else (
 qhB.l0 a0 a1 self (((lenI a0.List_) - 0).toNat + 1) 1 0)
def qhB.g : Nat → Json → Int → Option Int
 | 0 => fun _ _ => none
 | k + 1 => qhB.b (qhB.g k)
def qhB.f (a0 : Json) (a1 : Int) : Option Int := qhB.g 20 a0 a1
def qtF.f (a0 : Json) : Option Bool :=
 (qhB.f a0 6).bind fun r1 =>
 some (decide (r1 ≤ 400))
def qbE.f (a0 : Json) : Option Json :=
 (qtF.f a0).bind fun r1 =>
 bif (bo3 r1 false true) then (
 some (Json.mk 0 0 ByteArray.empty [] []))
 else (
 some a0)
def qfC.l0 (a0 : Query) (a1 : Row) (K5 : (List ByteArray) → (List Int) → Option Json) : Nat → (List ByteArray) → (List Int) → Int → Option Json
 | 0, _, _, _ => none
 | k + 1, z26, z27, z28 =>
  bif (decide (z28 < (lenI a0.Show))) then (
  (getO a0.Show z28).bind fun x30 =>
  (cutO a0.Show 0 z28).bind fun l31 =>
  (qzC.f l31 x30).bind fun r32 =>
  bif r32 then (
  qfC.l0 a0 a1 K5 k z26 z27 (w64 (z28 + 1)))
  else (
  (qsF.f x30).bind fun r34 =>
  (smO (ByteArray.mk #[99]) r34).bind fun u35 =>
  (some [(Ls.sa (ByteArray.mk #[99]) r34)]).bind fun l36 =>
  (appO 16 z26 l36).bind fun l37 =>
  (qaE.f a1 x30).bind fun r38 =>
  (some [r38]).bind fun l39 =>
  (appO 8 z27 l39).bind fun l40 =>
  qfC.l0 a0 a1 K5 k l37 l40 (w64 (z28 + 1))))
  else (
  K5 z26 z27)
def qfC.f (a0 : Query) (a1 : Row) (a2 : Int) : Option Json :=
 (some [(ByteArray.mk #[105, 100])]).bind fun l1 =>
 (some [a1.Id]).bind fun l2 =>
 joinK (fun (y3 : List ByteArray) (y4 : List Int) =>
 joinK (fun (y41 : List ByteArray) (y42 : List Int) =>
 (qwC.f y41 y42).bind fun r49 =>
 (qbE.f r49).bind fun r50 =>
 some r50) (fun K43 =>
 bif a0.Kids then (
 (some [(ByteArray.mk #[107, 105, 100, 115])]).bind fun l45 =>
 (appO 16 y3 l45).bind fun l46 =>
 (some [a2]).bind fun l47 =>
 (appO 8 y4 l47).bind fun l48 =>
 K43 l46 l48)
 else (
 K43 y3 y4))) (fun K5 =>
 qfC.l0 a0 a1 K5 (((lenI a0.Show) - 0).toNat + 1) l1 l2 0)
def qjC.l0 (a0 : Query) (a2 : List Int) (l2 : List Row) : Nat → (List Json) → Int → Option ((List Json))
 | 0, _, _ => none
 | k + 1, z17, z18 =>
  bif (decide (z18 < (lenI l2))) then (
  (getO l2 z18).bind fun x20 =>
  joinK (fun (y21 : Int) =>
  (qfC.f a0 x20 y21).bind fun r25 =>
  (some [r25]).bind fun l26 =>
  (appO 80 z17 l26).bind fun l27 =>
  qjC.l0 a0 a2 l2 k l27 (w64 (z18 + 1))) (fun K22 =>
  bif (decide (z18 < (lenI a2))) then (
  (getO a2 z18).bind fun x24 =>
  K22 x24)
  else (
  K22 0)))
  else (
  some z17)
def qjC.f (a0 : Query) (a1 : List Row) (a2 : List Int) : Option ((List Json)) :=
 (qTF.f a0 (lenI a1)).bind fun r1 =>
 (cutO a1 0 r1).bind fun l2 =>
 qjC.l0 a0 a2 l2 (((lenI l2) - 0).toNat + 1) [] 0
def qSG.f (a0 : Json) : Option Bool :=
 some (decide (a0.Kind = 0))
def qd.l0 (a0 : List Json) : Nat → Int → Option Int
 | 0, _ => none
 | k + 1, z4 =>
  bif (decide (z4 < (lenI a0))) then (
  (getO a0 z4).bind fun x6 =>
  (qSG.f x6).bind fun r7 =>
  bif r7 then (
  some z4)
  else (
  qd.l0 a0 k (w64 (z4 + 1))))
  else (
  some (-1))
def qd.f (a0 : List Json) : Option Int :=
 qd.l0 a0 (((lenI a0) - 0).toNat + 1) 0
def qNB.f (a0 : List Json) : Option Bool :=
 (qd.f a0).bind fun r1 =>
 some (decide (0 ≤ r1))
def qCF.f (a0 : Query) (a1 : List Row) (a2 : List Int) : Option Json :=
 (qjC.f a0 a1 a2).bind fun r1 =>
 (qNB.f r1).bind fun r2 =>
 bif r2 then (
 some (Json.mk 0 0 ByteArray.empty [] []))
 else (
 (some [(ByteArray.mk #[99, 111, 117, 110, 116]), (ByteArray.mk #[114, 111, 119, 115])]).bind fun l4 =>
 (some [(Json.mk 2 (lenI a1) ByteArray.empty [] []), (Json.mk 4 0 ByteArray.empty r1 [])]).bind fun l5 =>
 (qbE.f (Json.mk 5 0 ByteArray.empty l5 l4)).bind fun r6 =>
 some r6)
def qqB.l0 (a0 : Schema) (K2 : Unit → Option Bool) : Nat → Int → Option Bool
 | 0, _ => none
 | k + 1, z7 =>
  bif (decide (z7 < (lenI a0.Cols))) then (
  (getO a0.Cols z7).bind fun x9 =>
  (qlB.f x9 1 4).bind fun r10 =>
  bif (bo3 r10 false true) then (
  some false)
  else (
  qqB.l0 a0 K2 k (w64 (z7 + 1))))
  else (
  K2 ())
def qqB.f (a0 : Schema) : Option Bool :=
 joinK (fun (y1 : Unit) =>
 (qlB.f (lenI a0.Cols) 1 3).bind fun r12 =>
 some r12) (fun K2 =>
 qqB.l0 a0 K2 (((lenI a0.Cols) - 0).toNat + 1) 0)
def qnD.f (a0 : Int) : Option Bool :=
 (qlB.f a0 0 100000).bind fun r1 =>
 some r1
def qMD.f (a0 : Schema) (a1 : Int) : Option Bool :=
 (qlB.f a1 0 (w64 ((lenI a0.Cols) - 1))).bind fun r1 =>
 some r1
def qKD.l0 (a2 : Row) (K2 : Unit → Option Bool) : Nat → Int → Option Bool
 | 0, _ => none
 | k + 1, z10 =>
  bif (decide (z10 < (lenI a2.Cells))) then (
  (getO a2.Cells z10).bind fun x12 =>
  (qBF.f x12).bind fun r13 =>
  bif (bo3 r13 false true) then (
  some false)
  else (
  qKD.l0 a2 K2 k (w64 (z10 + 1))))
  else (
  K2 ())
def qKD.f (a0 : Schema) (a1 : Int) (a2 : Row) : Option Bool :=
 joinK (fun (y1 : Unit) =>
 (qqB.f a0).bind fun r15 =>
 (gd r15 (qMD.f a0 a1)).bind fun r16 =>
 (gd (bo3 r15 r16 false) (getO a0.Cols a1)).bind fun x17 =>
 (gd (bo3 (bo3 r15 r16 false) (decide ((lenI a2.Cells) = x17)) false) (qlB.f a2.Id 1 999)).bind fun r18 =>
 some (bo3 (bo3 (bo3 r15 r16 false) (decide ((lenI a2.Cells) = x17)) false) r18 false)) (fun K2 =>
 qKD.l0 a2 K2 (((lenI a2.Cells) - 0).toNat + 1) 0)
def qpC.l0 (a0 : Schema) (a1 : Int) (a2 : List Row) (K2 : Unit → Option Bool) : Nat → Int → Option Bool
 | 0, _ => none
 | k + 1, z9 =>
  bif (decide (z9 < (lenI a2))) then (
  (getO a2 z9).bind fun x11 =>
  (qKD.f a0 a1 x11).bind fun r12 =>
  (gd (bo3 (bo3 (bo3 r12 false true) false true) (decide (0 < z9)) false) (getO a2 (w64 (z9 - 1)))).bind fun x13 =>
  bif (bo3 (bo3 r12 false true) true (bo3 (decide (0 < z9)) (decide (x11.Id ≤ x13.Id)) false)) then (
  some false)
  else (
  qpC.l0 a0 a1 a2 K2 k (w64 (z9 + 1))))
  else (
  K2 ())
def qpC.f (a0 : Schema) (a1 : Int) (a2 : List Row) : Option Bool :=
 joinK (fun (y1 : Unit) =>
 (qqB.f a0).bind fun r32 =>
 (gd r32 (qMD.f a0 a1)).bind fun r33 =>
 some (bo3 (bo3 r32 r33 false) (decide ((lenI a2) ≤ 24)) false)) (fun K2 =>
 qpC.l0 a0 a1 a2 K2 (((lenI a2) - 0).toNat + 1) 0)
def qJC.l0 (a0 : Store) : Nat → Int → Option Bool
 | 0, _ => none
 | k + 1, z26 =>
  bif (decide (z26 < (lenI a0.Tables))) then (
  (getO a0.Tables z26).bind fun x28 =>
  (qpC.f a0.Schema z26 x28).bind fun r29 =>
  bif (bo3 r29 false true) then (
  some false)
  else (
  qJC.l0 a0 k (w64 (z26 + 1))))
  else (
  some true)
def qJC.f (a0 : Store) : Option Bool :=
 (qqB.f a0.Schema).bind fun r1 =>
 (gd (bo3 (bo3 r1 false true) false true) (qnD.f a0.Version)).bind fun r2 =>
 bif (bo3 (bo3 (bo3 r1 false true) true (bo3 r2 false true)) true (decide ((lenI a0.Tables) ≠ (lenI a0.Schema.Cols)))) then (
 some false)
 else (
 qJC.l0 a0 (((lenI a0.Tables) - 0).toNat + 1) 0)
def qUF.f (a0 : Schema) (a1 : Query) : Option Bool :=
 bif (bo3 a1.Kids false true) then (
 some (bo3 (decide (a1.KidTable = 0)) (decide (a1.KidCol = 0)) false))
 else (
 (qMD.f a0 a1.KidTable).bind fun r7 =>
 (gd r7 (getO a0.Cols a1.KidTable)).bind fun x8 =>
 (gd r7 (qlB.f a1.KidCol 0 (w64 (x8 - 1)))).bind fun r9 =>
 some (bo3 r7 r9 false))
def qZB.l0 (a1 : Query) (x11 : Int) (K13 : Unit → Option Bool) : Nat → Int → Option Bool
 | 0, _ => none
 | k + 1, z28 =>
  bif (decide (z28 < (lenI a1.Where))) then (
  (getO a1.Where z28).bind fun x30 =>
  (qlB.f x30.Col 0 (w64 (x11 - 1))).bind fun r31 =>
  (gd (bo3 (bo3 r31 false true) false true) (qlB.f x30.Op 1 4)).bind fun r32 =>
  (gd (bo3 (bo3 (bo3 r31 false true) true (bo3 r32 false true)) false true) (qBF.f x30.V)).bind fun r33 =>
  bif (bo3 (bo3 (bo3 r31 false true) true (bo3 r32 false true)) true (bo3 r33 false true)) then (
  some false)
  else (
  qZB.l0 a1 x11 K13 k (w64 (z28 + 1))))
  else (
  K13 ())
def qZB.l1 (a1 : Query) (x11 : Int) (K48 : Unit → Option Bool) : Nat → Int → Option Bool
 | 0, _ => none
 | k + 1, z63 =>
  bif (decide (z63 < (lenI a1.Show))) then (
  (getO a1.Show z63).bind fun x65 =>
  (qlB.f x65 0 (w64 (x11 - 1))).bind fun r66 =>
  (gd (bo3 (bo3 (bo3 r66 false true) false true) (decide (0 < z63)) false) (getO a1.Show (w64 (z63 - 1)))).bind fun x67 =>
  bif (bo3 (bo3 r66 false true) true (bo3 (decide (0 < z63)) (decide (x65 ≤ x67)) false)) then (
  some false)
  else (
  qZB.l1 a1 x11 K48 k (w64 (z63 + 1))))
  else (
  K48 ())
def qZB.f (a0 : Schema) (a1 : Query) : Option Bool :=
 (qqB.f a0).bind fun r1 =>
 (gd (bo3 (bo3 r1 false true) false true) (qMD.f a0 a1.Table)).bind fun r2 =>
 bif (bo3 (bo3 r1 false true) true (bo3 r2 false true)) then (
 some false)
 else (
 (getO a0.Cols a1.Table).bind fun x11 =>
 joinK (fun (y12 : Unit) =>
 joinK (fun (y47 : Unit) =>
 (qlB.f a1.Order 0 x11).bind fun r85 =>
 (gd (bo3 (decide ((lenI a1.Where) ≤ 3)) (bo3 r85 (bo3 (bo3 a1.Down false true) true (decide (0 < a1.Order))) false) false) (qlB.f a1.First 0 24)).bind fun r98 =>
 (gd (bo3 (bo3 (decide ((lenI a1.Where) ≤ 3)) (bo3 r85 (bo3 (bo3 a1.Down false true) true (decide (0 < a1.Order))) false) false) r98 false) (qUF.f a0 a1)).bind fun r99 =>
 some (bo3 (bo3 (bo3 (decide ((lenI a1.Where) ≤ 3)) (bo3 r85 (bo3 (bo3 a1.Down false true) true (decide (0 < a1.Order))) false) false) r98 false) r99 false)) (fun K48 =>
 qZB.l1 a1 x11 K48 (((lenI a1.Show) - 0).toNat + 1) 0)) (fun K13 =>
 qZB.l0 a1 x11 K13 (((lenI a1.Where) - 0).toNat + 1) 0))
def qzG.f (a0 : Cond) (a1 : Row) : Option Bool :=
 (qlB.f a0.Col 0 (w64 ((lenI a1.Cells) - 1))).bind fun r1 =>
 bif (bo3 r1 false true) then (
 some false)
 else (
 (getO a1.Cells a0.Col).bind fun x3 =>
 bif (decide (a0.Op = 1)) then (
 some (decide (x3 = a0.V)))
 else (
 bif (decide (a0.Op = 2)) then (
 some (decide (x3 < a0.V)))
 else (
 bif (decide (a0.Op = 3)) then (
 some (decide (a0.V < x3)))
 else (
 some (bo3 (decide (a0.Op = 4)) (decide (x3 ≠ a0.V)) false)))))
def qXC.l0 (a0 : Query) (a1 : Row) : Nat → Int → Option Bool
 | 0, _ => none
 | k + 1, z6 =>
  bif (decide (z6 < (lenI a0.Where))) then (
  (getO a0.Where z6).bind fun x8 =>
  (qzG.f x8 a1).bind fun r9 =>
  bif (bo3 r9 false true) then (
  some false)
  else (
  qXC.l0 a0 a1 k (w64 (z6 + 1))))
  else (
  some true)
def qXC.f (a0 : Query) (a1 : Row) : Option Bool :=
 qXC.l0 a0 a1 (((lenI a0.Where) - 0).toNat + 1) 0
def qrE.f (a0 : List Int) : Option ((List Int)) :=
 (appO 8 [] a0).bind fun l1 =>
 some l1
def qVF.f (a0 : Row) : Option Row :=
 (qrE.f a0.Cells).bind fun r1 =>
 some (Row.mk a0.Id r1)
def qAH.f (a0 : Query) (a1 : Row) (a2 : Row) : Option Bool :=
 bif (decide (a0.Order = 0)) then (
 some (decide (a1.Id < a2.Id)))
 else (
 (qaE.f a1 (w64 (a0.Order - 1))).bind fun r2 =>
 (qaE.f a2 (w64 (a0.Order - 1))).bind fun r3 =>
 bif (decide (r2 = r3)) then (
 some (decide (a1.Id < a2.Id)))
 else (
 bif a0.Down then (
 some (decide (r3 < r2)))
 else (
 some (decide (r2 < r3)))))
def qtC.f (a0 : Row) (a1 : Row) (a2 : Query) : Option Int :=
 (qAH.f a2 a0 a1).bind fun r1 =>
 bif r1 then (
 some (-1))
 else (
 some 1)
def qD.l1 (a1 : Int) (a3c0 : Query) (K18 : (List Row) → Option ((List Row))) : Nat → (List Row) → Int → Option ((List Row))
 | 0, _, _ => none
 | k + 1, z33, z34 =>
  (gd (decide (a1 < z34)) (getO z33 z34)).bind fun x35 =>
  (gd (decide (a1 < z34)) (getO z33 (w64 (z34 - 1)))).bind fun x36 =>
  (gd (decide (a1 < z34)) (qtC.f x35 x36 a3c0)).bind fun r37 =>
  bif (bo3 (decide (a1 < z34)) (decide (r37 < 0)) false) then (
  (getO z33 (w64 (z34 - 1))).bind fun x53 =>
  (getO z33 z34).bind fun x54 =>
  (neO (w64 (z34 - 1)) z34).bind fun u55 =>
  (some (setI (setI z33 z34 x53) (w64 (z34 - 1)) x54)).bind fun l56 =>
  qD.l1 a1 a3c0 K18 k l56 (w64 (z34 - 1)))
  else (
  K18 z33)
def qD.l0 (a1 : Int) (a2 : Int) (a3c0 : Query) : Nat → (List Row) → Int → Option ((List Row))
 | 0, _, _ => none
 | k + 1, z14, z15 =>
  bif (decide (z15 < a2)) then (
  joinK (fun (y17 : List Row) =>
  qD.l0 a1 a2 a3c0 k y17 (w64 (z15 + 1))) (fun K18 =>
  qD.l1 a1 a3c0 K18 ((z15 - a1).toNat + 1) z14 z15))
  else (
  some z14)
def qD.f (a0 : List Row) (a1 : Int) (a2 : Int) (a3c0 : Query) : Option ((List Row)) :=
 qD.l0 a1 a2 a3c0 ((a2 - (w64 (a1 + 1))).toNat + 1) a0 (w64 (a1 + 1))
def qI.l0 (a1 : Int) (a2 : Int) (a3 : Int) : Nat → (List Row) → Int → Option ((List Row))
 | 0, _, _ => none
 | k + 1, z6, z7 =>
  bif (decide (z7 < a3)) then (
  (getO z6 (w64 (a2 + z7))).bind fun x9 =>
  (getO z6 (w64 (a1 + z7))).bind fun x10 =>
  (neO (w64 (a2 + z7)) (w64 (a1 + z7))).bind fun u11 =>
  (some (setI (setI z6 (w64 (a1 + z7)) x9) (w64 (a2 + z7)) x10)).bind fun l12 =>
  qI.l0 a1 a2 a3 k l12 (w64 (z7 + 1)))
  else (
  some z6)
def qI.f (a0 : List Row) (a1 : Int) (a2 : Int) (a3 : Int) (a4c0 : Query) : Option ((List Row)) :=
 qI.l0 a1 a2 a3 ((a3 - 0).toNat + 1) a0 0
def qL.l0 (a2 : Int) (a4c0 : Query) (K3 : (List Row) → Int → Option ((List Row))) : Nat → (List Row) → Int → Int → Option ((List Row))
 | 0, _, _, _ => none
 | k + 1, z17, z18, z19 =>
  bif (decide (z18 ≠ z19)) then (
  bif (decide (z19 < z18)) then (
  (qI.f z17 (w64 (a2 - z18)) a2 z19 a4c0).bind fun r22 =>
  qL.l0 a2 a4c0 K3 k r22 (w64 (z18 - z19)) z19)
  else (
  (qI.f z17 (w64 (a2 - z18)) (w64 ((w64 (a2 + z19)) - z18)) z18 a4c0).bind fun r23 =>
  qL.l0 a2 a4c0 K3 k r23 z18 (w64 (z19 - z18))))
  else (
  K3 z17 z18)
def qL.f (a0 : List Row) (a1 : Int) (a2 : Int) (a3 : Int) (a4c0 : Query) : Option ((List Row)) :=
 joinK (fun (y1 : List Row) (y2 : Int) =>
 (qI.f y1 (w64 (a2 - y2)) a2 y2 a4c0).bind fun r24 =>
 some r24) (fun K3 =>
 qL.l0 a2 a4c0 K3 1000 a0 (w64 (a2 - a1)) (w64 (a3 - a2)))
def qA.l0 (a0 : List Row) (a1 : Int) (a4c0 : Query) (K5 : Int → Option ((List Row))) : Nat → Int → Int → Option ((List Row))
 | 0, _, _ => none
 | k + 1, z19, z20 =>
  bif (decide (z19 < z20)) then (
  (getO a0 (w64 (Ls.ar .shr .u64 (IntKind.wrap .u64 (w64 (z19 + z20))) 1))).bind fun x22 =>
  (getO a0 a1).bind fun x23 =>
  (qtC.f x22 x23 a4c0).bind fun r24 =>
  bif (decide (r24 < 0)) then (
  qA.l0 a0 a1 a4c0 K5 k (w64 ((w64 (Ls.ar .shr .u64 (IntKind.wrap .u64 (w64 (z19 + z20))) 1)) + 1)) z20)
  else (
  qA.l0 a0 a1 a4c0 K5 k z19 (w64 (Ls.ar .shr .u64 (IntKind.wrap .u64 (w64 (z19 + z20))) 1))))
  else (
  K5 z19)
def qA.l1 (y4 : Int) : Nat → (List Row) → Int → Option ((List Row))
 | 0, _, _ => none
 | k + 1, z29, z30 =>
  bif (decide (z30 < (w64 (y4 - 1)))) then (
  (getO z29 (w64 (z30 + 1))).bind fun x32 =>
  (getO z29 z30).bind fun x33 =>
  (neO (w64 (z30 + 1)) z30).bind fun u34 =>
  (some (setI (setI z29 z30 x32) (w64 (z30 + 1)) x33)).bind fun l35 =>
  qA.l1 y4 k l35 (w64 (z30 + 1)))
  else (
  some z29)
def qA.l2 (a0 : List Row) (a2 : Int) (a4c0 : Query) (K40 : Int → Option ((List Row))) : Nat → Int → Int → Option ((List Row))
 | 0, _, _ => none
 | k + 1, z54, z55 =>
  bif (decide (z54 < z55)) then (
  (getO a0 a2).bind fun x57 =>
  (getO a0 (w64 (Ls.ar .shr .u64 (IntKind.wrap .u64 (w64 (z54 + z55))) 1))).bind fun x58 =>
  (qtC.f x57 x58 a4c0).bind fun r59 =>
  bif (bo3 (decide (r59 < 0)) false true) then (
  qA.l2 a0 a2 a4c0 K40 k (w64 ((w64 (Ls.ar .shr .u64 (IntKind.wrap .u64 (w64 (z54 + z55))) 1)) + 1)) z55)
  else (
  qA.l2 a0 a2 a4c0 K40 k z54 (w64 (Ls.ar .shr .u64 (IntKind.wrap .u64 (w64 (z54 + z55))) 1))))
  else (
  K40 z54)
def qA.l3 (y39 : Int) : Nat → (List Row) → Int → Option ((List Row))
 | 0, _, _ => none
 | k + 1, z64, z65 =>
  bif (decide (y39 < z65)) then (
  (getO z64 (w64 (z65 - 1))).bind fun x67 =>
  (getO z64 z65).bind fun x68 =>
  (neO (w64 (z65 - 1)) z65).bind fun u69 =>
  (some (setI (setI z64 z65 x67) (w64 (z65 - 1)) x68)).bind fun l70 =>
  qA.l3 y39 k l70 (w64 (z65 - 1)))
  else (
  some z64)
def qA.l4 (a0 : List Row) (a4c0 : Query) (K78 : Int → Option ((List Row))) : Nat → Int → Int → Int → Option ((List Row))
 | 0, _, _, _ => none
 | k + 1, z97, z98, z99 =>
  bif (decide (z97 < z98)) then (
  (getO a0 (w64 (z99 - (w64 (Ls.ar .shr .u64 (IntKind.wrap .u64 (w64 (z97 + z98))) 1))))).bind fun x101 =>
  (getO a0 (w64 (Ls.ar .shr .u64 (IntKind.wrap .u64 (w64 (z97 + z98))) 1))).bind fun x102 =>
  (qtC.f x101 x102 a4c0).bind fun r103 =>
  bif (bo3 (decide (r103 < 0)) false true) then (
  qA.l4 a0 a4c0 K78 k (w64 ((w64 (Ls.ar .shr .u64 (IntKind.wrap .u64 (w64 (z97 + z98))) 1)) + 1)) z98 z99)
  else (
  qA.l4 a0 a4c0 K78 k z97 (w64 (Ls.ar .shr .u64 (IntKind.wrap .u64 (w64 (z97 + z98))) 1)) z99))
  else (
  K78 z97)
def qA.b (self : (List Row) → Int → Int → Int → Query → Option ((List Row))) (a0 : List Row) (a1 : Int) (a2 : Int) (a3 : Int) (a4c0 : Query) : Option ((List Row)) :=
 joinK (fun (y1 : Unit) =>
 joinK (fun (y36 : Unit) =>
 joinK (fun (y71 : Int) (y72 : Int) (y73 : Int) (y74 : Int) =>
 joinK (fun (y77 : Int) =>
 joinK (fun (y105 : List Row) (y106 : Int) =>
 joinK (fun (y115 : List Row) =>
 bif (bo3 (decide (y71 < y106)) (decide (y106 < a3)) false) then (
 (self y115 y71 y106 a3 a4c0).bind fun r130 =>
 some r130)
 else (
 some y115)) (fun K116 =>
 bif (bo3 (decide (a1 < y77)) (decide (y77 < y71)) false) then (
 (self y105 a1 y77 y71 a4c0).bind fun r123 =>
 K116 r123)
 else (
 K116 y105))) (fun K107 =>
 bif (bo3 (decide (y77 < a2)) (decide (a2 < (w64 (y72 - y77)))) false) then (
 (qL.f a0 y77 a2 (w64 (y72 - y77)) a4c0).bind fun r114 =>
 K107 r114 (w64 (y72 - y77)))
 else (
 K107 a0 (w64 (y72 - y77))))) (fun K78 =>
 qA.l4 a0 a4c0 K78 ((y74 - y73).toNat + 1) y73 y74 (w64 (y72 - 1)))) (fun K75 =>
 bif (decide ((w64 (Ls.ar .shr .u64 (IntKind.wrap .u64 (w64 (a1 + a3))) 1)) < a2)) then (
 K75 (w64 (Ls.ar .shr .u64 (IntKind.wrap .u64 (w64 (a1 + a3))) 1)) (w64 ((w64 (Ls.ar .shr .u64 (IntKind.wrap .u64 (w64 (a1 + a3))) 1)) + a2)) (w64 ((w64 ((w64 (Ls.ar .shr .u64 (IntKind.wrap .u64 (w64 (a1 + a3))) 1)) + a2)) - a3)) (w64 (Ls.ar .shr .u64 (IntKind.wrap .u64 (w64 (a1 + a3))) 1)))
 else (
 K75 (w64 (Ls.ar .shr .u64 (IntKind.wrap .u64 (w64 (a1 + a3))) 1)) (w64 ((w64 (Ls.ar .shr .u64 (IntKind.wrap .u64 (w64 (a1 + a3))) 1)) + a2)) a1 a2))) (fun K37 =>
 bif (decide ((w64 (a3 - a2)) = 1)) then (
 joinK (fun (y39 : Int) =>
 qA.l3 y39 ((a2 - y39).toNat + 1) a0 a2) (fun K40 =>
 qA.l2 a0 a2 a4c0 K40 ((a2 - a1).toNat + 1) a1 a2))
 else (
 K37 ()))) (fun K2 =>
 bif (decide ((w64 (a2 - a1)) = 1)) then (
 joinK (fun (y4 : Int) =>
 qA.l1 y4 (((w64 (y4 - 1)) - a1).toNat + 1) a0 a1) (fun K5 =>
 qA.l0 a0 a1 a4c0 K5 ((a3 - a2).toNat + 1) a2 a3))
 else (
 K2 ()))
def qA.g : Nat → (List Row) → Int → Int → Int → Query → Option ((List Row))
 | 0 => fun _ _ _ _ _ => none
 | k + 1 => qA.b (qA.g k)
def qA.f (a0 : List Row) (a1 : Int) (a2 : Int) (a3 : Int) (a4c0 : Query) : Option ((List Row)) := qA.g 1000 a0 a1 a2 a3 a4c0
def qC.l0 (a1 : Int) (a2c0 : Query) (K3 : (List Row) → Int → Option ((List Row))) : Nat → (List Row) → Int → Int → Option ((List Row))
 | 0, _, _, _ => none
 | k + 1, z18, z19, z20 =>
  bif (decide (z20 ≤ a1)) then (
  (qD.f z18 z19 z20 a2c0).bind fun r22 =>
  qC.l0 a1 a2c0 K3 k r22 z20 (w64 (z20 + 20)))
  else (
  K3 z18 z19)
def qC.l2 (a1 : Int) (a2c0 : Query) (z37 : Int) (K41 : (List Row) → Int → Option ((List Row))) : Nat → (List Row) → Int → Int → Option ((List Row))
 | 0, _, _, _ => none
 | k + 1, z56, z57, z58 =>
  bif (decide (z58 ≤ a1)) then (
  (qA.f z56 z57 (w64 (z57 + z37)) z58 a2c0).bind fun r60 =>
  qC.l2 a1 a2c0 z37 K41 k r60 z58 (w64 (z58 + (w64 (2 * z37)))))
  else (
  K41 z56 z57)
def qC.l1 (a1 : Int) (a2c0 : Query) : Nat → (List Row) → Int → Option ((List Row))
 | 0, _, _ => none
 | k + 1, z36, z37 =>
  bif (decide (z37 < a1)) then (
  joinK (fun (y39 : List Row) (y40 : Int) =>
  bif (decide ((w64 (y40 + z37)) < a1)) then (
  (qA.f y39 y40 (w64 (y40 + z37)) a1 a2c0).bind fun r62 =>
  qC.l1 a1 a2c0 k r62 (w64 (z37 * 2)))
  else (
  qC.l1 a1 a2c0 k y39 (w64 (z37 * 2)))) (fun K41 =>
  qC.l2 a1 a2c0 z37 K41 ((a1 - (w64 (2 * z37))).toNat + 2) z36 0 (w64 (2 * z37))))
  else (
  some z36)
def qC.f (a0 : List Row) (a1 : Int) (a2c0 : Query) : Option ((List Row)) :=
 joinK (fun (y1 : List Row) (y2 : Int) =>
 (qD.f y1 y2 a1 a2c0).bind fun r23 =>
 qC.l1 a1 a2c0 ((a1 - 20).toNat + 1) r23 20) (fun K3 =>
 qC.l0 a1 a2c0 K3 ((a1 - 20).toNat + 2) a0 0 20)
def qAB.f (a0 : List Row) (a1c0 : Query) : Option ((List Row)) :=
 (qC.f a0 (lenI a0) a1c0).bind fun r1 =>
 some r1
def qYC.l0 (a1 : Query) (x13 : List Row) (K12 : (List Row) → Option ((List Row))) : Nat → (List Row) → Int → Option ((List Row))
 | 0, _, _ => none
 | k + 1, z27, z28 =>
  bif (decide (z28 < (lenI x13))) then (
  (getO x13 z28).bind fun x30 =>
  (qXC.f a1 x30).bind fun r31 =>
  bif r31 then (
  (qVF.f x30).bind fun r33 =>
  (some [r33]).bind fun l34 =>
  (appO 32 z27 l34).bind fun l35 =>
  qYC.l0 a1 x13 K12 k l35 (w64 (z28 + 1)))
  else (
  qYC.l0 a1 x13 K12 k z27 (w64 (z28 + 1))))
  else (
  K12 z27)
def qYC.f (a0 : Store) (a1 : Query) : Option ((List Row)) :=
 (qJC.f a0).bind fun r1 =>
 (gd (bo3 (bo3 r1 false true) false true) (qZB.f a0.Schema a1)).bind fun r2 =>
 bif (bo3 (bo3 r1 false true) true (bo3 r2 false true)) then (
 some [])
 else (
 joinK (fun (y11 : List Row) =>
 (qAB.f y11 a1).bind fun r36 =>
 some r36) (fun K12 =>
 (getO a0.Tables a1.Table).bind fun x13 =>
 qYC.l0 a1 x13 K12 (((lenI x13) - 0).toNat + 1) [] 0))
def qgC.l0 (a1 : Query) (a2 : Int) (x16 : List Row) : Nat → Int → Int → Option Int
 | 0, _, _ => none
 | k + 1, z31, z32 =>
  bif (decide (z32 < (lenI x16))) then (
  (getO x16 z32).bind fun x34 =>
  (getO x34.Cells a1.KidCol).bind fun x35 =>
  bif (decide (x35 = a2)) then (
  qgC.l0 a1 a2 x16 k (w64 (z31 + 1)) (w64 (z32 + 1)))
  else (
  qgC.l0 a1 a2 x16 k z31 (w64 (z32 + 1))))
  else (
  some z31)
def qgC.f (a0 : Store) (a1 : Query) (a2 : Int) : Option Int :=
 (qJC.f a0).bind fun r1 =>
 (gd (bo3 (bo3 r1 false true) false true) (qZB.f a0.Schema a1)).bind fun r2 =>
 bif (bo3 (bo3 (bo3 r1 false true) true (bo3 r2 false true)) true (bo3 a1.Kids false true)) then (
 some 0)
 else (
 (getO a0.Tables a1.KidTable).bind fun x16 =>
 qgC.l0 a1 a2 x16 (((lenI x16) - 0).toNat + 1) 0 0)
def qND.l0 (a0 : Store) (a1 : Query) (r11 : (List Row)) (K13 : (List Int) → Option Json) : Nat → (List Int) → Int → Option Json
 | 0, _, _ => none
 | k + 1, z33, z34 =>
  bif (decide (z34 < (lenI r11))) then (
  (getO r11 z34).bind fun x36 =>
  (qgC.f a0 a1 x36.Id).bind fun r37 =>
  (some [r37]).bind fun l38 =>
  (appO 8 z33 l38).bind fun l39 =>
  qND.l0 a0 a1 r11 K13 k l39 (w64 (z34 + 1)))
  else (
  K13 z33)
def qND.f (a0 : Store) (a1 : Query) : Option Json :=
 (qJC.f a0).bind fun r1 =>
 (gd (bo3 (bo3 r1 false true) false true) (qZB.f a0.Schema a1)).bind fun r2 =>
 bif (bo3 (bo3 r1 false true) true (bo3 r2 false true)) then (
 some (Json.mk 0 0 ByteArray.empty [] []))
 else (
 (qYC.f a0 a1).bind fun r11 =>
 joinK (fun (y12 : List Int) =>
 (qCF.f a1 r11 y12).bind fun r40 =>
 some r40) (fun K13 =>
 qND.l0 a0 a1 r11 K13 (((lenI r11) - 0).toNat + 1) [] 0))
def qOC.l0 (a0 : List Int) (a1 : List Int) : Nat → Int → Option Bool
 | 0, _ => none
 | k + 1, z5 =>
  bif (decide (z5 < (lenI a0))) then (
  (getO a0 z5).bind fun x7 =>
  (getO a1 z5).bind fun x8 =>
  bif (decide (x7 ≠ x8)) then (
  some false)
  else (
  qOC.l0 a0 a1 k (w64 (z5 + 1))))
  else (
  some true)
def qOC.f (a0 : List Int) (a1 : List Int) : Option Bool :=
 bif (decide ((lenI a0) ≠ (lenI a1))) then (
 some false)
 else (
 qOC.l0 a0 a1 (((lenI a0) - 0).toNat + 1) 0)
def qsE.f (a0 : Schema) (a1 : Schema) : Option Bool :=
 (qOC.f a0.Cols a1.Cols).bind fun r1 =>
 bif (bo3 r1 false true) then (
 some false)
 else (
 some true)
def qBH.f (a0 : Row) (a1 : Row) : Option Bool :=
 bif (decide (a0.Id ≠ a1.Id)) then (
 some false)
 else (
 (qOC.f a0.Cells a1.Cells).bind fun r2 =>
 bif (bo3 r2 false true) then (
 some false)
 else (
 some true))
def qqC.l0 (a0 : List Row) (a1 : List Row) : Nat → Int → Option Bool
 | 0, _ => none
 | k + 1, z5 =>
  bif (decide (z5 < (lenI a0))) then (
  (getO a0 z5).bind fun x7 =>
  (getO a1 z5).bind fun x8 =>
  (qBH.f x7 x8).bind fun r9 =>
  bif (bo3 r9 false true) then (
  some false)
  else (
  qqC.l0 a0 a1 k (w64 (z5 + 1))))
  else (
  some true)
def qqC.f (a0 : List Row) (a1 : List Row) : Option Bool :=
 bif (decide ((lenI a0) ≠ (lenI a1))) then (
 some false)
 else (
 qqC.l0 a0 a1 (((lenI a0) - 0).toNat + 1) 0)
def qZC.l0 (a0 : List (List Row)) (a1 : List (List Row)) : Nat → Int → Option Bool
 | 0, _ => none
 | k + 1, z5 =>
  bif (decide (z5 < (lenI a0))) then (
  (getO a0 z5).bind fun x7 =>
  (getO a1 z5).bind fun x8 =>
  (qqC.f x7 x8).bind fun r9 =>
  bif (bo3 r9 false true) then (
  some false)
  else (
  qZC.l0 a0 a1 k (w64 (z5 + 1))))
  else (
  some true)
def qZC.f (a0 : List (List Row)) (a1 : List (List Row)) : Option Bool :=
 bif (decide ((lenI a0) ≠ (lenI a1))) then (
 some false)
 else (
 qZC.l0 a0 a1 (((lenI a0) - 0).toNat + 1) 0)
def qeE.f (a0 : Store) (a1 : Store) : Option Bool :=
 (qsE.f a0.Schema a1.Schema).bind fun r1 =>
 bif (bo3 r1 false true) then (
 some false)
 else (
 bif (decide (a0.Version ≠ a1.Version)) then (
 some false)
 else (
 (qZC.f a0.Tables a1.Tables).bind fun r4 =>
 bif (bo3 r4 false true) then (
 some false)
 else (
 some true)))
def quF.f (a0 : Cond) (a1 : Cond) : Option Bool :=
 bif (decide (a0.Col ≠ a1.Col)) then (
 some false)
 else (
 bif (decide (a0.Op ≠ a1.Op)) then (
 some false)
 else (
 bif (decide (a0.V ≠ a1.V)) then (
 some false)
 else (
 some true)))
def qaC.l0 (a0 : List Cond) (a1 : List Cond) : Nat → Int → Option Bool
 | 0, _ => none
 | k + 1, z5 =>
  bif (decide (z5 < (lenI a0))) then (
  (getO a0 z5).bind fun x7 =>
  (getO a1 z5).bind fun x8 =>
  (quF.f x7 x8).bind fun r9 =>
  bif (bo3 r9 false true) then (
  some false)
  else (
  qaC.l0 a0 a1 k (w64 (z5 + 1))))
  else (
  some true)
def qaC.f (a0 : List Cond) (a1 : List Cond) : Option Bool :=
 bif (decide ((lenI a0) ≠ (lenI a1))) then (
 some false)
 else (
 qaC.l0 a0 a1 (((lenI a0) - 0).toNat + 1) 0)
def qfE.f (a0 : Query) (a1 : Query) : Option Bool :=
 bif (decide (a0.Table ≠ a1.Table)) then (
 some false)
 else (
 (qaC.f a0.Where a1.Where).bind fun r2 =>
 bif (bo3 r2 false true) then (
 some false)
 else (
 bif (decide (a0.Order ≠ a1.Order)) then (
 some false)
 else (
 bif (bo3 a0.Down (bo3 a1.Down false true) a1.Down) then (
 some false)
 else (
 bif (decide (a0.First ≠ a1.First)) then (
 some false)
 else (
 (qOC.f a0.Show a1.Show).bind fun r7 =>
 bif (bo3 r7 false true) then (
 some false)
 else (
 bif (bo3 a0.Kids (bo3 a1.Kids false true) a1.Kids) then (
 some false)
 else (
 bif (decide (a0.KidTable ≠ a1.KidTable)) then (
 some false)
 else (
 bif (decide (a0.KidCol ≠ a1.KidCol)) then (
 some false)
 else (
 some true)))))))))
def qjB.l0  : Nat → (List Int) → Int → Int → Option ((List Int) × Int)
 | 0, _, _, _ => none
 | k + 1, z4, z5, z6 =>
  bif (decide (z6 < (lenI z4))) then (
  (getO z4 z6).bind fun x8 =>
  (some (setI z4 z6 z5)).bind fun l9 =>
  qjB.l0 k l9 (w64 (z5 + 1)) (w64 (z6 + 1)))
  else (
  some (z4, z5))
def qjB.f (a0 : List Int) (a1 : Int) : Option ((List Int) × Int) :=
 qjB.l0 (((lenI a0) - 0).toNat + 1) a0 a1 0
def qwD.f (a0 : Schema) (a1 : Int) : Option (Schema × Int) :=
 (qjB.f a0.Cols a1).bind fun r1 =>
 some ((Schema.mk r1.1), r1.2)
def qyB.l0  : Nat → (List Row) → Int → Int → Option ((List Row) × Int)
 | 0, _, _, _ => none
 | k + 1, z4, z5, z6 =>
  bif (decide (z6 < (lenI z4))) then (
  (getO z4 z6).bind fun x8 =>
  (some (setI z4 z6 (Row.mk z5 x8.Cells))).bind fun l9 =>
  (getO l9 z6).bind fun x10 =>
  (qjB.f x10.Cells (w64 (z5 + 1))).bind fun r11 =>
  (some (setI l9 z6 (Row.mk x10.Id r11.1))).bind fun l12 =>
  qyB.l0 k l12 r11.2 (w64 (z6 + 1)))
  else (
  some (z4, z5))
def qyB.f (a0 : List Row) (a1 : Int) : Option ((List Row) × Int) :=
 qyB.l0 (((lenI a0) - 0).toNat + 1) a0 a1 0
def qnB.l0  : Nat → (List (List Row)) → Int → Int → Option ((List (List Row)) × Int)
 | 0, _, _, _ => none
 | k + 1, z4, z5, z6 =>
  bif (decide (z6 < (lenI z4))) then (
  (getO z4 z6).bind fun x8 =>
  (qyB.f x8 z5).bind fun r9 =>
  (some (setI z4 z6 r9.1)).bind fun l10 =>
  qnB.l0 k l10 r9.2 (w64 (z6 + 1)))
  else (
  some (z4, z5))
def qnB.f (a0 : List (List Row)) (a1 : Int) : Option ((List (List Row)) × Int) :=
 qnB.l0 (((lenI a0) - 0).toNat + 1) a0 a1 0
def qNE.f (a0 : Store) (a1 : Int) : Option (Store × Int) :=
 (qwD.f a0.Schema a1).bind fun r1 =>
 (qnB.f a0.Tables r1.2).bind fun r2 =>
 some ((Store.mk r1.1 a0.Version r2.1), r2.2)
def qoB.l0  : Nat → (List Cond) → Int → Int → Option ((List Cond) × Int)
 | 0, _, _, _ => none
 | k + 1, z4, z5, z6 =>
  bif (decide (z6 < (lenI z4))) then (
  (getO z4 z6).bind fun x8 =>
  (some (setI z4 z6 (Cond.mk z5 x8.Op x8.V))).bind fun l9 =>
  (getO l9 z6).bind fun x10 =>
  (some (setI l9 z6 (Cond.mk x10.Col (w64 (z5 + 1)) x10.V))).bind fun l11 =>
  (getO l11 z6).bind fun x12 =>
  (some (setI l11 z6 (Cond.mk x12.Col x12.Op (w64 ((w64 (z5 + 1)) + 1))))).bind fun l13 =>
  qoB.l0 k l13 (w64 ((w64 ((w64 (z5 + 1)) + 1)) + 1)) (w64 (z6 + 1)))
  else (
  some (z4, z5))
def qoB.f (a0 : List Cond) (a1 : Int) : Option ((List Cond) × Int) :=
 qoB.l0 (((lenI a0) - 0).toNat + 1) a0 a1 0
def qOE.f (a0 : Query) (a1 : Int) : Option (Query × Int) :=
 (qoB.f a0.Where a1).bind fun r1 =>
 (qjB.f a0.Show r1.2).bind fun r2 =>
 some ((Query.mk a0.Table r1.1 a0.Order a0.Down a0.First r2.1 a0.Kids a0.KidTable a0.KidCol), r2.2)
def qbC.l0 (a0 : List Json) (a1 : List Json) (self : Json → Json → Option Bool) : Nat → Int → Option Bool
 | 0, _ => none
 | k + 1, z5 =>
  bif (decide (z5 < (lenI a0))) then (
  (getO a0 z5).bind fun x7 =>
  (getO a1 z5).bind fun x8 =>
  (self x7 x8).bind fun r9 =>
  bif (bo3 r9 false true) then (
  some false)
  else (
  qbC.l0 a0 a1 self k (w64 (z5 + 1))))
  else (
  some true)
def qbC.f (self : Json → Json → Option Bool) (a0 : List Json) (a1 : List Json) : Option Bool :=
 bif (decide ((lenI a0) ≠ (lenI a1))) then (
 some false)
 else (
 qbC.l0 a0 a1 self (((lenI a0) - 0).toNat + 1) 0)
def qCC.l0 (a0 : List ByteArray) (a1 : List ByteArray) : Nat → Int → Option Bool
 | 0, _ => none
 | k + 1, z5 =>
  bif (decide (z5 < (lenI a0))) then (
  (getO a0 z5).bind fun x7 =>
  (getO a1 z5).bind fun x8 =>
  bif (Ls.sc .neq x7 x8) then (
  some false)
  else (
  qCC.l0 a0 a1 k (w64 (z5 + 1))))
  else (
  some true)
def qCC.f (a0 : List ByteArray) (a1 : List ByteArray) : Option Bool :=
 bif (decide ((lenI a0) ≠ (lenI a1))) then (
 some false)
 else (
 qCC.l0 a0 a1 (((lenI a0) - 0).toNat + 1) 0)
def qwB.b (self : Json → Json → Option Bool) (a0 : Json) (a1 : Json) : Option Bool :=
 bif (decide (a0.Kind ≠ a1.Kind)) then (
 some false)
 else (
 bif (decide (a0.N ≠ a1.N)) then (
 some false)
 else (
 bif (Ls.sc .neq a0.S a1.S) then (
 some false)
 else (
 (qbC.f self a0.List_ a1.List_).bind fun r4 =>
 bif (bo3 r4 false true) then (
 some false)
 else (
 (qCC.f a0.Names a1.Names).bind fun r6 =>
 bif (bo3 r6 false true) then (
 some false)
 else (
 some true)))))
def qwB.g : Nat → Json → Json → Option Bool
 | 0 => fun _ _ => none
 | k + 1 => qwB.b (qwB.g k)
def qwB.f (a0 : Json) (a1 : Json) : Option Bool := qwB.g 1000 a0 a1
def qQE.f (a0 : Store) (a1 : Query) : Option Bool :=
 (qPF.f a0 1048576).bind fun r1 =>
 bif (decide (r1 < 0)) then (
 some true)
 else (
 (qRF.f a1 r1).bind fun r3 =>
 bif (decide (r3 < 0)) then (
 some true)
 else (
 (qZD.f a0).bind fun r5 =>
 (qaD.f a1).bind fun r6 =>
 (qVD.f r5 r6).bind fun r7 =>
 (qZD.f a0).bind fun r8 =>
 (qaD.f a1).bind fun r9 =>
 (qND.f r8 r9).bind fun r10 =>
 (qwB.f r10 r7).bind fun r11 =>
 bif (bo3 r11 false true) then (
 some false)
 else (
 (qZD.f a0).bind fun r13 =>
 (qeE.f r8 r13).bind fun r14 =>
 bif (bo3 r14 false true) then (
 some false)
 else (
 (qaD.f a1).bind fun r16 =>
 (qfE.f r9 r16).bind fun r17 =>
 bif (bo3 r17 false true) then (
 some false)
 else (
 (qNE.f r8 1).bind fun r19 =>
 (qOE.f r9 r19.2).bind fun r20 =>
 (gd (bo3 (decide (r20.2 < 0)) false true) (qwB.f r10 r7)).bind fun r21 =>
 bif (bo3 (decide (r20.2 < 0)) true (bo3 r21 false true)) then (
 some false)
 else (
 (qnE.f r10 1).bind fun r29 =>
 (qEE.f (Json.mk r10.Kind r10.N r10.S r29.1.List_ r29.1.Names) 1).bind fun r30 =>
 bif (decide (r30 < 0)) then (
 some false)
 else (
 bif (decide (r30 ≠ r29.2)) then (
 some false)
 else (
 (qZD.f a0).bind fun r33 =>
 (qaD.f a1).bind fun r34 =>
 (qND.f r33 r34).bind fun r35 =>
 (qwB.f r35 r7).bind fun r36 =>
 bif (bo3 r36 false true) then (
 some false)
 else (
 (qEE.f (Json.mk r10.Kind r10.N r10.S r29.1.List_ r29.1.Names) 1).bind fun r38 =>
 bif (decide (r38 < 0)) then (
 some false)
 else (
 bif (decide (r38 ≠ r29.2)) then (
 some false)
 else (
 some true)))))))))))
end Go.Proofs.YtgjboegobhafhaaGreatDoor.L
