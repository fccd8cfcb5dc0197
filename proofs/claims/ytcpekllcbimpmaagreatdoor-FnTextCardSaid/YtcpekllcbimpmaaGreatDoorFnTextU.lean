/- The pure functions of the program. -/
import Derived.Test.YtcpekllcbimpmaaGreatDoorFnTextSl50
namespace Go.Proofs.YtcpekllcbimpmaaGreatDoor.L
open Go
set_option linter.unusedVariables false
structure Json where
 Kind : Int
 N : Int
 S : ByteArray
 List_ : List Json
 Names : List ByteArray
instance : Inhabited Json := ⟨⟨0, 0, ByteArray.empty, [], []⟩⟩
noncomputable instance : DecidableEq Json := fun _ _ => Classical.propDecidable _
structure l1Cur where
 b : List Int
 i : Int
 h : Int
 deriving Inhabited, DecidableEq
structure l2Cur where
 s : ByteArray
 at_ : Int
 ok : Bool
 left : Int
 deriving Inhabited, DecidableEq
structure reader where
 text : ByteArray
 bad : Bool
 deriving Inhabited, DecidableEq
def qkB.l0 (a0 : List Int) : Nat → Int → Int → Option l1Cur
 | 0, _, _ => none
 | k + 1, z4, z5 =>
  bif (bo3 (decide (z5 < (lenI a0))) (decide (z5 < 4000)) false) then (
  (getO a0 z5).bind fun x11 =>
  qkB.l0 a0 k (Ls.ar .and .i64 (w64 ((w64 ((w64 (z4 * 131)) + (w64 x11))) + 7)) 1073741823) (w64 (z5 + 1)))
  else (
  some (l1Cur.mk a0 0 z4))
def qkB.f (a0 : List Int) : Option l1Cur :=
 qkB.l0 a0 (((lenI a0) - 0).toNat + 1) (w64 (17333 + (lenI a0))) 0
def qGC.f (a0 : l1Cur) : Option (l1Cur × Int) :=
 bif (decide (a0.i < (lenI a0.b))) then (
 (getO a0.b a0.i).bind fun x2 =>
 some ((l1Cur.mk a0.b (w64 (a0.i + 1)) (w64 ((w64 (a0.h * 6364136223846793005)) + 1442695040888963407))), (Ls.ar .and .i64 (w64 ((Ls.ar .and .i64 (Ls.ar .xor .i64 (Ls.ar .shr .i64 (w64 ((w64 (a0.h * 6364136223846793005)) + 1442695040888963407)) 33) (Ls.ar .shr .i64 (w64 ((w64 (a0.h * 6364136223846793005)) + 1442695040888963407)) 45)) 255) + (w64 x2))) 255)))
 else (
 some ((l1Cur.mk a0.b a0.i (w64 ((w64 (a0.h * 6364136223846793005)) + 1442695040888963407))), (Ls.ar .and .i64 (Ls.ar .xor .i64 (Ls.ar .shr .i64 (w64 ((w64 (a0.h * 6364136223846793005)) + 1442695040888963407)) 33) (Ls.ar .shr .i64 (w64 ((w64 (a0.h * 6364136223846793005)) + 1442695040888963407)) 45)) 255)))
def qf.f (a0 : l1Cur) (a1 : Int) : Option (l1Cur × Int) :=
 bif (decide (a1 ≤ 0)) then (
 some (a0, 0))
 else (
 bif (decide (a1 ≤ 256)) then (
 (qGC.f a0).bind fun r3 =>
 (nzO a1).bind fun u4 =>
 some ((l1Cur.mk a0.b r3.1.i r3.1.h), (Int.tmod r3.2 a1)))
 else (
 (qGC.f a0).bind fun r5 =>
 (qGC.f (l1Cur.mk a0.b r5.1.i r5.1.h)).bind fun r6 =>
 (qGC.f (l1Cur.mk a0.b r6.1.i r6.1.h)).bind fun r7 =>
 (qGC.f (l1Cur.mk a0.b r7.1.i r7.1.h)).bind fun r8 =>
 (nzO a1).bind fun u9 =>
 some ((l1Cur.mk a0.b r8.1.i r8.1.h), (Int.tmod (w64 ((w64 ((w64 ((w64 (r5.2 * 16777216)) + (w64 (r6.2 * 65536)))) + (w64 (r7.2 * 256)))) + r8.2)) a1))))
def qmB.f (a0 : l1Cur) (a1 : List ByteArray) : Option (l1Cur × ByteArray) :=
 (qf.f a0 (lenI a1)).bind fun r1 =>
 (getO a1 r1.2).bind fun x2 =>
 some ((l1Cur.mk a0.b r1.1.i r1.1.h), x2)
def qYB.f (a0 : l1Cur) (a1 : List Int) : Option (l1Cur × Int) :=
 (qf.f a0 (lenI a1)).bind fun r1 =>
 (getO a1 r1.2).bind fun x2 =>
 some ((l1Cur.mk a0.b r1.1.i r1.1.h), x2)
def qAC.f (a0 : l1Cur) : Option (l1Cur × ByteArray) :=
 (some [(ByteArray.mk #[97]), (ByteArray.mk #[98]), (ByteArray.mk #[99]), (ByteArray.mk #[105, 100]), (ByteArray.mk #[110]), (ByteArray.mk #[114, 111, 119, 115]), (ByteArray.mk #[]), (ByteArray.mk #[97, 47, 98]), (ByteArray.mk #[126])]).bind fun l1 =>
 (qmB.f a0 l1).bind fun r2 =>
 some ((l1Cur.mk a0.b r2.1.i r2.1.h), r2.2)
def qPC.l0 (a0 : Json) (a1 : ByteArray) : Nat → Int → Option Int
 | 0, _ => none
 | k + 1, z8 =>
  bif (decide (z8 < (lenI a0.Names))) then (
  (getO a0.Names z8).bind fun x10 =>
  bif (Ls.sc .eql x10 a1) then (
  some z8)
  else (
  qPC.l0 a0 a1 k (w64 (z8 + 1))))
  else (
  some (-1))
def qPC.f (a0 : Json) (a1 : ByteArray) : Option Int :=
 qPC.l0 a0 a1 (((lenI a0.Names) - 0).toNat + 1) 0
def qJB.l0 (a0 : Json) (a1 : ByteArray) (a2 : Json) (K4 : (List Json) → (List ByteArray) → Bool → Option Json) : Nat → (List Json) → (List ByteArray) → Bool → Int → Option Json
 | 0, _, _, _, _ => none
 | k + 1, z45, z46, z47, z48 =>
  bif (decide (z48 < (lenI a0.Names))) then (
  joinK (fun (y50 : List Json) (y51 : List ByteArray) (y52 : Bool) =>
  (getO a0.Names z48).bind fun x69 =>
  bif (Ls.sc .neq x69 a1) then (
  (some [x69]).bind fun l71 =>
  (appO 16 y51 l71).bind fun l72 =>
  (getO a0.List_ z48).bind fun x73 =>
  (some [x73]).bind fun l74 =>
  (appO 80 y50 l74).bind fun l75 =>
  qJB.l0 a0 a1 a2 K4 k l75 l72 y52 (w64 (z48 + 1)))
  else (
  qJB.l0 a0 a1 a2 K4 k y50 y51 y52 (w64 (z48 + 1)))) (fun K53 =>
  (gd (bo3 z47 false true) (getO a0.Names z48)).bind fun x54 =>
  bif (bo3 (bo3 z47 false true) (Ls.sc .geq x54 a1) false) then (
  (some [a1]).bind fun l65 =>
  (appO 16 z46 l65).bind fun l66 =>
  (some [a2]).bind fun l67 =>
  (appO 80 z45 l67).bind fun l68 =>
  K53 l68 l66 true)
  else (
  K53 z45 z46 z47)))
  else (
  K4 z45 z46 z47)
def qJB.f (a0 : Json) (a1 : ByteArray) (a2 : Json) : Option Json :=
 joinK (fun (y1 : List Json) (y2 : List ByteArray) (y3 : Bool) =>
 bif (bo3 y3 false true) then (
 (some [a1]).bind fun l77 =>
 (appO 16 y2 l77).bind fun l78 =>
 (some [a2]).bind fun l79 =>
 (appO 80 y1 l79).bind fun l80 =>
 some (Json.mk 5 0 ByteArray.empty l80 l78))
 else (
 some (Json.mk 5 0 ByteArray.empty y1 y2))) (fun K4 =>
 qJB.l0 a0 a1 a2 K4 (((lenI a0.Names) - 0).toNat + 1) [] [] false 0)
def qF.l0 (a0 : l1Cur) (a1 : Int) (self : l1Cur → Int → Option (l1Cur × Json)) : Nat → Int → Int → (List Json) → Int → Option (l1Cur × Json)
 | 0, _, _, _, _ => none
 | k + 1, z49, z50, z51, z52 =>
  (qf.f (l1Cur.mk a0.b z49 z50) 5).bind fun r53 =>
  bif (decide (z52 < r53.2)) then (
  (self (l1Cur.mk a0.b r53.1.i r53.1.h) (w64 (a1 - 1))).bind fun r55 =>
  (some [r55.2]).bind fun l56 =>
  (appO 80 z51 l56).bind fun l57 =>
  qF.l0 a0 a1 self k r55.1.i r55.1.h l57 (w64 (z52 + 1)))
  else (
  some ((l1Cur.mk a0.b r53.1.i r53.1.h), (Json.mk 4 0 ByteArray.empty z51 [])))
def qF.l1 (a0 : l1Cur) (a1 : Int) (self : l1Cur → Int → Option (l1Cur × Json)) : Nat → Int → Int → Int → Int → ByteArray → (List Json) → (List ByteArray) → Int → Option (l1Cur × Json)
 | 0, _, _, _, _, _, _, _, _ => none
 | k + 1, z82, z83, z84, z85, z86, z87, z88, z89 =>
  (qf.f (l1Cur.mk a0.b z82 z83) 5).bind fun r90 =>
  bif (decide (z89 < r90.2)) then (
  (qAC.f (l1Cur.mk a0.b r90.1.i r90.1.h)).bind fun r92 =>
  (qPC.f (Json.mk z84 z85 z86 z87 z88) r92.2).bind fun r93 =>
  bif (decide (r93 < 0)) then (
  (self (l1Cur.mk a0.b r92.1.i r92.1.h) (w64 (a1 - 1))).bind fun r95 =>
  (qJB.f (Json.mk z84 z85 z86 z87 z88) r92.2 r95.2).bind fun r96 =>
  qF.l1 a0 a1 self k r95.1.i r95.1.h r96.Kind r96.N r96.S r96.List_ r96.Names (w64 (z89 + 1)))
  else (
  qF.l1 a0 a1 self k r92.1.i r92.1.h z84 z85 z86 z87 z88 (w64 (z89 + 1))))
  else (
  some ((l1Cur.mk a0.b r90.1.i r90.1.h), (Json.mk z84 z85 z86 z87 z88)))
def qF.b (self : l1Cur → Int → Option (l1Cur × Json)) (a0 : l1Cur) (a1 : Int) : Option (l1Cur × Json) :=
 (qf.f a0 8).bind fun r1 =>
 joinK (fun (y2 : Int) (y3 : Int) (y4 : Int) =>
 joinK (fun (y8 : Unit) =>
 qF.l1 a0 a1 self 1000 y2 y3 5 0 ByteArray.empty [] [] 0) (fun K9 =>
 bif (decide (y4 = 0)) then (
 some ((l1Cur.mk a0.b y2 y3), (Json.mk 0 0 ByteArray.empty [] [])))
 else (
 bif (decide (y4 = 1)) then (
 (qf.f (l1Cur.mk a0.b y2 y3) 2).bind fun r12 =>
 some ((l1Cur.mk a0.b r12.1.i r12.1.h), (Json.mk 1 r12.2 ByteArray.empty [] [])))
 else (
 bif (decide (y4 = 2)) then (
 (some [(ByteArray.mk #[]), (ByteArray.mk #[120]), (ByteArray.mk #[97, 34, 98]), (ByteArray.mk #[97, 92, 92, 98]), (ByteArray.mk #[104, 101, 108, 108, 111, 32, 116, 104, 101, 114, 101]), (ByteArray.mk #[126, 49])]).bind fun l14 =>
 (qmB.f (l1Cur.mk a0.b y2 y3) l14).bind fun r15 =>
 some ((l1Cur.mk a0.b r15.1.i r15.1.h), (Json.mk 3 0 r15.2 [] [])))
 else (
 joinK (fun (y16 : Bool) =>
 bif y16 then (
 (some [0, 1, (-5), 77, 1000000000, (-1000000000)]).bind fun l20 =>
 (qYB.f (l1Cur.mk a0.b y2 y3) l20).bind fun r21 =>
 some ((l1Cur.mk a0.b r21.1.i r21.1.h), (Json.mk 2 r21.2 ByteArray.empty [] [])))
 else (
 joinK (fun (y22 : Bool) =>
 bif y22 then (
 qF.l0 a0 a1 self 1000 y2 y3 [] 0)
 else (
 K9 ())) (fun K23 =>
 bif (decide (y4 = 5)) then (
 K23 (decide (y4 = 5)))
 else (
 K23 (decide (y4 = 6)))))) (fun K17 =>
 bif (decide (y4 = 3)) then (
 K17 (decide (y4 = 3)))
 else (
 K17 (decide (y4 = 4))))))))) (fun K5 =>
 bif (decide (a1 ≤ 1)) then (
 (qf.f (l1Cur.mk a0.b r1.1.i r1.1.h) 5).bind fun r7 =>
 K5 r7.1.i r7.1.h r7.2)
 else (
 K5 r1.1.i r1.1.h r1.2))
def qF.g : Nat → l1Cur → Int → Option (l1Cur × Json)
 | 0 => fun _ _ => none
 | k + 1 => qF.b (qF.g k)
def qF.f (a0 : l1Cur) (a1 : Int) : Option (l1Cur × Json) := qF.g 20 a0 a1
def qFE.f (a0 : Int) (a1 : Int) (a2 : Int) : Option Bool :=
 some (bo3 (decide (a1 ≤ a0)) (decide (a0 ≤ a2)) false)
def qfB.l0 (a0 : ByteArray) : Nat → Int → Option Bool
 | 0, _ => none
 | k + 1, z3 =>
  bif (decide (z3 < (Ls.sl a0))) then (
  (inS a0 z3).bind fun u5 =>
  (gd (bo3 (decide ((Ls.sx a0 z3) < 32)) false true) (inS a0 z3)).bind fun u6 =>
  bif (bo3 (decide ((Ls.sx a0 z3) < 32)) true (decide (126 < (Ls.sx a0 z3)))) then (
  some false)
  else (
  qfB.l0 a0 k (w64 (z3 + 1))))
  else (
  some (decide ((Ls.sl a0) ≤ 60)))
def qfB.f (a0 : ByteArray) : Option Bool :=
 qfB.l0 a0 (((Ls.sl a0) - 0).toNat + 1) 0
def qSB.l0 (a0 : Json) : Nat → Int → Option Bool
 | 0, _ => none
 | k + 1, z8 =>
  bif (decide (z8 < (lenI a0.Names))) then (
  (getO a0.Names z8).bind fun x10 =>
  (qfB.f x10).bind fun r11 =>
  (gd (bo3 (bo3 (bo3 r11 false true) false true) (decide (0 < z8)) false) (getO a0.Names (w64 (z8 - 1)))).bind fun x12 =>
  bif (bo3 (bo3 r11 false true) true (bo3 (decide (0 < z8)) (Ls.sc .geq x12 x10) false)) then (
  some false)
  else (
  qSB.l0 a0 k (w64 (z8 + 1))))
  else (
  some (decide ((lenI a0.Names) = (lenI a0.List_))))
def qSB.f (a0 : Json) : Option Bool :=
 bif (decide (a0.Kind ≠ 5)) then (
 some (decide ((lenI a0.Names) = 0)))
 else (
 qSB.l0 a0 (((lenI a0.Names) - 0).toNat + 1) 0)
def qb.l0 (a0 : Json) (a1 : Int) (self : Json → Int → Option Int) (K3 : Int → Option Int) : Nat → Int → Int → Option Int
 | 0, _, _ => none
 | k + 1, z28, z29 =>
  bif (bo3 (decide (z29 < (lenI a0.List_))) (decide (z28 ≤ 400)) false) then (
  (getO a0.List_ z29).bind fun x35 =>
  (self x35 (w64 (a1 - 1))).bind fun r36 =>
  qb.l0 a0 a1 self K3 k (w64 (z28 + r36)) (w64 (z29 + 1)))
  else (
  K3 z28)
def qb.b (self : Json → Int → Option Int) (a0 : Json) (a1 : Int) : Option Int :=
 bif (decide (a1 = 0)) then (
 some 401)
 else (
 joinK (fun (y2 : Int) =>
 (gd (bo3 (bo3 (bo3 (bo3 (decide (a0.Kind ≠ 3)) (Ls.sc .neq a0.S (ByteArray.mk #[])) false) true (bo3 (bo3 (decide (a0.Kind = 3)) true (decide (4 ≤ a0.Kind))) (decide (a0.N ≠ 0)) false)) true (bo3 (decide (a0.Kind < 4)) (decide (0 < (lenI a0.List_))) false)) false true) (qSB.f a0)).bind fun r37 =>
 bif (bo3 (bo3 (bo3 (bo3 (decide (a0.Kind ≠ 3)) (Ls.sc .neq a0.S (ByteArray.mk #[])) false) true (bo3 (bo3 (decide (a0.Kind = 3)) true (decide (4 ≤ a0.Kind))) (decide (a0.N ≠ 0)) false)) true (bo3 (decide (a0.Kind < 4)) (decide (0 < (lenI a0.List_))) false)) true (bo3 r37 false true)) then (
 some 401)
 else (
 some y2)) (fun K3 =>
 bif (decide (a0.Kind = 0)) then (
 bif (decide (a0.N ≠ 0)) then (
 some 401)
 else (
 K3 1))
 else (
 bif (decide (a0.Kind = 1)) then (
 (qFE.f a0.N 0 1).bind fun r7 =>
 bif (bo3 r7 false true) then (
 some 401)
 else (
 K3 1))
 else (
 bif (decide (a0.Kind = 2)) then (
 (qFE.f a0.N (-1000000000) 1000000000).bind fun r10 =>
 bif (bo3 r10 false true) then (
 some 401)
 else (
 K3 1))
 else (
 bif (decide (a0.Kind = 3)) then (
 (qfB.f a0.S).bind fun r13 =>
 bif (bo3 r13 false true) then (
 some 401)
 else (
 K3 1))
 else (
 joinK (fun (y15 : Bool) =>
 bif y15 then (
 qb.l0 a0 a1 self K3 (((lenI a0.List_) - 0).toNat + 1) 1 0)
 else (
 some 401)) (fun K16 =>
 bif (decide (a0.Kind = 4)) then (
 K16 (decide (a0.Kind = 4)))
 else (
 K16 (decide (a0.Kind = 5))))))))))
def qb.g : Nat → Json → Int → Option Int
 | 0 => fun _ _ => none
 | k + 1 => qb.b (qb.g k)
def qb.f (a0 : Json) (a1 : Int) : Option Int := qb.g 20 a0 a1
def qAD.f (a0 : Json) : Option Bool :=
 (qb.f a0 6).bind fun r1 =>
 some (decide (r1 ≤ 400))
def qz.l0 (K4 : Bool → ByteArray → Option ByteArray) : Nat → Int → Bool → ByteArray → Option ByteArray
 | 0, _, _, _ => none
 | k + 1, z8, z9, z10 =>
  bif (decide (z8 ≠ 0)) then (
  bif (decide ((Int.tmod z8 10) < 0)) then (
  (some [(IntKind.wrap .u8 (w64 (48 + (w64 (0 - (Int.tmod z8 10))))))]).bind fun l13 =>
  (some (bsO l13)).bind fun s14 =>
  (smO s14 z10).bind fun u15 =>
  qz.l0 K4 k (w64 (Int.tdiv z8 10)) z9 (Ls.sa s14 z10))
  else (
  (some [(IntKind.wrap .u8 (w64 (48 + (Int.tmod z8 10))))]).bind fun l16 =>
  (some (bsO l16)).bind fun s17 =>
  (smO s17 z10).bind fun u18 =>
  qz.l0 K4 k (w64 (Int.tdiv z8 10)) z9 (Ls.sa s17 z10)))
  else (
  K4 z9 z10)
def qz.f (a0 : Int) : Option ByteArray :=
 bif (decide (a0 = 0)) then (
 some (ByteArray.mk #[48]))
 else (
 joinK (fun (y2 : Bool) (y3 : ByteArray) =>
 bif y2 then (
 (smO (ByteArray.mk #[45]) y3).bind fun u20 =>
 some (Ls.sa (ByteArray.mk #[45]) y3))
 else (
 some y3)) (fun K4 =>
 qz.l0 K4 30 a0 (decide (a0 < 0)) (ByteArray.mk #[])))
def qBB.l0 (a0 : ByteArray) : Nat → (List Int) → Int → Option ByteArray
 | 0, _, _ => none
 | k + 1, z5, z6 =>
  bif (decide (z6 < (Ls.sl a0))) then (
  (inS a0 z6).bind fun u8 =>
  (gd (bo3 (decide ((Ls.sx a0 z6) = 34)) false true) (inS a0 z6)).bind fun u9 =>
  bif (bo3 (decide ((Ls.sx a0 z6) = 34)) true (decide ((Ls.sx a0 z6) = 92))) then (
  (some [92]).bind fun l17 =>
  (appO 1 z5 l17).bind fun l18 =>
  (inS a0 z6).bind fun u19 =>
  (some [(Ls.sx a0 z6)]).bind fun l20 =>
  (appO 1 l18 l20).bind fun l21 =>
  qBB.l0 a0 k l21 (w64 (z6 + 1)))
  else (
  (inS a0 z6).bind fun u22 =>
  (some [(Ls.sx a0 z6)]).bind fun l23 =>
  (appO 1 z5 l23).bind fun l24 =>
  qBB.l0 a0 k l24 (w64 (z6 + 1))))
  else (
  (some [34]).bind fun l25 =>
  (appO 1 z5 l25).bind fun l26 =>
  (some (bsO l26)).bind fun s27 =>
  some s27)
def qBB.f (a0 : ByteArray) : Option ByteArray :=
 (some [34]).bind fun l1 =>
 qBB.l0 a0 (((Ls.sl a0) - 0).toNat + 1) l1 0
def qX.l0 (a0 : Json) (self : Json → Option ByteArray) (K9 : ByteArray → Option ByteArray) : Nat → ByteArray → Int → Option ByteArray
 | 0, _, _ => none
 | k + 1, z17, z18 =>
  bif (decide (z18 < (lenI a0.List_))) then (
  joinK (fun (y20 : ByteArray) =>
  joinK (fun (y24 : ByteArray) =>
  (getO a0.List_ z18).bind fun x31 =>
  (self x31).bind fun r32 =>
  (addO y24 r32).bind fun s33 =>
  qX.l0 a0 self K9 k s33 (w64 (z18 + 1))) (fun K25 =>
  bif (decide (a0.Kind = 5)) then (
  (getO a0.Names z18).bind fun x27 =>
  (qBB.f x27).bind fun r28 =>
  (addO y20 r28).bind fun s29 =>
  (addO s29 (ByteArray.mk #[58])).bind fun s30 =>
  K25 s30)
  else (
  K25 y20))) (fun K21 =>
  bif (decide (0 < z18)) then (
  (addO z17 (ByteArray.mk #[44])).bind fun s23 =>
  K21 s23)
  else (
  K21 z17)))
  else (
  K9 z17)
def qX.b (self : Json → Option ByteArray) (a0 : Json) : Option ByteArray :=
 bif (decide (a0.Kind = 0)) then (
 some (ByteArray.mk #[110, 117, 108, 108]))
 else (
 bif (decide (a0.Kind = 1)) then (
 bif (decide (a0.N = 1)) then (
 some (ByteArray.mk #[116, 114, 117, 101]))
 else (
 some (ByteArray.mk #[102, 97, 108, 115, 101])))
 else (
 bif (decide (a0.Kind = 2)) then (
 (qz.f a0.N).bind fun r5 =>
 some r5)
 else (
 bif (decide (a0.Kind = 3)) then (
 (qBB.f a0.S).bind fun r7 =>
 some r7)
 else (
 joinK (fun (y8 : ByteArray) =>
 bif (decide (a0.Kind = 5)) then (
 (addO (ByteArray.mk #[123]) y8).bind fun s35 =>
 (addO s35 (ByteArray.mk #[125])).bind fun s36 =>
 some s36)
 else (
 (addO (ByteArray.mk #[91]) y8).bind fun s37 =>
 (addO s37 (ByteArray.mk #[93])).bind fun s38 =>
 some s38)) (fun K9 =>
 qX.l0 a0 self K9 (((lenI a0.List_) - 0).toNat + 1) (ByteArray.mk #[]) 0)))))
def qX.g : Nat → Json → Option ByteArray
 | 0 => fun _ => none
 | k + 1 => qX.b (qX.g k)
def qX.f (a0 : Json) : Option ByteArray := qX.g 20 a0
def qQC.f (a0 : Json) : Option ByteArray :=
 (qAD.f a0).bind fun r1 =>
 bif (bo3 r1 false true) then (
 some (ByteArray.mk #[]))
 else (
 (qX.f a0).bind fun r3 =>
 bif (decide (6000 < (Ls.sl r3))) then (
 some (ByteArray.mk #[]))
 else (
 some r3))
def qBC.f (a0 : List Int) : Option ByteArray :=
 (qkB.f a0).bind fun r1 =>
 (qF.f r1 4).bind fun r2 =>
 (qQC.f r2.2).bind fun r3 =>
 (qf.f (l1Cur.mk r1.b r2.1.i r2.1.h) (w64 ((Ls.sl r3) + 1))).bind fun r4 =>
 (qf.f (l1Cur.mk r1.b r4.1.i r4.1.h) 5).bind fun r5 =>
 bif (decide (r5.2 = 0)) then (
 (cutS r3 0 r4.2).bind fun u7 =>
 some (Ls.ss r3 0 r4.2))
 else (
 bif (decide (r5.2 = 1)) then (
 (cutS r3 0 r4.2).bind fun u9 =>
 (some [(ByteArray.mk #[32]), (ByteArray.mk #[44]), (ByteArray.mk #[48]), (ByteArray.mk #[34]), (ByteArray.mk #[91]), (ByteArray.mk #[93]), (ByteArray.mk #[123]), (ByteArray.mk #[125]), (ByteArray.mk #[45]), (ByteArray.mk #[120]), (ByteArray.mk #[92]), (ByteArray.mk #[110, 117, 108, 108]), (ByteArray.mk #[58])]).bind fun l10 =>
 (qmB.f (l1Cur.mk r1.b r5.1.i r5.1.h) l10).bind fun r11 =>
 (addO (Ls.ss r3 0 r4.2) r11.2).bind fun s12 =>
 (cutS r3 r4.2 (Ls.sl r3)).bind fun u13 =>
 (addO s12 (Ls.ss r3 r4.2 (Ls.sl r3))).bind fun s14 =>
 some s14)
 else (
 some r3))
def qVB.f (a0 : l2Cur) : Option Int :=
 bif (decide ((Ls.sl a0.s) ≤ a0.at_)) then (
 some 0)
 else (
 (inS a0.s a0.at_).bind fun u2 =>
 some (Ls.sx a0.s a0.at_))
def qm.f (a0 : l2Cur) (a1 : ByteArray) : Option l2Cur :=
 (gd (bo3 (decide ((w64 ((Ls.sl a0.s) - a0.at_)) < (Ls.sl a1))) false true) (cutS a0.s a0.at_ (w64 (a0.at_ + (Ls.sl a1))))).bind fun u1 =>
 bif (bo3 (decide ((w64 ((Ls.sl a0.s) - a0.at_)) < (Ls.sl a1))) true (Ls.sc .neq (Ls.ss a0.s a0.at_ (w64 (a0.at_ + (Ls.sl a1)))) a1)) then (
 some (l2Cur.mk a0.s a0.at_ false a0.left))
 else (
 some (l2Cur.mk a0.s (w64 (a0.at_ + (Ls.sl a1))) a0.ok a0.left))
def qc.l0 (r1 : l2Cur) (K5 : Int → Bool → (List Int) → Option (l2Cur × ByteArray)) : Nat → Int → (List Int) → Option (l2Cur × ByteArray)
 | 0, _, _ => none
 | k + 1, z11, z12 =>
  (gd r1.ok (qVB.f (l2Cur.mk r1.s z11 r1.ok r1.left))).bind fun r13 =>
  bif (bo3 r1.ok (decide (r13 ≠ 34)) false) then (
  joinK (fun (y20 : Int) =>
  bif (decide ((Ls.sl r1.s) ≤ y20)) then (
  K5 y20 false z12)
  else (
  (inS r1.s y20).bind fun u25 =>
  (some [(Ls.sx r1.s y20)]).bind fun l26 =>
  (appO 1 z12 l26).bind fun l27 =>
  qc.l0 r1 K5 k (w64 (y20 + 1)) l27)) (fun K21 =>
  (qVB.f (l2Cur.mk r1.s z11 r1.ok r1.left)).bind fun r22 =>
  bif (decide (r22 = 92)) then (
  K21 (w64 (z11 + 1)))
  else (
  K21 z11)))
  else (
  K5 z11 r1.ok z12)
def qc.f (a0 : l2Cur) : Option (l2Cur × ByteArray) :=
 (qm.f a0 (ByteArray.mk #[34])).bind fun r1 =>
 joinK (fun (y2 : Int) (y3 : Bool) (y4 : List Int) =>
 (qm.f (l2Cur.mk r1.s y2 y3 r1.left) (ByteArray.mk #[34])).bind fun r28 =>
 (some (bsO y4)).bind fun s29 =>
 some (r28, s29)) (fun K5 =>
 qc.l0 r1 K5 (a0.s.size + 2) r1.at_ [])
def qZ.l0 (a1 : Int) (y1 : Int) (y2 : ByteArray) (self : l2Cur → Int → Option (l2Cur × Json)) (K12 : ByteArray → Int → Bool → Int → (List Json) → (List ByteArray) → Option (l2Cur × Json)) : Nat → ByteArray → Int → Bool → Int → (List Json) → (List ByteArray) → Option (l2Cur × Json)
 | 0, _, _, _, _, _, _ => none
 | k + 1, z39, z40, z41, z42, z43, z44 =>
  (gd z41 (qVB.f (l2Cur.mk z39 z40 z41 z42))).bind fun r45 =>
  (gd z41 (inS y2 0)).bind fun u46 =>
  bif (bo3 z41 (decide (r45 ≠ (Ls.sx y2 0))) false) then (
  joinK (fun (y55 : ByteArray) (y56 : Int) (y57 : Bool) (y58 : Int) =>
  joinK (fun (y62 : ByteArray) (y63 : Int) (y64 : Bool) (y65 : Int) (y66 : List ByteArray) =>
  (self (l2Cur.mk y62 y63 y64 y65) (w64 (a1 - 1))).bind fun r73 =>
  (some [r73.2]).bind fun l74 =>
  (appO 80 z43 l74).bind fun l75 =>
  qZ.l0 a1 y1 y2 self K12 k r73.1.s r73.1.at_ r73.1.ok r73.1.left l75 y66) (fun K67 =>
  bif (decide (y1 = 5)) then (
  (qc.f (l2Cur.mk y55 y56 y57 y58)).bind fun r69 =>
  (some [r69.2]).bind fun l70 =>
  (appO 16 z44 l70).bind fun l71 =>
  (qm.f r69.1 (ByteArray.mk #[58])).bind fun r72 =>
  K67 r72.s r72.at_ r72.ok r72.left l71)
  else (
  K67 y55 y56 y57 y58 z44))) (fun K59 =>
  bif (decide (0 < (lenI z43))) then (
  (qm.f (l2Cur.mk z39 z40 z41 z42) (ByteArray.mk #[44])).bind fun r61 =>
  K59 r61.s r61.at_ r61.ok r61.left)
  else (
  K59 z39 z40 z41 z42)))
  else (
  K12 z39 z40 z41 z42 z43 z44)
def qZ.f (self : l2Cur → Int → Option (l2Cur × Json)) (a0 : l2Cur) (a1 : Int) : Option (l2Cur × Json) :=
 joinK (fun (y1 : Int) (y2 : ByteArray) =>
 joinK (fun (y6 : ByteArray) (y7 : Int) (y8 : Bool) (y9 : Int) (y10 : List Json) (y11 : List ByteArray) =>
 (qm.f (l2Cur.mk y6 y7 y8 y9) y2).bind fun r76 =>
 some (r76, (Json.mk y1 0 ByteArray.empty y10 y11))) (fun K12 =>
 qZ.l0 a1 y1 y2 self K12 1000 a0.s (w64 (a0.at_ + 1)) a0.ok a0.left [] [])) (fun K3 =>
 (qVB.f a0).bind fun r4 =>
 bif (decide (r4 = 123)) then (
 K3 5 (ByteArray.mk #[125]))
 else (
 K3 4 (ByteArray.mk #[93])))
def qk.l0 (a0 : l2Cur) (y2 : Int) (K8 : Int → Int → Option (l2Cur × Int)) : Nat → Int → Int → Option (l2Cur × Int)
 | 0, _, _ => none
 | k + 1, z16, z17 =>
  (qVB.f (l2Cur.mk a0.s z16 a0.ok a0.left)).bind fun r18 =>
  (gd (decide (48 ≤ r18)) (qVB.f (l2Cur.mk a0.s z16 a0.ok a0.left))).bind fun r19 =>
  bif (bo3 (bo3 (decide (48 ≤ r18)) (decide (r19 ≤ 57)) false) (decide ((w64 (z16 - y2)) < 11)) false) then (
  (qVB.f (l2Cur.mk a0.s z16 a0.ok a0.left)).bind fun r35 =>
  qk.l0 a0 y2 K8 k (w64 (z16 + 1)) (w64 ((w64 ((w64 (10 * z17)) + (w64 r35))) - 48)))
  else (
  K8 z16 z17)
def qk.f (a0 : l2Cur) : Option (l2Cur × Int) :=
 (qVB.f a0).bind fun r1 =>
 joinK (fun (y2 : Int) (y3 : Bool) =>
 joinK (fun (y6 : Int) (y7 : Int) =>
 joinK (fun (y36 : Bool) =>
 bif y3 then (
 some ((l2Cur.mk a0.s y6 y36 a0.left), (w64 (0 - y7))))
 else (
 some ((l2Cur.mk a0.s y6 y36 a0.left), y7))) (fun K37 =>
 bif (decide (y6 = y2)) then (
 K37 false)
 else (
 K37 a0.ok))) (fun K8 =>
 qk.l0 a0 y2 K8 20 y2 0)) (fun K4 =>
 bif (decide (r1 = 45)) then (
 K4 (w64 (a0.at_ + 1)) (decide (r1 = 45)))
 else (
 K4 a0.at_ (decide (r1 = 45))))
def qQ.b (self : l2Cur → Int → Option (l2Cur × Json)) (a0 : l2Cur) (a1 : Int) : Option (l2Cur × Json) :=
 joinK (fun (y1 : Bool) (y2 : Int) =>
 bif (bo3 y1 false true) then (
 some ((l2Cur.mk a0.s a0.at_ y1 y2), (Json.mk 0 0 ByteArray.empty [] [])))
 else (
 (qVB.f (l2Cur.mk a0.s a0.at_ y1 y2)).bind fun r13 =>
 bif (decide (r13 = 110)) then (
 (qm.f (l2Cur.mk a0.s a0.at_ y1 y2) (ByteArray.mk #[110, 117, 108, 108])).bind fun r15 =>
 some (r15, (Json.mk 0 0 ByteArray.empty [] [])))
 else (
 bif (decide (r13 = 116)) then (
 (qm.f (l2Cur.mk a0.s a0.at_ y1 y2) (ByteArray.mk #[116, 114, 117, 101])).bind fun r17 =>
 some (r17, (Json.mk 1 1 ByteArray.empty [] [])))
 else (
 bif (decide (r13 = 102)) then (
 (qm.f (l2Cur.mk a0.s a0.at_ y1 y2) (ByteArray.mk #[102, 97, 108, 115, 101])).bind fun r19 =>
 some (r19, (Json.mk 1 0 ByteArray.empty [] [])))
 else (
 bif (decide (r13 = 34)) then (
 (qc.f (l2Cur.mk a0.s a0.at_ y1 y2)).bind fun r21 =>
 some (r21.1, (Json.mk 3 0 r21.2 [] [])))
 else (
 joinK (fun (y22 : Bool) =>
 bif y22 then (
 (qZ.f self (l2Cur.mk a0.s a0.at_ y1 y2) a1).bind fun r26 =>
 some (r26.1, r26.2))
 else (
 (qk.f (l2Cur.mk a0.s a0.at_ y1 y2)).bind fun r27 =>
 some (r27.1, (Json.mk 2 r27.2 ByteArray.empty [] [])))) (fun K23 =>
 bif (decide (r13 = 91)) then (
 K23 (decide (r13 = 91)))
 else (
 K23 (decide (r13 = 123)))))))))) (fun K3 =>
 bif (bo3 (decide (a1 = 0)) true (decide ((w64 (a0.left - 1)) < 0))) then (
 K3 false (w64 (a0.left - 1)))
 else (
 K3 a0.ok (w64 (a0.left - 1))))
def qQ.g : Nat → l2Cur → Int → Option (l2Cur × Json)
 | 0 => fun _ _ => none
 | k + 1 => qQ.b (qQ.g k)
def qQ.f (a0 : l2Cur) (a1 : Int) : Option (l2Cur × Json) := qQ.g 20 a0 a1
def qBD.f (a0 : ByteArray) : Option (Json × Bool) :=
 bif (bo3 (Ls.sc .eql a0 (ByteArray.mk #[])) true (decide (6000 < (Ls.sl a0)))) then (
 some ((Json.mk 0 0 ByteArray.empty [] []), false))
 else (
 (qQ.f (l2Cur.mk a0 0 true 400) 6).bind fun r7 =>
 (gd (bo3 (bo3 (bo3 r7.1.ok false true) true (decide (r7.1.at_ ≠ (Ls.sl a0)))) false true) (qQC.f r7.2)).bind fun r8 =>
 bif (bo3 (bo3 (bo3 r7.1.ok false true) true (decide (r7.1.at_ ≠ (Ls.sl a0)))) true (Ls.sc .neq r8 a0)) then (
 some ((Json.mk 0 0 ByteArray.empty [] []), false))
 else (
 some (r7.2, true)))
def qRC.f (a0 : List Int) : Option ByteArray :=
 (qkB.f a0).bind fun r1 =>
 (some [(ByteArray.mk #[]), (ByteArray.mk #[97]), (ByteArray.mk #[10]), (ByteArray.mk #[127]), (ByteArray.mk #[97, 34, 98]), (ByteArray.mk #[48, 49, 50, 51, 52, 53, 54, 55, 56, 57, 48, 49, 50, 51, 52, 53, 54, 55, 56, 57, 48, 49, 50, 51, 52, 53, 54, 55, 56, 57, 48, 49, 50, 51, 52, 53, 54, 55, 56, 57, 48, 49, 50, 51, 52, 53, 54, 55, 56, 57, 48, 49, 50, 51, 52, 53, 54, 55, 56, 57]), (ByteArray.mk #[48, 49, 50, 51, 52, 53, 54, 55, 56, 57, 48, 49, 50, 51, 52, 53, 54, 55, 56, 57, 48, 49, 50, 51, 52, 53, 54, 55, 56, 57, 48, 49, 50, 51, 52, 53, 54, 55, 56, 57, 48, 49, 50, 51, 52, 53, 54, 55, 56, 57, 48, 49, 50, 51, 52, 53, 54, 55, 56, 57, 48])]).bind fun l2 =>
 (qmB.f r1 l2).bind fun r3 =>
 some r3.2
def qKC.f (a0 : List Int) : Option ByteArray :=
 (qRC.f a0).bind fun r1 =>
 some r1
def qSC.f (a0 : Int) (a1 : Int) (a2 : Int) : Option Bool :=
 some (bo3 (decide (a1 ≤ a0)) (decide (a0 ≤ a2)) false)
def qGE.f (a0 : Int) : Option Bool :=
 (qSC.f a0 (-1000000000) 1000000000).bind fun r1 =>
 some r1
def qgB.l0 (a0 : ByteArray) : Nat → Int → Int → Option Bool
 | 0, _, _ => none
 | k + 1, z4, z5 =>
  bif (decide (z5 < z4)) then (
  (inS a0 z5).bind fun u7 =>
  (qSC.f (w64 (Ls.sx a0 z5)) 32 126).bind fun r8 =>
  bif (bo3 r8 false true) then (
  some false)
  else (
  qgB.l0 a0 k z4 (w64 (z5 + 1))))
  else (
  some (decide ((Ls.sl a0) ≤ 60)))
def qgB.f (a0 : ByteArray) : Option Bool :=
 qgB.l0 a0 (((Ls.sl a0) - 0).toNat + 1) (Ls.sl a0) 0
def qTB.l0 (a0 : List ByteArray) : Nat → Int → Option Bool
 | 0, _ => none
 | k + 1, z5 =>
  bif (decide (z5 < (lenI a0))) then (
  (getO a0 z5).bind fun x7 =>
  (qgB.f x7).bind fun r8 =>
  (gd (bo3 (bo3 (bo3 r8 false true) false true) (decide (0 < z5)) false) (getO a0 (w64 (z5 - 1)))).bind fun x9 =>
  bif (bo3 (bo3 r8 false true) true (bo3 (decide (0 < z5)) (Ls.sc .geq x9 x7) false)) then (
  some false)
  else (
  qTB.l0 a0 k (w64 (z5 + 1))))
  else (
  some true)
def qTB.f (a0 : List ByteArray) : Option Bool :=
 qTB.l0 a0 (((lenI a0) - 0).toNat + 1) 0
def qHE.f (a0 : Json) : Option Bool :=
 bif (bo3 (bo3 (bo3 (decide (0 < (lenI a0.List_))) (decide (a0.Kind ≠ 4)) false) (decide (a0.Kind ≠ 5)) false) true (bo3 (decide (0 < (lenI a0.Names))) (decide (a0.Kind ≠ 5)) false)) then (
 some false)
 else (
 bif (bo3 (bo3 (bo3 (decide (a0.N ≠ 0)) (decide (a0.Kind ≠ 1)) false) (decide (a0.Kind ≠ 2)) false) true (bo3 (Ls.sc .neq a0.S (ByteArray.mk #[])) (decide (a0.Kind ≠ 3)) false)) then (
 some false)
 else (
 bif (decide (a0.Kind = 1)) then (
 (qSC.f a0.N 0 1).bind fun r49 =>
 some r49)
 else (
 bif (decide (a0.Kind = 2)) then (
 (qGE.f a0.N).bind fun r51 =>
 some r51)
 else (
 bif (decide (a0.Kind = 3)) then (
 (qgB.f a0.S).bind fun r53 =>
 some r53)
 else (
 bif (decide (a0.Kind = 5)) then (
 (gd (decide ((lenI a0.Names) = (lenI a0.List_))) (qTB.f a0.Names)).bind fun r55 =>
 some (bo3 (decide ((lenI a0.Names) = (lenI a0.List_))) r55 false))
 else (
 some (bo3 (decide (a0.Kind = 0)) true (decide (a0.Kind = 4)))))))))
def qp.l0 (a0 : Json) (a1 : Int) (self : Json → Int → Option Int) : Nat → Int → Int → Option Int
 | 0, _, _ => none
 | k + 1, z13, z14 =>
  bif (decide (z14 < (lenI a0.List_))) then (
  (getO a0.List_ z14).bind fun x16 =>
  (self x16 (w64 (a1 - 1))).bind fun r17 =>
  bif (decide (400 < (w64 (z13 + r17)))) then (
  some 401)
  else (
  qp.l0 a0 a1 self k (w64 (z13 + r17)) (w64 (z14 + 1))))
  else (
  some z13)
def qp.b (self : Json → Int → Option Int) (a0 : Json) (a1 : Int) : Option Int :=
 (gd (bo3 (decide (a1 < 1)) false true) (qHE.f a0)).bind fun r1 =>
 bif (bo3 (decide (a1 < 1)) true (bo3 r1 false true)) then (
 some 401)
 else (
 qp.l0 a0 a1 self (((lenI a0.List_) - 0).toNat + 1) 1 0)
def qp.g : Nat → Json → Int → Option Int
 | 0 => fun _ _ => none
 | k + 1 => qp.b (qp.g k)
def qp.f (a0 : Json) (a1 : Int) : Option Int := qp.g 20 a0 a1
def qTC.f (a0 : Json) : Option Bool :=
 (qp.f a0 6).bind fun r1 =>
 some (decide (r1 ≤ 400))
def qmD.f (a0 : Json) : Option Json :=
 (qTC.f a0).bind fun r1 =>
 bif (bo3 r1 false true) then (
 some (Json.mk 0 0 ByteArray.empty [] []))
 else (
 some a0)
def qnD.f (a0 : ByteArray) : Option Json :=
 (qmD.f (Json.mk 3 0 a0 [] [])).bind fun r1 =>
 some r1
def qPB.l0 (a0 : ByteArray) : Nat → (List Int) → Int → Int → Option ByteArray
 | 0, _, _, _ => none
 | k + 1, z6, z7, z8 =>
  bif (decide (z8 < z7)) then (
  (inS a0 z8).bind fun u10 =>
  (gd (bo3 (decide ((Ls.sx a0 z8) = 34)) false true) (inS a0 z8)).bind fun u11 =>
  bif (bo3 (decide ((Ls.sx a0 z8) = 34)) true (decide ((Ls.sx a0 z8) = 92))) then (
  (some [92]).bind fun l19 =>
  (appO 1 z6 l19).bind fun l20 =>
  (inS a0 z8).bind fun u21 =>
  (some [(Ls.sx a0 z8)]).bind fun l22 =>
  (appO 1 l20 l22).bind fun l23 =>
  qPB.l0 a0 k l23 z7 (w64 (z8 + 1)))
  else (
  (inS a0 z8).bind fun u24 =>
  (some [(Ls.sx a0 z8)]).bind fun l25 =>
  (appO 1 z6 l25).bind fun l26 =>
  qPB.l0 a0 k l26 z7 (w64 (z8 + 1))))
  else (
  (some [34]).bind fun l27 =>
  (appO 1 z6 l27).bind fun l28 =>
  (some (bsO l28)).bind fun s29 =>
  some s29)
def qPB.f (a0 : ByteArray) : Option ByteArray :=
 (some [34]).bind fun l1 =>
 qPB.l0 a0 (((Ls.sl a0) - 0).toNat + 1) l1 (Ls.sl a0) 0
def strconv_Itoa.f (a0 : Int) : Option ByteArray := itoaO a0
def strings_Join.f (a0 : List ByteArray) (a1 : ByteArray) : Option ByteArray := joinO a0 a1
def qg.l0 (a0 : Json) (self : Json → Option ByteArray) (K2 : (List ByteArray) → Option ByteArray) : Nat → (List ByteArray) → Int → Option ByteArray
 | 0, _, _ => none
 | k + 1, z12, z13 =>
  bif (decide (z13 < (lenI a0.List_))) then (
  (getO a0.List_ z13).bind fun x15 =>
  (self x15).bind fun r16 =>
  bif (decide (a0.Kind = 5)) then (
  (getO a0.Names z13).bind fun x18 =>
  (qPB.f x18).bind fun r19 =>
  (addO r19 (ByteArray.mk #[58])).bind fun s20 =>
  (addO s20 r16).bind fun s21 =>
  (some [s21]).bind fun l22 =>
  (appO 16 z12 l22).bind fun l23 =>
  qg.l0 a0 self K2 k l23 (w64 (z13 + 1)))
  else (
  (some [r16]).bind fun l24 =>
  (appO 16 z12 l24).bind fun l25 =>
  qg.l0 a0 self K2 k l25 (w64 (z13 + 1))))
  else (
  K2 z12)
def qg.b (self : Json → Option ByteArray) (a0 : Json) : Option ByteArray :=
 joinK (fun (y1 : List ByteArray) =>
 bif (decide (a0.Kind = 0)) then (
 some (ByteArray.mk #[110, 117, 108, 108]))
 else (
 bif (decide (a0.Kind = 1)) then (
 (some [(ByteArray.mk #[102, 97, 108, 115, 101]), (ByteArray.mk #[116, 114, 117, 101])]).bind fun l28 =>
 (getO l28 a0.N).bind fun x29 =>
 some x29)
 else (
 bif (decide (a0.Kind = 2)) then (
 (strconv_Itoa.f a0.N).bind fun r31 =>
 some r31)
 else (
 bif (decide (a0.Kind = 3)) then (
 (qPB.f a0.S).bind fun r33 =>
 some r33)
 else (
 bif (decide (a0.Kind = 4)) then (
 (strings_Join.f y1 (ByteArray.mk #[44])).bind fun r35 =>
 (addO (ByteArray.mk #[91]) r35).bind fun s36 =>
 (addO s36 (ByteArray.mk #[93])).bind fun s37 =>
 some s37)
 else (
 (strings_Join.f y1 (ByteArray.mk #[44])).bind fun r38 =>
 (addO (ByteArray.mk #[123]) r38).bind fun s39 =>
 (addO s39 (ByteArray.mk #[125])).bind fun s40 =>
 some s40)))))) (fun K2 =>
 qg.l0 a0 self K2 (((lenI a0.List_) - 0).toNat + 1) [] 0)
def qg.g : Nat → Json → Option ByteArray
 | 0 => fun _ => none
 | k + 1 => qg.b (qg.g k)
def qg.f (a0 : Json) : Option ByteArray := qg.g 20 a0
def qHC.f (a0 : Json) : Option ByteArray :=
 (qTC.f a0).bind fun r1 =>
 bif (bo3 r1 false true) then (
 some (ByteArray.mk #[]))
 else (
 (qg.f a0).bind fun r3 =>
 bif (decide (6000 < (Ls.sl r3))) then (
 some (ByteArray.mk #[]))
 else (
 some r3))
def qfD.f (a0 : ByteArray) : Option ByteArray :=
 (qnD.f a0).bind fun r1 =>
 (qHC.f r1).bind fun r2 =>
 some r2
def qCD.f (a0 : ByteArray) : Option Json :=
 (qAD.f (Json.mk 3 0 a0 [] [])).bind fun r1 =>
 bif (bo3 r1 false true) then (
 some (Json.mk 0 0 ByteArray.empty [] []))
 else (
 some (Json.mk 3 0 a0 [] []))
def qgD.f (a0 : ByteArray) : Option ByteArray :=
 (qCD.f a0).bind fun r1 =>
 (qQC.f r1).bind fun r2 =>
 some r2
def qaG.f (a0 : List Int) : Option Bool :=
 some (decide (1048576 < (lenI a0)))
def qoD.f (a0 : l1Cur) (a1 : Int) : Option (l1Cur × Bool) :=
 (qf.f a0 a1).bind fun r1 =>
 some ((l1Cur.mk a0.b r1.1.i r1.1.h), (decide (r1.2 = 0)))
def qKB.l0 (a0 : Json) (a1 : ByteArray) (a2 : Json) (K4 : (List Json) → (List ByteArray) → Bool → Option Json) : Nat → (List Json) → (List ByteArray) → Bool → Int → Option Json
 | 0, _, _, _, _ => none
 | k + 1, z45, z46, z47, z48 =>
  bif (decide (z48 < (lenI a0.Names))) then (
  joinK (fun (y50 : List Json) (y51 : List ByteArray) (y52 : Bool) =>
  (getO a0.Names z48).bind fun x69 =>
  bif (Ls.sc .neq x69 a1) then (
  (some [x69]).bind fun l71 =>
  (appO 16 y51 l71).bind fun l72 =>
  (getO a0.List_ z48).bind fun x73 =>
  (some [x73]).bind fun l74 =>
  (appO 80 y50 l74).bind fun l75 =>
  qKB.l0 a0 a1 a2 K4 k l75 l72 y52 (w64 (z48 + 1)))
  else (
  qKB.l0 a0 a1 a2 K4 k y50 y51 y52 (w64 (z48 + 1)))) (fun K53 =>
  (gd (bo3 z47 false true) (getO a0.Names z48)).bind fun x54 =>
  bif (bo3 (bo3 z47 false true) (Ls.sc .geq x54 a1) false) then (
  (some [a1]).bind fun l65 =>
  (appO 16 z46 l65).bind fun l66 =>
  (some [a2]).bind fun l67 =>
  (appO 80 z45 l67).bind fun l68 =>
  K53 l68 l66 true)
  else (
  K53 z45 z46 z47)))
  else (
  K4 z45 z46 z47)
def qKB.f (a0 : Json) (a1 : ByteArray) (a2 : Json) : Option Json :=
 joinK (fun (y1 : List Json) (y2 : List ByteArray) (y3 : Bool) =>
 bif (bo3 y3 false true) then (
 (some [a1]).bind fun l77 =>
 (appO 16 y2 l77).bind fun l78 =>
 (some [a2]).bind fun l79 =>
 (appO 80 y1 l79).bind fun l80 =>
 some (Json.mk 5 0 ByteArray.empty l80 l78))
 else (
 some (Json.mk 5 0 ByteArray.empty y1 y2))) (fun K4 =>
 qKB.l0 a0 a1 a2 K4 (((lenI a0.Names) - 0).toNat + 1) [] [] false 0)
def qO.l0 (a0 : l1Cur) (a1 : Int) : Nat → Int → Int → (List Json) → Int → Option (l1Cur × Json)
 | 0, _, _, _, _ => none
 | k + 1, z49, z50, z51, z52 =>
  (qf.f (l1Cur.mk a0.b z49 z50) 5).bind fun r53 =>
  bif (decide (z52 < r53.2)) then (
  (qF.f (l1Cur.mk a0.b r53.1.i r53.1.h) (w64 (a1 - 1))).bind fun r55 =>
  (some [r55.2]).bind fun l56 =>
  (appO 80 z51 l56).bind fun l57 =>
  qO.l0 a0 a1 k r55.1.i r55.1.h l57 (w64 (z52 + 1)))
  else (
  some ((l1Cur.mk a0.b r53.1.i r53.1.h), (Json.mk 4 0 ByteArray.empty z51 [])))
def qO.l1 (a0 : l1Cur) (a1 : Int) : Nat → Int → Int → Int → Int → ByteArray → (List Json) → (List ByteArray) → Int → Option (l1Cur × Json)
 | 0, _, _, _, _, _, _, _, _ => none
 | k + 1, z82, z83, z84, z85, z86, z87, z88, z89 =>
  (qf.f (l1Cur.mk a0.b z82 z83) 5).bind fun r90 =>
  bif (decide (z89 < r90.2)) then (
  (qAC.f (l1Cur.mk a0.b r90.1.i r90.1.h)).bind fun r92 =>
  (qPC.f (Json.mk z84 z85 z86 z87 z88) r92.2).bind fun r93 =>
  bif (decide (r93 < 0)) then (
  (qF.f (l1Cur.mk a0.b r92.1.i r92.1.h) (w64 (a1 - 1))).bind fun r95 =>
  (qKB.f (Json.mk z84 z85 z86 z87 z88) r92.2 r95.2).bind fun r96 =>
  qO.l1 a0 a1 k r95.1.i r95.1.h r96.Kind r96.N r96.S r96.List_ r96.Names (w64 (z89 + 1)))
  else (
  qO.l1 a0 a1 k r92.1.i r92.1.h z84 z85 z86 z87 z88 (w64 (z89 + 1))))
  else (
  some ((l1Cur.mk a0.b r90.1.i r90.1.h), (Json.mk z84 z85 z86 z87 z88)))
def qO.f (a0 : l1Cur) (a1 : Int) : Option (l1Cur × Json) :=
 (qf.f a0 8).bind fun r1 =>
 joinK (fun (y2 : Int) (y3 : Int) (y4 : Int) =>
 joinK (fun (y8 : Unit) =>
 qO.l1 a0 a1 1000 y2 y3 5 0 ByteArray.empty [] [] 0) (fun K9 =>
 bif (decide (y4 = 0)) then (
 some ((l1Cur.mk a0.b y2 y3), (Json.mk 0 0 ByteArray.empty [] [])))
 else (
 bif (decide (y4 = 1)) then (
 (qf.f (l1Cur.mk a0.b y2 y3) 2).bind fun r12 =>
 some ((l1Cur.mk a0.b r12.1.i r12.1.h), (Json.mk 1 r12.2 ByteArray.empty [] [])))
 else (
 bif (decide (y4 = 2)) then (
 (some [(ByteArray.mk #[]), (ByteArray.mk #[120]), (ByteArray.mk #[97, 34, 98]), (ByteArray.mk #[97, 92, 92, 98]), (ByteArray.mk #[104, 101, 108, 108, 111, 32, 116, 104, 101, 114, 101]), (ByteArray.mk #[126, 49])]).bind fun l14 =>
 (qmB.f (l1Cur.mk a0.b y2 y3) l14).bind fun r15 =>
 some ((l1Cur.mk a0.b r15.1.i r15.1.h), (Json.mk 3 0 r15.2 [] [])))
 else (
 joinK (fun (y16 : Bool) =>
 bif y16 then (
 (some [0, 1, (-5), 77, 1000000000, (-1000000000)]).bind fun l20 =>
 (qYB.f (l1Cur.mk a0.b y2 y3) l20).bind fun r21 =>
 some ((l1Cur.mk a0.b r21.1.i r21.1.h), (Json.mk 2 r21.2 ByteArray.empty [] [])))
 else (
 joinK (fun (y22 : Bool) =>
 bif y22 then (
 qO.l0 a0 a1 1000 y2 y3 [] 0)
 else (
 K9 ())) (fun K23 =>
 bif (decide (y4 = 5)) then (
 K23 (decide (y4 = 5)))
 else (
 K23 (decide (y4 = 6)))))) (fun K17 =>
 bif (decide (y4 = 3)) then (
 K17 (decide (y4 = 3)))
 else (
 K17 (decide (y4 = 4))))))))) (fun K5 =>
 bif (decide (a1 ≤ 1)) then (
 (qf.f (l1Cur.mk a0.b r1.1.i r1.1.h) 5).bind fun r7 =>
 K5 r7.1.i r7.1.h r7.2)
 else (
 K5 r1.1.i r1.1.h r1.2))
def qnB.l0 (a0 : l1Cur) (r2 : l1Cur × Int) : Nat → Int → Int → ByteArray → (List Json) → (List ByteArray) → Int → Option (l1Cur × Json)
 | 0, _, _, _, _, _, _ => none
 | k + 1, z27, z28, z29, z30, z31, z32 =>
  bif (decide (z32 < 5)) then (
  (some [(Json.mk z27 z28 z29 z30 z31)]).bind fun l34 =>
  qnB.l0 a0 r2 k 4 0 ByteArray.empty l34 [] (w64 (z32 + 1)))
  else (
  some ((l1Cur.mk a0.b r2.1.i r2.1.h), (Json.mk z27 z28 z29 z30 z31)))
def qnB.f (a0 : l1Cur) : Option (l1Cur × Json) :=
 (qO.f a0 4).bind fun r1 =>
 (qf.f (l1Cur.mk a0.b r1.1.i r1.1.h) 20).bind fun r2 =>
 bif (decide (r2.2 = 0)) then (
 (qf.f (l1Cur.mk a0.b r2.1.i r2.1.h) 8).bind fun r4 =>
 some ((l1Cur.mk a0.b r4.1.i r4.1.h), (Json.mk (w64 (r4.2 - 1)) r1.2.N r1.2.S r1.2.List_ r1.2.Names)))
 else (
 bif (decide (r2.2 = 1)) then (
 (some [1, 2, (-1), 1000000001]).bind fun l6 =>
 (qYB.f (l1Cur.mk a0.b r2.1.i r2.1.h) l6).bind fun r7 =>
 some ((l1Cur.mk a0.b r7.1.i r7.1.h), (Json.mk r1.2.Kind r7.2 r1.2.S r1.2.List_ r1.2.Names)))
 else (
 bif (decide (r2.2 = 2)) then (
 (some [(ByteArray.mk #[120]), (ByteArray.mk #[1]), (ByteArray.mk #[127])]).bind fun l9 =>
 (qmB.f (l1Cur.mk a0.b r2.1.i r2.1.h) l9).bind fun r10 =>
 some ((l1Cur.mk a0.b r10.1.i r10.1.h), (Json.mk r1.2.Kind r1.2.N r10.2 r1.2.List_ r1.2.Names)))
 else (
 bif (decide (r2.2 = 3)) then (
 (some [(ByteArray.mk #[97])]).bind fun l12 =>
 (appO 16 r1.2.Names l12).bind fun l13 =>
 some ((l1Cur.mk a0.b r2.1.i r2.1.h), (Json.mk r1.2.Kind r1.2.N r1.2.S r1.2.List_ l13)))
 else (
 bif (decide (r2.2 = 4)) then (
 qnB.l0 a0 r2 (((5 : Int) - 0).toNat + 1) r1.2.Kind r1.2.N r1.2.S r1.2.List_ r1.2.Names 0)
 else (
 bif (decide (r2.2 = 5)) then (
 (qf.f (l1Cur.mk a0.b r2.1.i r2.1.h) 2).bind fun r36 =>
 (mkO 80 (w64 (399 + r36.2)) (Json.mk 0 0 ByteArray.empty [] [])).bind fun l37 =>
 some ((l1Cur.mk a0.b r36.1.i r36.1.h), (Json.mk 4 0 ByteArray.empty l37 [])))
 else (
 some ((l1Cur.mk a0.b r2.1.i r2.1.h), r1.2)))))))
def qEB.l0  : Nat → (List Json) → Int → Option Json
 | 0, _, _ => none
 | k + 1, z22, z23 =>
  bif (decide (z23 < 120)) then (
  (qCD.f (ByteArray.mk #[48, 49, 50, 51, 52, 53, 54, 55, 56, 57, 48, 49, 50, 51, 52, 53, 54, 55, 56, 57, 48, 49, 50, 51, 52, 53, 54, 55, 56, 57, 48, 49, 50, 51, 52, 53, 54, 55, 56, 57, 48, 49, 50, 51, 52, 53, 54, 55, 56, 57])).bind fun r25 =>
  (some [r25]).bind fun l26 =>
  (appO 80 z22 l26).bind fun l27 =>
  qEB.l0 k l27 (w64 (z23 + 1)))
  else (
  some (Json.mk 4 0 ByteArray.empty z22 []))
def qEB.f (a0 : List Int) : Option Json :=
 (qkB.f a0).bind fun r1 =>
 joinK (fun (y2 : Int) (y3 : Int) =>
 (qnB.f (l1Cur.mk r1.b y2 y3)).bind fun r28 =>
 some r28.2) (fun K4 =>
 (qoD.f r1 60).bind fun r5 =>
 bif r5.2 then (
 qEB.l0 (((120 : Int) - 0).toNat + 1) [] 0)
 else (
 K4 r5.1.i r5.1.h))
def qo.f (a0 : ByteArray) (a1 : ByteArray) : Option Bool :=
 (gd (decide ((Ls.sl a1) ≤ (Ls.sl a0))) (cutS a0 0 (Ls.sl a1))).bind fun u1 =>
 some (bo3 (decide ((Ls.sl a1) ≤ (Ls.sl a0))) (Ls.sc .eql (Ls.ss a0 0 (Ls.sl a1)) a1) false)
def qy.f (a0 : ByteArray) (a1 : ByteArray) : Option (ByteArray × Bool) :=
 (qo.f a0 a1).bind fun r1 =>
 bif (bo3 r1 false true) then (
 some (a0, false))
 else (
 (cutS a0 (Ls.sl a1) (Ls.sl a0)).bind fun u3 =>
 some ((Ls.ss a0 (Ls.sl a1) (Ls.sl a0)), true))
def qCC.f (a0 : ByteArray) (a1 : ByteArray) : Option (ByteArray × Bool) :=
 (qy.f a0 a1).bind fun r1 =>
 some (r1.1, r1.2)
def qS.f (a0 : reader) (a1 : ByteArray) : Option (reader × Bool) :=
 (qCC.f a0.text a1).bind fun r1 =>
 some ((reader.mk r1.1 a0.bad), (bo3 r1.2 (bo3 a0.bad false true) false))
def qDC.f (a0 : ByteArray) (a1 : ByteArray) : Option Bool :=
 (qo.f a0 a1).bind fun r1 =>
 some r1
def qFB.f (a0 : reader) (a1 : ByteArray) : Option reader :=
 (qS.f a0 a1).bind fun r1 =>
 bif (bo3 r1.2 false true) then (
 some (reader.mk r1.1.text true))
 else (
 some r1.1)
def qT.l0  : Nat → ByteArray → Bool → (List Int) → Option (reader × ByteArray)
 | 0, _, _, _ => none
 | k + 1, z5, z6, z7 =>
  bif (bo3 z6 false true) then (
  (qS.f (reader.mk z5 z6) (ByteArray.mk #[34])).bind fun r9 =>
  bif r9.2 then (
  (some (bsO z7)).bind fun s11 =>
  some (r9.1, s11))
  else (
  (qS.f r9.1 (ByteArray.mk #[92])).bind fun r12 =>
  bif (Ls.sc .eql r12.1.text (ByteArray.mk #[])) then (
  some ((reader.mk r12.1.text true), (ByteArray.mk #[])))
  else (
  (inS r12.1.text 0).bind fun u14 =>
  (some [(Ls.sx r12.1.text 0)]).bind fun l15 =>
  (appO 1 z7 l15).bind fun l16 =>
  (cutS r12.1.text 1 (Ls.sl r12.1.text)).bind fun u17 =>
  qT.l0 k (Ls.ss r12.1.text 1 (Ls.sl r12.1.text)) r12.1.bad l16)))
  else (
  some ((reader.mk z5 z6), (ByteArray.mk #[])))
def qT.f (a0 : reader) : Option (reader × ByteArray) :=
 (qFB.f a0 (ByteArray.mk #[34])).bind fun r1 =>
 qT.l0 (a0.text.size + 2) r1.text r1.bad []
def qK.l0 (a1 : Int) (a3 : Int) (self : reader → Int → Option (reader × Json)) (K7 : ByteArray → Bool → (List Json) → (List ByteArray) → Option (reader × Json)) : Nat → ByteArray → Bool → (List Json) → (List ByteArray) → Bool → Option (reader × Json)
 | 0, _, _, _, _, _ => none
 | k + 1, z34, z35, z36, z37, z38 =>
  bif (bo3 z38 (bo3 z35 false true) false) then (
  joinK (fun (y47 : ByteArray) (y48 : Bool) (y49 : List ByteArray) =>
  (self (reader.mk y47 y48) (w64 (a3 - 1))).bind fun r56 =>
  (some [r56.2]).bind fun l57 =>
  (appO 80 z36 l57).bind fun l58 =>
  (qS.f r56.1 (ByteArray.mk #[44])).bind fun r59 =>
  qK.l0 a1 a3 self K7 k r59.1.text r59.1.bad l58 y49 r59.2) (fun K50 =>
  bif (decide (a1 = 5)) then (
  (qT.f (reader.mk z34 z35)).bind fun r52 =>
  (qFB.f r52.1 (ByteArray.mk #[58])).bind fun r53 =>
  (some [r52.2]).bind fun l54 =>
  (appO 16 z37 l54).bind fun l55 =>
  K50 r53.text r53.bad l55)
  else (
  K50 z34 z35 z37)))
  else (
  K7 z34 z35 z36 z37)
def qK.f (self : reader → Int → Option (reader × Json)) (a0 : reader) (a1 : Int) (a2 : ByteArray) (a3 : Int) : Option (reader × Json) :=
 (qS.f a0 a2).bind fun r1 =>
 bif r1.2 then (
 some (r1.1, (Json.mk a1 0 ByteArray.empty [] [])))
 else (
 joinK (fun (y3 : ByteArray) (y4 : Bool) (y5 : List Json) (y6 : List ByteArray) =>
 (qFB.f (reader.mk y3 y4) a2).bind fun r60 =>
 some (r60, (Json.mk a1 0 ByteArray.empty y5 y6))) (fun K7 =>
 qK.l0 a1 a3 self K7 (a0.text.size + 2) r1.1.text r1.1.bad [] [] true))
def qFC.f (a0 : ByteArray) : Option (Int × Bool) := atoiO a0
def qR.l0 (a0 : reader) (K2 : Int → Option (reader × Json)) : Nat → Int → Option (reader × Json)
 | 0, _ => none
 | k + 1, z9 =>
  (gd (decide (z9 < (Ls.sl a0.text))) (inS a0.text z9)).bind fun u10 =>
  (gd (decide (z9 < (Ls.sl a0.text))) (qSC.f (w64 (Ls.sx a0.text z9)) 48 57)).bind fun r11 =>
  (gd (bo3 (bo3 (decide (z9 < (Ls.sl a0.text))) (bo3 r11 false true) false) (decide (z9 = 0)) false) (inS a0.text 0)).bind fun u12 =>
  bif (bo3 (decide (z9 < (Ls.sl a0.text))) (bo3 r11 true (bo3 (decide (z9 = 0)) (decide ((Ls.sx a0.text 0) = 45)) false)) false) then (
  qR.l0 a0 K2 k (w64 (z9 + 1)))
  else (
  K2 z9)
def qR.f (a0 : reader) : Option (reader × Json) :=
 joinK (fun (y1 : Int) =>
 (cutS a0.text 0 y1).bind fun u40 =>
 (qFC.f (Ls.ss a0.text 0 y1)).bind fun r41 =>
 bif r41.2 then (
 bif false then (
 none)
 else (
 (cutS a0.text y1 (Ls.sl a0.text)).bind fun u44 =>
 some ((reader.mk (Ls.ss a0.text y1 (Ls.sl a0.text)) a0.bad), (Json.mk 2 r41.1 ByteArray.empty [] []))))
 else (
 bif true then (
 (cutS a0.text y1 (Ls.sl a0.text)).bind fun u46 =>
 some ((reader.mk (Ls.ss a0.text y1 (Ls.sl a0.text)) true), (Json.mk 2 r41.1 ByteArray.empty [] [])))
 else (
 none))) (fun K2 =>
 qR.l0 a0 K2 (((Ls.sl a0.text) - 0).toNat + 1) 0)
def qG.b (self : reader → Int → Option (reader × Json)) (a0 : reader) (a1 : Int) : Option (reader × Json) :=
 bif (bo3 (decide (a1 < 1)) true a0.bad) then (
 some ((reader.mk a0.text true), (Json.mk 0 0 ByteArray.empty [] [])))
 else (
 (qS.f a0 (ByteArray.mk #[110, 117, 108, 108])).bind fun r8 =>
 bif r8.2 then (
 some (r8.1, (Json.mk 0 0 ByteArray.empty [] [])))
 else (
 (qS.f r8.1 (ByteArray.mk #[102, 97, 108, 115, 101])).bind fun r10 =>
 bif r10.2 then (
 some (r10.1, (Json.mk 1 0 ByteArray.empty [] [])))
 else (
 (qS.f r10.1 (ByteArray.mk #[116, 114, 117, 101])).bind fun r12 =>
 bif r12.2 then (
 some (r12.1, (Json.mk 1 1 ByteArray.empty [] [])))
 else (
 (qDC.f r12.1.text (ByteArray.mk #[34])).bind fun r14 =>
 bif r14 then (
 (qT.f r12.1).bind fun r16 =>
 some (r16.1, (Json.mk 3 0 r16.2 [] [])))
 else (
 (qS.f r12.1 (ByteArray.mk #[91])).bind fun r17 =>
 bif r17.2 then (
 (qK.f self r17.1 4 (ByteArray.mk #[93]) a1).bind fun r19 =>
 some (r19.1, r19.2))
 else (
 (qS.f r17.1 (ByteArray.mk #[123])).bind fun r20 =>
 bif r20.2 then (
 (qK.f self r20.1 5 (ByteArray.mk #[125]) a1).bind fun r22 =>
 some (r22.1, r22.2))
 else (
 (qR.f r20.1).bind fun r23 =>
 some (r23.1, r23.2))))))))
def qG.g : Nat → reader → Int → Option (reader × Json)
 | 0 => fun _ _ => none
 | k + 1 => qG.b (qG.g k)
def qG.f (a0 : reader) (a1 : Int) : Option (reader × Json) := qG.g 20 a0 a1
def qkC.f (a0 : ByteArray) : Option (Json × Bool) :=
 bif (decide (6000 < (Ls.sl a0))) then (
 some ((Json.mk 0 0 ByteArray.empty [] []), false))
 else (
 (qG.f (reader.mk a0 false) 6).bind fun r2 =>
 (gd (bo3 r2.1.bad false true) (qHC.f r2.2)).bind fun r3 =>
 bif (bo3 r2.1.bad true (Ls.sc .neq r3 a0)) then (
 some ((Json.mk 0 0 ByteArray.empty [] []), false))
 else (
 some (r2.2, true)))
def qi.l0 (a0 : List ByteArray) (a1 : List ByteArray) : Nat → Int → Option Bool
 | 0, _ => none
 | k + 1, z6 =>
  bif (decide (z6 < (lenI a0))) then (
  (getO a0 z6).bind fun x8 =>
  (getO a1 z6).bind fun x9 =>
  bif (Ls.sc .neq x8 x9) then (
  some false)
  else (
  qi.l0 a0 a1 k (w64 (z6 + 1))))
  else (
  some true)
def qi.f (a0 : List ByteArray) (a1 : List ByteArray) : Option Bool :=
 bif (decide ((lenI a0) ≠ (lenI a1))) then (
 some false)
 else (
 qi.l0 a0 a1 (((lenI a0) - 0).toNat + 1) 0)
def qH.l0 (a0 : List Json) (a1 : List Json) (self : Json → Json → Option Bool) : Nat → Int → Option Bool
 | 0, _ => none
 | k + 1, z6 =>
  bif (decide (z6 < (lenI a0))) then (
  (getO a0 z6).bind fun x8 =>
  (getO a1 z6).bind fun x9 =>
  (self x8 x9).bind fun r10 =>
  bif (bo3 r10 false true) then (
  some false)
  else (
  qH.l0 a0 a1 self k (w64 (z6 + 1))))
  else (
  some true)
def qH.f (self : Json → Json → Option Bool) (a0 : List Json) (a1 : List Json) : Option Bool :=
 bif (decide ((lenI a0) ≠ (lenI a1))) then (
 some false)
 else (
 qH.l0 a0 a1 self (((lenI a0) - 0).toNat + 1) 0)
def qWB.b (self : Json → Json → Option Bool) (a0 : Json) (a1 : Json) : Option Bool :=
 (gd (bo3 (bo3 (decide (a0.Kind = a1.Kind)) (decide (a0.N = a1.N)) false) (Ls.sc .eql a0.S a1.S) false) (qi.f a0.Names a1.Names)).bind fun r1 =>
 (gd (bo3 (bo3 (bo3 (decide (a0.Kind = a1.Kind)) (decide (a0.N = a1.N)) false) (Ls.sc .eql a0.S a1.S) false) r1 false) (qH.f self a0.List_ a1.List_)).bind fun r2 =>
 some (bo3 (bo3 (bo3 (bo3 (decide (a0.Kind = a1.Kind)) (decide (a0.N = a1.N)) false) (Ls.sc .eql a0.S a1.S) false) r1 false) r2 false)
def qWB.g : Nat → Json → Json → Option Bool
 | 0 => fun _ _ => none
 | k + 1 => qWB.b (qWB.g k)
def qWB.f (a0 : Json) (a1 : Json) : Option Bool := qWB.g 20 a0 a1
def qtC.f (a0 : Json) (a1 : Json) : Option Bool :=
 (qTC.f a0).bind fun r1 =>
 (gd r1 (qTC.f a1)).bind fun r2 =>
 (gd (bo3 r1 r2 false) (qWB.f a0 a1)).bind fun r3 =>
 some (bo3 (bo3 r1 r2 false) r3 false)
def qWE.f (a0 : List Int) : Option Bool :=
 (qaG.f a0).bind fun r1 =>
 bif r1 then (
 some true)
 else (
 (qEB.f a0).bind fun r3 =>
 (qHC.f r3).bind fun r4 =>
 (qQC.f r3).bind fun r5 =>
 bif (Ls.sc .neq r4 r5) then (
 some false)
 else (
 joinK (fun (y7 : Unit) =>
 (qBC.f a0).bind fun r19 =>
 (qkC.f r19).bind fun r20 =>
 (qBD.f r19).bind fun r21 =>
 (qKC.f a0).bind fun r22 =>
 (gd (bo3 r20.2 r21.2 (bo3 r21.2 false true)) (qfD.f r22)).bind fun r23 =>
 (gd (bo3 r20.2 r21.2 (bo3 r21.2 false true)) (qgD.f r22)).bind fun r24 =>
 (gd (bo3 (bo3 (bo3 (bo3 r20.2 r21.2 (bo3 r21.2 false true)) (Ls.sc .eql r23 r24) false) (bo3 (bo3 (bo3 r20.2 false true) (decide (r20.1.Kind = 0)) false) false true) false) r20.2 false) (qHC.f r20.1)).bind fun r25 =>
 some (bo3 (bo3 (bo3 r20.2 r21.2 (bo3 r21.2 false true)) (Ls.sc .eql r23 r24) false) (bo3 (bo3 (bo3 r20.2 false true) (decide (r20.1.Kind = 0)) false) true (bo3 r20.2 (Ls.sc .eql r25 r19) false)) false)) (fun K8 =>
 bif (Ls.sc .neq r4 (ByteArray.mk #[])) then (
 (qkC.f r4).bind fun r10 =>
 (gd (bo3 (bo3 r10.2 false true) false true) (qtC.f r10.1 r3)).bind fun r11 =>
 bif (bo3 (bo3 r10.2 false true) true (bo3 r11 false true)) then (
 some false)
 else (
 K8 ()))
 else (
 K8 ()))))
end Go.Proofs.YtcpekllcbimpmaaGreatDoor.L