/- The pure functions of the program. -/
import Derived.Test.YtcpekllcbimpmaaDoorSl50
namespace Go.Proofs.YtcpekllcbimpmaaDoor.L
open Go
set_option linter.unusedVariables false
structure Json where
  Kind : Int
  N : Int
  S : ByteArray
  List_ : List Json
  Names : List ByteArray
instance : Inhabited Json := ⟨⟨0, 0, ByteArray.empty, [], []⟩⟩
noncomputable instance : DecidableEq Json := fun _ _ => Classical.propDecidable _
structure l2Cur where
  s : ByteArray
  at_ : Int
  ok : Bool
  left : Int
  deriving Inhabited, DecidableEq
structure reader where
  text : ByteArray
  bad : Bool
  deriving Inhabited, DecidableEq

def spec_l2Peek.f (a0 : l2Cur) : Option Int :=
  bif (decide ((Ls.sl a0.s) ≤ a0.at_)) then (
  some 0)
  else (
  (inS a0.s a0.at_).bind fun u2 =>
  some (Ls.sx a0.s a0.at_))

def spec_l2Number.l0 (a0 : l2Cur) (y2 : Int) (K8 : Int → Int → Option (l2Cur × Int)) : Nat → Int → Int → Option (l2Cur × Int)
  | 0, _, _ => none
  | k + 1, z16, z17 =>
    (spec_l2Peek.f (l2Cur.mk a0.s z16 a0.ok a0.left)).bind fun r18 =>
    (gd (decide (48 ≤ r18)) (spec_l2Peek.f (l2Cur.mk a0.s z16 a0.ok a0.left))).bind fun r19 =>
    bif (bo3 (bo3 (decide (48 ≤ r18)) (decide (r19 ≤ 57)) false) (decide ((w64 (z16 - y2)) < 11)) false) then (
    (spec_l2Peek.f (l2Cur.mk a0.s z16 a0.ok a0.left)).bind fun r35 =>
    spec_l2Number.l0 a0 y2 K8 k (w64 (z16 + 1)) (w64 ((w64 ((w64 (10 * z17)) + (w64 r35))) - 48)))
    else (
    K8 z16 z17)
def spec_l2Number.f (a0 : l2Cur) : Option (l2Cur × Int) :=
  (spec_l2Peek.f a0).bind fun r1 =>
  joinK (fun (y2 : Int) (y3 : Bool) =>
  joinK (fun (y6 : Int) (y7 : Int) =>
  joinK (fun (y36 : Bool) =>
  bif y3 then (
  some ((l2Cur.mk a0.s y6 y36 a0.left), (w64 (0 - y7))))
  else (
  some ((l2Cur.mk a0.s y6 y36 a0.left), y7))) (fun K37 =>
  bif (decide (y6 = y2)) then (
  K37 false)
  else (
  K37 a0.ok))) (fun K8 =>
  spec_l2Number.l0 a0 y2 K8 20 y2 0)) (fun K4 =>
  bif (decide (r1 = 45)) then (
  K4 (w64 (a0.at_ + 1)) (decide (r1 = 45)))
  else (
  K4 a0.at_ (decide (r1 = 45))))

def spec_l2Take.f (a0 : l2Cur) (a1 : ByteArray) : Option l2Cur :=
  (gd (bo3 (decide ((w64 ((Ls.sl a0.s) - a0.at_)) < (Ls.sl a1))) false true) (cutS a0.s a0.at_ (w64 (a0.at_ + (Ls.sl a1))))).bind fun u1 =>
  bif (bo3 (decide ((w64 ((Ls.sl a0.s) - a0.at_)) < (Ls.sl a1))) true (Ls.sc .neq (Ls.ss a0.s a0.at_ (w64 (a0.at_ + (Ls.sl a1)))) a1)) then (
  some (l2Cur.mk a0.s a0.at_ false a0.left))
  else (
  some (l2Cur.mk a0.s (w64 (a0.at_ + (Ls.sl a1))) a0.ok a0.left))

def spec_l2String.l0 (r1 : l2Cur) (K5 : Int → Bool → (List Int) → Option (l2Cur × ByteArray)) : Nat → Int → (List Int) → Option (l2Cur × ByteArray)
  | 0, _, _ => none
  | k + 1, z11, z12 =>
    (gd r1.ok (spec_l2Peek.f (l2Cur.mk r1.s z11 r1.ok r1.left))).bind fun r13 =>
    bif (bo3 r1.ok (decide (r13 ≠ 34)) false) then (
    joinK (fun (y20 : Int) =>
    bif (decide ((Ls.sl r1.s) ≤ y20)) then (
    K5 y20 false z12)
    else (
    (inS r1.s y20).bind fun u25 =>
    (some [(Ls.sx r1.s y20)]).bind fun l26 =>
    (appO 1 z12 l26).bind fun l27 =>
    spec_l2String.l0 r1 K5 k (w64 (y20 + 1)) l27)) (fun K21 =>
    (spec_l2Peek.f (l2Cur.mk r1.s z11 r1.ok r1.left)).bind fun r22 =>
    bif (decide (r22 = 92)) then (
    K21 (w64 (z11 + 1)))
    else (
    K21 z11)))
    else (
    K5 z11 r1.ok z12)
def spec_l2String.f (a0 : l2Cur) : Option (l2Cur × ByteArray) :=
  (spec_l2Take.f a0 (ByteArray.mk #[34])).bind fun r1 =>
  joinK (fun (y2 : Int) (y3 : Bool) (y4 : List Int) =>
  (spec_l2Take.f (l2Cur.mk r1.s y2 y3 r1.left) (ByteArray.mk #[34])).bind fun r28 =>
  (some (bsO y4)).bind fun s29 =>
  some (r28, s29)) (fun K5 =>
  spec_l2String.l0 r1 K5 (a0.s.size + 2) r1.at_ [])

def spec_l2Many.l0 (a1 : Int) (y1 : Int) (y2 : ByteArray) (self : l2Cur → Int → Option (l2Cur × Json)) (K12 : ByteArray → Int → Bool → Int → (List Json) → (List ByteArray) → Option (l2Cur × Json)) : Nat → ByteArray → Int → Bool → Int → (List Json) → (List ByteArray) → Option (l2Cur × Json)
  | 0, _, _, _, _, _, _ => none
  | k + 1, z39, z40, z41, z42, z43, z44 =>
    (gd z41 (spec_l2Peek.f (l2Cur.mk z39 z40 z41 z42))).bind fun r45 =>
    (gd z41 (inS y2 0)).bind fun u46 =>
    bif (bo3 z41 (decide (r45 ≠ (Ls.sx y2 0))) false) then (
    joinK (fun (y55 : ByteArray) (y56 : Int) (y57 : Bool) (y58 : Int) =>
    joinK (fun (y62 : ByteArray) (y63 : Int) (y64 : Bool) (y65 : Int) (y66 : List ByteArray) =>
    (self (l2Cur.mk y62 y63 y64 y65) (w64 (a1 - 1))).bind fun r73 =>
    (some [r73.2]).bind fun l74 =>
    (appO 80 z43 l74).bind fun l75 =>
    spec_l2Many.l0 a1 y1 y2 self K12 k r73.1.s r73.1.at_ r73.1.ok r73.1.left l75 y66) (fun K67 =>
    bif (decide (y1 = 5)) then (
    (spec_l2String.f (l2Cur.mk y55 y56 y57 y58)).bind fun r69 =>
    (some [r69.2]).bind fun l70 =>
    (appO 16 z44 l70).bind fun l71 =>
    (spec_l2Take.f r69.1 (ByteArray.mk #[58])).bind fun r72 =>
    K67 r72.s r72.at_ r72.ok r72.left l71)
    else (
    K67 y55 y56 y57 y58 z44))) (fun K59 =>
    bif (decide (0 < (lenI z43))) then (
    (spec_l2Take.f (l2Cur.mk z39 z40 z41 z42) (ByteArray.mk #[44])).bind fun r61 =>
    K59 r61.s r61.at_ r61.ok r61.left)
    else (
    K59 z39 z40 z41 z42)))
    else (
    K12 z39 z40 z41 z42 z43 z44)
def spec_l2Many.f (self : l2Cur → Int → Option (l2Cur × Json)) (a0 : l2Cur) (a1 : Int) : Option (l2Cur × Json) :=
  joinK (fun (y1 : Int) (y2 : ByteArray) =>
  joinK (fun (y6 : ByteArray) (y7 : Int) (y8 : Bool) (y9 : Int) (y10 : List Json) (y11 : List ByteArray) =>
  (spec_l2Take.f (l2Cur.mk y6 y7 y8 y9) y2).bind fun r76 =>
  some (r76, (Json.mk y1 0 ByteArray.empty y10 y11))) (fun K12 =>
  spec_l2Many.l0 a1 y1 y2 self K12 1000 a0.s (w64 (a0.at_ + 1)) a0.ok a0.left [] [])) (fun K3 =>
  (spec_l2Peek.f a0).bind fun r4 =>
  bif (decide (r4 = 123)) then (
  K3 5 (ByteArray.mk #[125]))
  else (
  K3 4 (ByteArray.mk #[93])))

def spec_l2Value.b (self : l2Cur → Int → Option (l2Cur × Json)) (a0 : l2Cur) (a1 : Int) : Option (l2Cur × Json) :=
  joinK (fun (y1 : Bool) (y2 : Int) =>
  bif (bo3 y1 false true) then (
  some ((l2Cur.mk a0.s a0.at_ y1 y2), (Json.mk 0 0 ByteArray.empty [] [])))
  else (
  (spec_l2Peek.f (l2Cur.mk a0.s a0.at_ y1 y2)).bind fun r13 =>
  bif (decide (r13 = 110)) then (
  (spec_l2Take.f (l2Cur.mk a0.s a0.at_ y1 y2) (ByteArray.mk #[110, 117, 108, 108])).bind fun r15 =>
  some (r15, (Json.mk 0 0 ByteArray.empty [] [])))
  else (
  bif (decide (r13 = 116)) then (
  (spec_l2Take.f (l2Cur.mk a0.s a0.at_ y1 y2) (ByteArray.mk #[116, 114, 117, 101])).bind fun r17 =>
  some (r17, (Json.mk 1 1 ByteArray.empty [] [])))
  else (
  bif (decide (r13 = 102)) then (
  (spec_l2Take.f (l2Cur.mk a0.s a0.at_ y1 y2) (ByteArray.mk #[102, 97, 108, 115, 101])).bind fun r19 =>
  some (r19, (Json.mk 1 0 ByteArray.empty [] [])))
  else (
  bif (decide (r13 = 34)) then (
  (spec_l2String.f (l2Cur.mk a0.s a0.at_ y1 y2)).bind fun r21 =>
  some (r21.1, (Json.mk 3 0 r21.2 [] [])))
  else (
  joinK (fun (y22 : Bool) =>
  bif y22 then (
  (spec_l2Many.f self (l2Cur.mk a0.s a0.at_ y1 y2) a1).bind fun r26 =>
  some (r26.1, r26.2))
  else (
  (spec_l2Number.f (l2Cur.mk a0.s a0.at_ y1 y2)).bind fun r27 =>
  some (r27.1, (Json.mk 2 r27.2 ByteArray.empty [] [])))) (fun K23 =>
  bif (decide (r13 = 91)) then (
  K23 (decide (r13 = 91)))
  else (
  K23 (decide (r13 = 123)))))))))) (fun K3 =>
  bif (bo3 (decide (a1 = 0)) true (decide ((w64 (a0.left - 1)) < 0))) then (
  K3 false (w64 (a0.left - 1)))
  else (
  K3 a0.ok (w64 (a0.left - 1))))
def spec_l2Value.g : Nat → l2Cur → Int → Option (l2Cur × Json)
  | 0 => fun _ _ => none
  | k + 1 => spec_l2Value.b (spec_l2Value.g k)
def spec_l2Value.f (a0 : l2Cur) (a1 : Int) : Option (l2Cur × Json) := spec_l2Value.g 20 a0 a1

def spec_l1Text.l0 (a0 : ByteArray) : Nat → Int → Option Bool
  | 0, _ => none
  | k + 1, z3 =>
    bif (decide (z3 < (Ls.sl a0))) then (
    (inS a0 z3).bind fun u5 =>
    (gd (bo3 (decide ((Ls.sx a0 z3) < 32)) false true) (inS a0 z3)).bind fun u6 =>
    bif (bo3 (decide ((Ls.sx a0 z3) < 32)) true (decide (126 < (Ls.sx a0 z3)))) then (
    some false)
    else (
    spec_l1Text.l0 a0 k (w64 (z3 + 1))))
    else (
    some (decide ((Ls.sl a0) ≤ 60)))
def spec_l1Text.f (a0 : ByteArray) : Option Bool :=
  spec_l1Text.l0 a0 (((Ls.sl a0) - 0).toNat + 1) 0

def spec_l1Names.l0 (a0 : Json) : Nat → Int → Option Bool
  | 0, _ => none
  | k + 1, z8 =>
    bif (decide (z8 < (lenI a0.Names))) then (
    (getO a0.Names z8).bind fun x10 =>
    (spec_l1Text.f x10).bind fun r11 =>
    (gd (bo3 (bo3 (bo3 r11 false true) false true) (decide (0 < z8)) false) (getO a0.Names (w64 (z8 - 1)))).bind fun x12 =>
    bif (bo3 (bo3 r11 false true) true (bo3 (decide (0 < z8)) (Ls.sc .geq x12 x10) false)) then (
    some false)
    else (
    spec_l1Names.l0 a0 k (w64 (z8 + 1))))
    else (
    some (decide ((lenI a0.Names) = (lenI a0.List_))))
def spec_l1Names.f (a0 : Json) : Option Bool :=
  bif (decide (a0.Kind ≠ 5)) then (
  some (decide ((lenI a0.Names) = 0)))
  else (
  spec_l1Names.l0 a0 (((lenI a0.Names) - 0).toNat + 1) 0)

def spec_l1In.f (a0 : Int) (a1 : Int) (a2 : Int) : Option Bool :=
  some (bo3 (decide (a1 ≤ a0)) (decide (a0 ≤ a2)) false)

def spec_l1Great.l0 (a0 : Json) (a1 : Int) (self : Json → Int → Option Int) (K3 : Int → Option Int) : Nat → Int → Int → Option Int
  | 0, _, _ => none
  | k + 1, z28, z29 =>
    bif (bo3 (decide (z29 < (lenI a0.List_))) (decide (z28 ≤ 400)) false) then (
    (getO a0.List_ z29).bind fun x35 =>
    (self x35 (w64 (a1 - 1))).bind fun r36 =>
    spec_l1Great.l0 a0 a1 self K3 k (w64 (z28 + r36)) (w64 (z29 + 1)))
    else (
    K3 z28)
def spec_l1Great.b (self : Json → Int → Option Int) (a0 : Json) (a1 : Int) : Option Int :=
  bif (decide (a1 = 0)) then (
  some 401)
  else (
  joinK (fun (y2 : Int) =>
  (gd (bo3 (bo3 (bo3 (bo3 (decide (a0.Kind ≠ 3)) (Ls.sc .neq a0.S (ByteArray.mk #[])) false) true (bo3 (bo3 (decide (a0.Kind = 3)) true (decide (4 ≤ a0.Kind))) (decide (a0.N ≠ 0)) false)) true (bo3 (decide (a0.Kind < 4)) (decide (0 < (lenI a0.List_))) false)) false true) (spec_l1Names.f a0)).bind fun r37 =>
  bif (bo3 (bo3 (bo3 (bo3 (decide (a0.Kind ≠ 3)) (Ls.sc .neq a0.S (ByteArray.mk #[])) false) true (bo3 (bo3 (decide (a0.Kind = 3)) true (decide (4 ≤ a0.Kind))) (decide (a0.N ≠ 0)) false)) true (bo3 (decide (a0.Kind < 4)) (decide (0 < (lenI a0.List_))) false)) true (bo3 r37 false true)) then (
  some 401)
  else (
  some y2)) (fun K3 =>
  bif (decide (a0.Kind = 0)) then (
  bif (decide (a0.N ≠ 0)) then (
  some 401)
  else (
  K3 1))
  else (
  bif (decide (a0.Kind = 1)) then (
  (spec_l1In.f a0.N 0 1).bind fun r7 =>
  bif (bo3 r7 false true) then (
  some 401)
  else (
  K3 1))
  else (
  bif (decide (a0.Kind = 2)) then (
  (spec_l1In.f a0.N (-1000000000) 1000000000).bind fun r10 =>
  bif (bo3 r10 false true) then (
  some 401)
  else (
  K3 1))
  else (
  bif (decide (a0.Kind = 3)) then (
  (spec_l1Text.f a0.S).bind fun r13 =>
  bif (bo3 r13 false true) then (
  some 401)
  else (
  K3 1))
  else (
  joinK (fun (y15 : Bool) =>
  bif y15 then (
  spec_l1Great.l0 a0 a1 self K3 (((lenI a0.List_) - 0).toNat + 1) 1 0)
  else (
  some 401)) (fun K16 =>
  bif (decide (a0.Kind = 4)) then (
  K16 (decide (a0.Kind = 4)))
  else (
  K16 (decide (a0.Kind = 5))))))))))
def spec_l1Great.g : Nat → Json → Int → Option Int
  | 0 => fun _ _ => none
  | k + 1 => spec_l1Great.b (spec_l1Great.g k)
def spec_l1Great.f (a0 : Json) (a1 : Int) : Option Int := spec_l1Great.g 20 a0 a1

def spec_JsonOk.f (a0 : Json) : Option Bool :=
  (spec_l1Great.f a0 6).bind fun r1 =>
  some (decide (r1 ≤ 400))

def spec_l2Quote.l0 (a0 : ByteArray) : Nat → (List Int) → Int → Option ByteArray
  | 0, _, _ => none
  | k + 1, z5, z6 =>
    bif (decide (z6 < (Ls.sl a0))) then (
    (inS a0 z6).bind fun u8 =>
    (gd (bo3 (decide ((Ls.sx a0 z6) = 34)) false true) (inS a0 z6)).bind fun u9 =>
    bif (bo3 (decide ((Ls.sx a0 z6) = 34)) true (decide ((Ls.sx a0 z6) = 92))) then (
    (some [92]).bind fun l17 =>
    (appO 1 z5 l17).bind fun l18 =>
    (inS a0 z6).bind fun u19 =>
    (some [(Ls.sx a0 z6)]).bind fun l20 =>
    (appO 1 l18 l20).bind fun l21 =>
    spec_l2Quote.l0 a0 k l21 (w64 (z6 + 1)))
    else (
    (inS a0 z6).bind fun u22 =>
    (some [(Ls.sx a0 z6)]).bind fun l23 =>
    (appO 1 z5 l23).bind fun l24 =>
    spec_l2Quote.l0 a0 k l24 (w64 (z6 + 1))))
    else (
    (some [34]).bind fun l25 =>
    (appO 1 z5 l25).bind fun l26 =>
    (some (bsO l26)).bind fun s27 =>
    some s27)
def spec_l2Quote.f (a0 : ByteArray) : Option ByteArray :=
  (some [34]).bind fun l1 =>
  spec_l2Quote.l0 a0 (((Ls.sl a0) - 0).toNat + 1) l1 0

def spec_l2Digits.l0 (K4 : Bool → ByteArray → Option ByteArray) : Nat → Int → Bool → ByteArray → Option ByteArray
  | 0, _, _, _ => none
  | k + 1, z8, z9, z10 =>
    bif (decide (z8 ≠ 0)) then (
    bif (decide ((Int.tmod z8 10) < 0)) then (
    (some [(IntKind.wrap .u8 (w64 (48 + (w64 (0 - (Int.tmod z8 10))))))]).bind fun l13 =>
    (some (bsO l13)).bind fun s14 =>
    (smO s14 z10).bind fun u15 =>
    spec_l2Digits.l0 K4 k (w64 (Int.tdiv z8 10)) z9 (Ls.sa s14 z10))
    else (
    (some [(IntKind.wrap .u8 (w64 (48 + (Int.tmod z8 10))))]).bind fun l16 =>
    (some (bsO l16)).bind fun s17 =>
    (smO s17 z10).bind fun u18 =>
    spec_l2Digits.l0 K4 k (w64 (Int.tdiv z8 10)) z9 (Ls.sa s17 z10)))
    else (
    K4 z9 z10)
def spec_l2Digits.f (a0 : Int) : Option ByteArray :=
  bif (decide (a0 = 0)) then (
  some (ByteArray.mk #[48]))
  else (
  joinK (fun (y2 : Bool) (y3 : ByteArray) =>
  bif y2 then (
  (smO (ByteArray.mk #[45]) y3).bind fun u20 =>
  some (Ls.sa (ByteArray.mk #[45]) y3))
  else (
  some y3)) (fun K4 =>
  spec_l2Digits.l0 K4 30 a0 (decide (a0 < 0)) (ByteArray.mk #[])))

def spec_l2Encode.l0 (a0 : Json) (self : Json → Option ByteArray) (K9 : ByteArray → Option ByteArray) : Nat → ByteArray → Int → Option ByteArray
  | 0, _, _ => none
  | k + 1, z17, z18 =>
    bif (decide (z18 < (lenI a0.List_))) then (
    joinK (fun (y20 : ByteArray) =>
    joinK (fun (y24 : ByteArray) =>
    (getO a0.List_ z18).bind fun x31 =>
    (self x31).bind fun r32 =>
    (addO y24 r32).bind fun s33 =>
    spec_l2Encode.l0 a0 self K9 k s33 (w64 (z18 + 1))) (fun K25 =>
    bif (decide (a0.Kind = 5)) then (
    (getO a0.Names z18).bind fun x27 =>
    (spec_l2Quote.f x27).bind fun r28 =>
    (addO y20 r28).bind fun s29 =>
    (addO s29 (ByteArray.mk #[58])).bind fun s30 =>
    K25 s30)
    else (
    K25 y20))) (fun K21 =>
    bif (decide (0 < z18)) then (
    (addO z17 (ByteArray.mk #[44])).bind fun s23 =>
    K21 s23)
    else (
    K21 z17)))
    else (
    K9 z17)
def spec_l2Encode.b (self : Json → Option ByteArray) (a0 : Json) : Option ByteArray :=
  bif (decide (a0.Kind = 0)) then (
  some (ByteArray.mk #[110, 117, 108, 108]))
  else (
  bif (decide (a0.Kind = 1)) then (
  bif (decide (a0.N = 1)) then (
  some (ByteArray.mk #[116, 114, 117, 101]))
  else (
  some (ByteArray.mk #[102, 97, 108, 115, 101])))
  else (
  bif (decide (a0.Kind = 2)) then (
  (spec_l2Digits.f a0.N).bind fun r5 =>
  some r5)
  else (
  bif (decide (a0.Kind = 3)) then (
  (spec_l2Quote.f a0.S).bind fun r7 =>
  some r7)
  else (
  joinK (fun (y8 : ByteArray) =>
  bif (decide (a0.Kind = 5)) then (
  (addO (ByteArray.mk #[123]) y8).bind fun s35 =>
  (addO s35 (ByteArray.mk #[125])).bind fun s36 =>
  some s36)
  else (
  (addO (ByteArray.mk #[91]) y8).bind fun s37 =>
  (addO s37 (ByteArray.mk #[93])).bind fun s38 =>
  some s38)) (fun K9 =>
  spec_l2Encode.l0 a0 self K9 (((lenI a0.List_) - 0).toNat + 1) (ByteArray.mk #[]) 0)))))
def spec_l2Encode.g : Nat → Json → Option ByteArray
  | 0 => fun _ => none
  | k + 1 => spec_l2Encode.b (spec_l2Encode.g k)
def spec_l2Encode.f (a0 : Json) : Option ByteArray := spec_l2Encode.g 20 a0

def spec_Encode.f (a0 : Json) : Option ByteArray :=
  (spec_JsonOk.f a0).bind fun r1 =>
  bif (bo3 r1 false true) then (
  some (ByteArray.mk #[]))
  else (
  (spec_l2Encode.f a0).bind fun r3 =>
  bif (decide (6000 < (Ls.sl r3))) then (
  some (ByteArray.mk #[]))
  else (
  some r3))

def spec_Decode.f (a0 : ByteArray) : Option (Json × Bool) :=
  bif (bo3 (Ls.sc .eql a0 (ByteArray.mk #[])) true (decide (6000 < (Ls.sl a0)))) then (
  some ((Json.mk 0 0 ByteArray.empty [] []), false))
  else (
  (spec_l2Value.f (l2Cur.mk a0 0 true 400) 6).bind fun r7 =>
  (gd (bo3 (bo3 (bo3 r7.1.ok false true) true (decide (r7.1.at_ ≠ (Ls.sl a0)))) false true) (spec_Encode.f r7.2)).bind fun r8 =>
  bif (bo3 (bo3 (bo3 r7.1.ok false true) true (decide (r7.1.at_ ≠ (Ls.sl a0)))) true (Ls.sc .neq r8 a0)) then (
  some ((Json.mk 0 0 ByteArray.empty [] []), false))
  else (
  some (r7.2, true)))

def internal_stringslite_HasPrefix.f (a0 : ByteArray) (a1 : ByteArray) : Option Bool :=
  (gd (decide ((Ls.sl a1) ≤ (Ls.sl a0))) (cutS a0 0 (Ls.sl a1))).bind fun u1 =>
  some (bo3 (decide ((Ls.sl a1) ≤ (Ls.sl a0))) (Ls.sc .eql (Ls.ss a0 0 (Ls.sl a1)) a1) false)

def internal_stringslite_CutPrefix.f (a0 : ByteArray) (a1 : ByteArray) : Option (ByteArray × Bool) :=
  (internal_stringslite_HasPrefix.f a0 a1).bind fun r1 =>
  bif (bo3 r1 false true) then (
  some (a0, false))
  else (
  (cutS a0 (Ls.sl a1) (Ls.sl a0)).bind fun u3 =>
  some ((Ls.ss a0 (Ls.sl a1) (Ls.sl a0)), true))

def strings_CutPrefix.f (a0 : ByteArray) (a1 : ByteArray) : Option (ByteArray × Bool) :=
  (internal_stringslite_CutPrefix.f a0 a1).bind fun r1 =>
  some (r1.1, r1.2)

def impl_reader_take.f (a0 : reader) (a1 : ByteArray) : Option (reader × Bool) :=
  (strings_CutPrefix.f a0.text a1).bind fun r1 =>
  some ((reader.mk r1.1 a0.bad), (bo3 r1.2 (bo3 a0.bad false true) false))

def strings_HasPrefix.f (a0 : ByteArray) (a1 : ByteArray) : Option Bool :=
  (internal_stringslite_HasPrefix.f a0 a1).bind fun r1 =>
  some r1

def impl_reader_want.f (a0 : reader) (a1 : ByteArray) : Option reader :=
  (impl_reader_take.f a0 a1).bind fun r1 =>
  bif (bo3 r1.2 false true) then (
  some (reader.mk r1.1.text true))
  else (
  some r1.1)

def impl_reader_quoted.l0  : Nat → ByteArray → Bool → (List Int) → Option (reader × ByteArray)
  | 0, _, _, _ => none
  | k + 1, z5, z6, z7 =>
    bif (bo3 z6 false true) then (
    (impl_reader_take.f (reader.mk z5 z6) (ByteArray.mk #[34])).bind fun r9 =>
    bif r9.2 then (
    (some (bsO z7)).bind fun s11 =>
    some (r9.1, s11))
    else (
    (impl_reader_take.f r9.1 (ByteArray.mk #[92])).bind fun r12 =>
    bif (Ls.sc .eql r12.1.text (ByteArray.mk #[])) then (
    some ((reader.mk r12.1.text true), (ByteArray.mk #[])))
    else (
    (inS r12.1.text 0).bind fun u14 =>
    (some [(Ls.sx r12.1.text 0)]).bind fun l15 =>
    (appO 1 z7 l15).bind fun l16 =>
    (cutS r12.1.text 1 (Ls.sl r12.1.text)).bind fun u17 =>
    impl_reader_quoted.l0 k (Ls.ss r12.1.text 1 (Ls.sl r12.1.text)) r12.1.bad l16)))
    else (
    some ((reader.mk z5 z6), (ByteArray.mk #[])))
def impl_reader_quoted.f (a0 : reader) : Option (reader × ByteArray) :=
  (impl_reader_want.f a0 (ByteArray.mk #[34])).bind fun r1 =>
  impl_reader_quoted.l0 (a0.text.size + 2) r1.text r1.bad []

def impl_reader_parts.l0 (a1 : Int) (a3 : Int) (self : reader → Int → Option (reader × Json)) (K7 : ByteArray → Bool → (List Json) → (List ByteArray) → Option (reader × Json)) : Nat → ByteArray → Bool → (List Json) → (List ByteArray) → Bool → Option (reader × Json)
  | 0, _, _, _, _, _ => none
  | k + 1, z34, z35, z36, z37, z38 =>
    bif (bo3 z38 (bo3 z35 false true) false) then (
    joinK (fun (y47 : ByteArray) (y48 : Bool) (y49 : List ByteArray) =>
    (self (reader.mk y47 y48) (w64 (a3 - 1))).bind fun r56 =>
    (some [r56.2]).bind fun l57 =>
    (appO 80 z36 l57).bind fun l58 =>
    (impl_reader_take.f r56.1 (ByteArray.mk #[44])).bind fun r59 =>
    impl_reader_parts.l0 a1 a3 self K7 k r59.1.text r59.1.bad l58 y49 r59.2) (fun K50 =>
    bif (decide (a1 = 5)) then (
    (impl_reader_quoted.f (reader.mk z34 z35)).bind fun r52 =>
    (impl_reader_want.f r52.1 (ByteArray.mk #[58])).bind fun r53 =>
    (some [r52.2]).bind fun l54 =>
    (appO 16 z37 l54).bind fun l55 =>
    K50 r53.text r53.bad l55)
    else (
    K50 z34 z35 z37)))
    else (
    K7 z34 z35 z36 z37)
def impl_reader_parts.f (self : reader → Int → Option (reader × Json)) (a0 : reader) (a1 : Int) (a2 : ByteArray) (a3 : Int) : Option (reader × Json) :=
  (impl_reader_take.f a0 a2).bind fun r1 =>
  bif r1.2 then (
  some (r1.1, (Json.mk a1 0 ByteArray.empty [] [])))
  else (
  joinK (fun (y3 : ByteArray) (y4 : Bool) (y5 : List Json) (y6 : List ByteArray) =>
  (impl_reader_want.f (reader.mk y3 y4) a2).bind fun r60 =>
  some (r60, (Json.mk a1 0 ByteArray.empty y5 y6))) (fun K7 =>
  impl_reader_parts.l0 a1 a3 self K7 (a0.text.size + 2) r1.1.text r1.1.bad [] [] true))

def strconv_Atoi.f (a0 : ByteArray) : Option (Int × Bool) := atoiO a0

def impl_within.f (a0 : Int) (a1 : Int) (a2 : Int) : Option Bool :=
  some (bo3 (decide (a1 ≤ a0)) (decide (a0 ≤ a2)) false)

def impl_reader_number.l0 (a0 : reader) (K2 : Int → Option (reader × Json)) : Nat → Int → Option (reader × Json)
  | 0, _ => none
  | k + 1, z9 =>
    (gd (decide (z9 < (Ls.sl a0.text))) (inS a0.text z9)).bind fun u10 =>
    (gd (decide (z9 < (Ls.sl a0.text))) (impl_within.f (w64 (Ls.sx a0.text z9)) 48 57)).bind fun r11 =>
    (gd (bo3 (bo3 (decide (z9 < (Ls.sl a0.text))) (bo3 r11 false true) false) (decide (z9 = 0)) false) (inS a0.text 0)).bind fun u12 =>
    bif (bo3 (decide (z9 < (Ls.sl a0.text))) (bo3 r11 true (bo3 (decide (z9 = 0)) (decide ((Ls.sx a0.text 0) = 45)) false)) false) then (
    impl_reader_number.l0 a0 K2 k (w64 (z9 + 1)))
    else (
    K2 z9)
def impl_reader_number.f (a0 : reader) : Option (reader × Json) :=
  joinK (fun (y1 : Int) =>
  (cutS a0.text 0 y1).bind fun u40 =>
  (strconv_Atoi.f (Ls.ss a0.text 0 y1)).bind fun r41 =>
  bif r41.2 then (
  bif false then (
  none)
  else (
  (cutS a0.text y1 (Ls.sl a0.text)).bind fun u44 =>
  some ((reader.mk (Ls.ss a0.text y1 (Ls.sl a0.text)) a0.bad), (Json.mk 2 r41.1 ByteArray.empty [] []))))
  else (
  bif true then (
  (cutS a0.text y1 (Ls.sl a0.text)).bind fun u46 =>
  some ((reader.mk (Ls.ss a0.text y1 (Ls.sl a0.text)) true), (Json.mk 2 r41.1 ByteArray.empty [] [])))
  else (
  none))) (fun K2 =>
  impl_reader_number.l0 a0 K2 (((Ls.sl a0.text) - 0).toNat + 1) 0)

def impl_reader_value.b (self : reader → Int → Option (reader × Json)) (a0 : reader) (a1 : Int) : Option (reader × Json) :=
  bif (bo3 (decide (a1 < 1)) true a0.bad) then (
  some ((reader.mk a0.text true), (Json.mk 0 0 ByteArray.empty [] [])))
  else (
  (impl_reader_take.f a0 (ByteArray.mk #[110, 117, 108, 108])).bind fun r8 =>
  bif r8.2 then (
  some (r8.1, (Json.mk 0 0 ByteArray.empty [] [])))
  else (
  (impl_reader_take.f r8.1 (ByteArray.mk #[102, 97, 108, 115, 101])).bind fun r10 =>
  bif r10.2 then (
  some (r10.1, (Json.mk 1 0 ByteArray.empty [] [])))
  else (
  (impl_reader_take.f r10.1 (ByteArray.mk #[116, 114, 117, 101])).bind fun r12 =>
  bif r12.2 then (
  some (r12.1, (Json.mk 1 1 ByteArray.empty [] [])))
  else (
  (strings_HasPrefix.f r12.1.text (ByteArray.mk #[34])).bind fun r14 =>
  bif r14 then (
  (impl_reader_quoted.f r12.1).bind fun r16 =>
  some (r16.1, (Json.mk 3 0 r16.2 [] [])))
  else (
  (impl_reader_take.f r12.1 (ByteArray.mk #[91])).bind fun r17 =>
  bif r17.2 then (
  (impl_reader_parts.f self r17.1 4 (ByteArray.mk #[93]) a1).bind fun r19 =>
  some (r19.1, r19.2))
  else (
  (impl_reader_take.f r17.1 (ByteArray.mk #[123])).bind fun r20 =>
  bif r20.2 then (
  (impl_reader_parts.f self r20.1 5 (ByteArray.mk #[125]) a1).bind fun r22 =>
  some (r22.1, r22.2))
  else (
  (impl_reader_number.f r20.1).bind fun r23 =>
  some (r23.1, r23.2))))))))
def impl_reader_value.g : Nat → reader → Int → Option (reader × Json)
  | 0 => fun _ _ => none
  | k + 1 => impl_reader_value.b (impl_reader_value.g k)
def impl_reader_value.f (a0 : reader) (a1 : Int) : Option (reader × Json) := impl_reader_value.g 20 a0 a1

def impl_textOk.l0 (a0 : ByteArray) : Nat → Int → Int → Option Bool
  | 0, _, _ => none
  | k + 1, z4, z5 =>
    bif (decide (z5 < z4)) then (
    (inS a0 z5).bind fun u7 =>
    (impl_within.f (w64 (Ls.sx a0 z5)) 32 126).bind fun r8 =>
    bif (bo3 r8 false true) then (
    some false)
    else (
    impl_textOk.l0 a0 k z4 (w64 (z5 + 1))))
    else (
    some (decide ((Ls.sl a0) ≤ 60)))
def impl_textOk.f (a0 : ByteArray) : Option Bool :=
  impl_textOk.l0 a0 (((Ls.sl a0) - 0).toNat + 1) (Ls.sl a0) 0

def impl_namesOk.l0 (a0 : List ByteArray) : Nat → Int → Option Bool
  | 0, _ => none
  | k + 1, z5 =>
    bif (decide (z5 < (lenI a0))) then (
    (getO a0 z5).bind fun x7 =>
    (impl_textOk.f x7).bind fun r8 =>
    (gd (bo3 (bo3 (bo3 r8 false true) false true) (decide (0 < z5)) false) (getO a0 (w64 (z5 - 1)))).bind fun x9 =>
    bif (bo3 (bo3 r8 false true) true (bo3 (decide (0 < z5)) (Ls.sc .geq x9 x7) false)) then (
    some false)
    else (
    impl_namesOk.l0 a0 k (w64 (z5 + 1))))
    else (
    some true)
def impl_namesOk.f (a0 : List ByteArray) : Option Bool :=
  impl_namesOk.l0 a0 (((lenI a0) - 0).toNat + 1) 0

def impl_isNum.f (a0 : Int) : Option Bool :=
  (impl_within.f a0 (-1000000000) 1000000000).bind fun r1 =>
  some r1

def impl_ownOk.f (a0 : Json) : Option Bool :=
  bif (bo3 (bo3 (bo3 (decide (0 < (lenI a0.List_))) (decide (a0.Kind ≠ 4)) false) (decide (a0.Kind ≠ 5)) false) true (bo3 (decide (0 < (lenI a0.Names))) (decide (a0.Kind ≠ 5)) false)) then (
  some false)
  else (
  bif (bo3 (bo3 (bo3 (decide (a0.N ≠ 0)) (decide (a0.Kind ≠ 1)) false) (decide (a0.Kind ≠ 2)) false) true (bo3 (Ls.sc .neq a0.S (ByteArray.mk #[])) (decide (a0.Kind ≠ 3)) false)) then (
  some false)
  else (
  bif (decide (a0.Kind = 1)) then (
  (impl_within.f a0.N 0 1).bind fun r49 =>
  some r49)
  else (
  bif (decide (a0.Kind = 2)) then (
  (impl_isNum.f a0.N).bind fun r51 =>
  some r51)
  else (
  bif (decide (a0.Kind = 3)) then (
  (impl_textOk.f a0.S).bind fun r53 =>
  some r53)
  else (
  bif (decide (a0.Kind = 5)) then (
  (gd (decide ((lenI a0.Names) = (lenI a0.List_))) (impl_namesOk.f a0.Names)).bind fun r55 =>
  some (bo3 (decide ((lenI a0.Names) = (lenI a0.List_))) r55 false))
  else (
  some (bo3 (decide (a0.Kind = 0)) true (decide (a0.Kind = 4)))))))))

def impl_sizeIn.l0 (a0 : Json) (a1 : Int) (self : Json → Int → Option Int) : Nat → Int → Int → Option Int
  | 0, _, _ => none
  | k + 1, z13, z14 =>
    bif (decide (z14 < (lenI a0.List_))) then (
    (getO a0.List_ z14).bind fun x16 =>
    (self x16 (w64 (a1 - 1))).bind fun r17 =>
    bif (decide (400 < (w64 (z13 + r17)))) then (
    some 401)
    else (
    impl_sizeIn.l0 a0 a1 self k (w64 (z13 + r17)) (w64 (z14 + 1))))
    else (
    some z13)
def impl_sizeIn.b (self : Json → Int → Option Int) (a0 : Json) (a1 : Int) : Option Int :=
  (gd (bo3 (decide (a1 < 1)) false true) (impl_ownOk.f a0)).bind fun r1 =>
  bif (bo3 (decide (a1 < 1)) true (bo3 r1 false true)) then (
  some 401)
  else (
  impl_sizeIn.l0 a0 a1 self (((lenI a0.List_) - 0).toNat + 1) 1 0)
def impl_sizeIn.g : Nat → Json → Int → Option Int
  | 0 => fun _ _ => none
  | k + 1 => impl_sizeIn.b (impl_sizeIn.g k)
def impl_sizeIn.f (a0 : Json) (a1 : Int) : Option Int := impl_sizeIn.g 20 a0 a1

def impl_JsonOk.f (a0 : Json) : Option Bool :=
  (impl_sizeIn.f a0 6).bind fun r1 =>
  some (decide (r1 ≤ 400))

def impl_quoted.l0 (a0 : ByteArray) : Nat → (List Int) → Int → Int → Option ByteArray
  | 0, _, _, _ => none
  | k + 1, z6, z7, z8 =>
    bif (decide (z8 < z7)) then (
    (inS a0 z8).bind fun u10 =>
    (gd (bo3 (decide ((Ls.sx a0 z8) = 34)) false true) (inS a0 z8)).bind fun u11 =>
    bif (bo3 (decide ((Ls.sx a0 z8) = 34)) true (decide ((Ls.sx a0 z8) = 92))) then (
    (some [92]).bind fun l19 =>
    (appO 1 z6 l19).bind fun l20 =>
    (inS a0 z8).bind fun u21 =>
    (some [(Ls.sx a0 z8)]).bind fun l22 =>
    (appO 1 l20 l22).bind fun l23 =>
    impl_quoted.l0 a0 k l23 z7 (w64 (z8 + 1)))
    else (
    (inS a0 z8).bind fun u24 =>
    (some [(Ls.sx a0 z8)]).bind fun l25 =>
    (appO 1 z6 l25).bind fun l26 =>
    impl_quoted.l0 a0 k l26 z7 (w64 (z8 + 1))))
    else (
    (some [34]).bind fun l27 =>
    (appO 1 z6 l27).bind fun l28 =>
    (some (bsO l28)).bind fun s29 =>
    some s29)
def impl_quoted.f (a0 : ByteArray) : Option ByteArray :=
  (some [34]).bind fun l1 =>
  impl_quoted.l0 a0 (((Ls.sl a0) - 0).toNat + 1) l1 (Ls.sl a0) 0

def strings_Join.f (a0 : List ByteArray) (a1 : ByteArray) : Option ByteArray := joinO a0 a1

def strconv_Itoa.f (a0 : Int) : Option ByteArray := itoaO a0

def impl_written.l0 (a0 : Json) (self : Json → Option ByteArray) (K2 : (List ByteArray) → Option ByteArray) : Nat → (List ByteArray) → Int → Option ByteArray
  | 0, _, _ => none
  | k + 1, z12, z13 =>
    bif (decide (z13 < (lenI a0.List_))) then (
    (getO a0.List_ z13).bind fun x15 =>
    (self x15).bind fun r16 =>
    bif (decide (a0.Kind = 5)) then (
    (getO a0.Names z13).bind fun x18 =>
    (impl_quoted.f x18).bind fun r19 =>
    (addO r19 (ByteArray.mk #[58])).bind fun s20 =>
    (addO s20 r16).bind fun s21 =>
    (some [s21]).bind fun l22 =>
    (appO 16 z12 l22).bind fun l23 =>
    impl_written.l0 a0 self K2 k l23 (w64 (z13 + 1)))
    else (
    (some [r16]).bind fun l24 =>
    (appO 16 z12 l24).bind fun l25 =>
    impl_written.l0 a0 self K2 k l25 (w64 (z13 + 1))))
    else (
    K2 z12)
def impl_written.b (self : Json → Option ByteArray) (a0 : Json) : Option ByteArray :=
  joinK (fun (y1 : List ByteArray) =>
  bif (decide (a0.Kind = 0)) then (
  some (ByteArray.mk #[110, 117, 108, 108]))
  else (
  bif (decide (a0.Kind = 1)) then (
  (some [(ByteArray.mk #[102, 97, 108, 115, 101]), (ByteArray.mk #[116, 114, 117, 101])]).bind fun l28 =>
  (getO l28 a0.N).bind fun x29 =>
  some x29)
  else (
  bif (decide (a0.Kind = 2)) then (
  (strconv_Itoa.f a0.N).bind fun r31 =>
  some r31)
  else (
  bif (decide (a0.Kind = 3)) then (
  (impl_quoted.f a0.S).bind fun r33 =>
  some r33)
  else (
  bif (decide (a0.Kind = 4)) then (
  (strings_Join.f y1 (ByteArray.mk #[44])).bind fun r35 =>
  (addO (ByteArray.mk #[91]) r35).bind fun s36 =>
  (addO s36 (ByteArray.mk #[93])).bind fun s37 =>
  some s37)
  else (
  (strings_Join.f y1 (ByteArray.mk #[44])).bind fun r38 =>
  (addO (ByteArray.mk #[123]) r38).bind fun s39 =>
  (addO s39 (ByteArray.mk #[125])).bind fun s40 =>
  some s40)))))) (fun K2 =>
  impl_written.l0 a0 self K2 (((lenI a0.List_) - 0).toNat + 1) [] 0)
def impl_written.g : Nat → Json → Option ByteArray
  | 0 => fun _ => none
  | k + 1 => impl_written.b (impl_written.g k)
def impl_written.f (a0 : Json) : Option ByteArray := impl_written.g 20 a0

def impl_Encode.f (a0 : Json) : Option ByteArray :=
  (impl_JsonOk.f a0).bind fun r1 =>
  bif (bo3 r1 false true) then (
  some (ByteArray.mk #[]))
  else (
  (impl_written.f a0).bind fun r3 =>
  bif (decide (6000 < (Ls.sl r3))) then (
  some (ByteArray.mk #[]))
  else (
  some r3))

def impl_Decode.f (a0 : ByteArray) : Option (Json × Bool) :=
  bif (decide (6000 < (Ls.sl a0))) then (
  some ((Json.mk 0 0 ByteArray.empty [] []), false))
  else (
  (impl_reader_value.f (reader.mk a0 false) 6).bind fun r2 =>
  (gd (bo3 r2.1.bad false true) (impl_Encode.f r2.2)).bind fun r3 =>
  bif (bo3 r2.1.bad true (Ls.sc .neq r3 a0)) then (
  some ((Json.mk 0 0 ByteArray.empty [] []), false))
  else (
  some (r2.2, true)))

def laws_eqJsonS.l0 (a0 : List Json) (a1 : List Json) (self : Json → Json → Option Bool) : Nat → Int → Option Bool
  | 0, _ => none
  | k + 1, z5 =>
    bif (decide (z5 < (lenI a0))) then (
    (getO a0 z5).bind fun x7 =>
    (getO a1 z5).bind fun x8 =>
    (self x7 x8).bind fun r9 =>
    bif (bo3 r9 false true) then (
    some false)
    else (
    laws_eqJsonS.l0 a0 a1 self k (w64 (z5 + 1))))
    else (
    some true)
def laws_eqJsonS.f (self : Json → Json → Option Bool) (a0 : List Json) (a1 : List Json) : Option Bool :=
  bif (decide ((lenI a0) ≠ (lenI a1))) then (
  some false)
  else (
  laws_eqJsonS.l0 a0 a1 self (((lenI a0) - 0).toNat + 1) 0)

def laws_eqStringS.l0 (a0 : List ByteArray) (a1 : List ByteArray) : Nat → Int → Option Bool
  | 0, _ => none
  | k + 1, z5 =>
    bif (decide (z5 < (lenI a0))) then (
    (getO a0 z5).bind fun x7 =>
    (getO a1 z5).bind fun x8 =>
    bif (Ls.sc .neq x7 x8) then (
    some false)
    else (
    laws_eqStringS.l0 a0 a1 k (w64 (z5 + 1))))
    else (
    some true)
def laws_eqStringS.f (a0 : List ByteArray) (a1 : List ByteArray) : Option Bool :=
  bif (decide ((lenI a0) ≠ (lenI a1))) then (
  some false)
  else (
  laws_eqStringS.l0 a0 a1 (((lenI a0) - 0).toNat + 1) 0)

def laws_eqJson.b (self : Json → Json → Option Bool) (a0 : Json) (a1 : Json) : Option Bool :=
  bif (decide (a0.Kind ≠ a1.Kind)) then (
  some false)
  else (
  bif (decide (a0.N ≠ a1.N)) then (
  some false)
  else (
  bif (Ls.sc .neq a0.S a1.S) then (
  some false)
  else (
  (laws_eqJsonS.f self a0.List_ a1.List_).bind fun r4 =>
  bif (bo3 r4 false true) then (
  some false)
  else (
  (laws_eqStringS.f a0.Names a1.Names).bind fun r6 =>
  bif (bo3 r6 false true) then (
  some false)
  else (
  some true)))))
def laws_eqJson.g : Nat → Json → Json → Option Bool
  | 0 => fun _ _ => none
  | k + 1 => laws_eqJson.b (laws_eqJson.g k)
def laws_eqJson.f (a0 : Json) (a1 : Json) : Option Bool := laws_eqJson.g 1000 a0 a1

def laws_markText.l0  : Nat → Int → ByteArray → Option ByteArray
  | 0, _, _ => none
  | k + 1, z4, z5 =>
    bif (decide (0 < z4)) then (
    (some [(IntKind.wrap .u8 (w64 (48 + (Int.tmod z4 10))))]).bind fun l7 =>
    (some (bsO l7)).bind fun s8 =>
    (smO s8 z5).bind fun u9 =>
    laws_markText.l0 k (w64 (Int.tdiv z4 10)) (Ls.sa s8 z5))
    else (
    (smO (ByteArray.mk #[109]) z5).bind fun u10 =>
    some (Ls.sa (ByteArray.mk #[109]) z5))
def laws_markText.f (a0 : Int) : Option ByteArray :=
  bif (decide (a0 ≤ 0)) then (
  some (ByteArray.mk #[109, 48]))
  else (
  laws_markText.l0 ((a0 - 0).toNat + 1) a0 (ByteArray.mk #[]))

def laws_markStringS.l0  : Nat → (List ByteArray) → Int → Int → Option ((List ByteArray) × Int)
  | 0, _, _, _ => none
  | k + 1, z4, z5, z6 =>
    bif (decide (z6 < (lenI z4))) then (
    (laws_markText.f z5).bind fun r8 =>
    (getO z4 z6).bind fun x9 =>
    (some (setI z4 z6 r8)).bind fun l10 =>
    laws_markStringS.l0 k l10 (w64 (z5 + 1)) (w64 (z6 + 1)))
    else (
    some (z4, z5))
def laws_markStringS.f (a0 : List ByteArray) (a1 : Int) : Option ((List ByteArray) × Int) :=
  laws_markStringS.l0 (((lenI a0) - 0).toNat + 1) a0 a1 0

def laws_markJsonS.l0 (self : (List Json) → Int → Option ((List Json) × Int)) : Nat → (List Json) → Int → Int → Option ((List Json) × Int)
  | 0, _, _, _ => none
  | k + 1, z4, z5, z6 =>
    bif (decide (z6 < (lenI z4))) then (
    (getO z4 z6).bind fun x8 =>
    (some (setI z4 z6 (Json.mk z5 x8.N x8.S x8.List_ x8.Names))).bind fun l9 =>
    (getO l9 z6).bind fun x10 =>
    (some (setI l9 z6 (Json.mk x10.Kind (w64 (z5 + 1)) x10.S x10.List_ x10.Names))).bind fun l11 =>
    (laws_markText.f (w64 ((w64 (z5 + 1)) + 1))).bind fun r12 =>
    (getO l11 z6).bind fun x13 =>
    (some (setI l11 z6 (Json.mk x13.Kind x13.N r12 x13.List_ x13.Names))).bind fun l14 =>
    (getO l14 z6).bind fun x15 =>
    (self x15.List_ (w64 ((w64 ((w64 (z5 + 1)) + 1)) + 1))).bind fun r16 =>
    (some (setI l14 z6 (Json.mk x15.Kind x15.N x15.S r16.1 x15.Names))).bind fun l17 =>
    (getO l17 z6).bind fun x18 =>
    (laws_markStringS.f x18.Names r16.2).bind fun r19 =>
    (some (setI l17 z6 (Json.mk x18.Kind x18.N x18.S x18.List_ r19.1))).bind fun l20 =>
    laws_markJsonS.l0 self k l20 r19.2 (w64 (z6 + 1)))
    else (
    some (z4, z5))
def laws_markJsonS.b (self : (List Json) → Int → Option ((List Json) × Int)) (a0 : List Json) (a1 : Int) : Option ((List Json) × Int) :=
  laws_markJsonS.l0 self (((lenI a0) - 0).toNat + 1) a0 a1 0
def laws_markJsonS.g : Nat → (List Json) → Int → Option ((List Json) × Int)
  | 0 => fun _ _ => none
  | k + 1 => laws_markJsonS.b (laws_markJsonS.g k)
def laws_markJsonS.f (a0 : List Json) (a1 : Int) : Option ((List Json) × Int) := laws_markJsonS.g 1000 a0 a1

def laws_markJson.f (a0 : Json) (a1 : Int) : Option (Json × Int) :=
  (laws_markJsonS.f a0.List_ a1).bind fun r1 =>
  (laws_markStringS.f a0.Names r1.2).bind fun r2 =>
  some ((Json.mk a0.Kind a0.N a0.S r1.1 r2.1), r2.2)

def laws_heldStringS.l0 (a0 : List ByteArray) : Nat → Int → Int → Option Int
  | 0, _, _ => none
  | k + 1, z4, z5 =>
    bif (decide (z5 < (lenI a0))) then (
    (getO a0 z5).bind fun x7 =>
    (laws_markText.f z4).bind fun r8 =>
    bif (Ls.sc .neq x7 r8) then (
    some (-1))
    else (
    laws_heldStringS.l0 a0 k (w64 (z4 + 1)) (w64 (z5 + 1))))
    else (
    some z4)
def laws_heldStringS.f (a0 : List ByteArray) (a1 : Int) : Option Int :=
  laws_heldStringS.l0 a0 (((lenI a0) - 0).toNat + 1) a1 0

def laws_heldJsonS.l0 (a0 : List Json) (self : (List Json) → Int → Option Int) : Nat → Int → Int → Option Int
  | 0, _, _ => none
  | k + 1, z4, z5 =>
    bif (decide (z5 < (lenI a0))) then (
    (getO a0 z5).bind fun x7 =>
    bif (decide (x7.Kind ≠ z4)) then (
    some (-1))
    else (
    bif (decide (x7.N ≠ (w64 (z4 + 1)))) then (
    some (-1))
    else (
    (laws_markText.f (w64 ((w64 (z4 + 1)) + 1))).bind fun r10 =>
    bif (Ls.sc .neq x7.S r10) then (
    some (-1))
    else (
    (self x7.List_ (w64 ((w64 ((w64 (z4 + 1)) + 1)) + 1))).bind fun r12 =>
    bif (decide (r12 < 0)) then (
    some (-1))
    else (
    (laws_heldStringS.f x7.Names r12).bind fun r14 =>
    bif (decide (r14 < 0)) then (
    some (-1))
    else (
    laws_heldJsonS.l0 a0 self k r14 (w64 (z5 + 1))))))))
    else (
    some z4)
def laws_heldJsonS.b (self : (List Json) → Int → Option Int) (a0 : List Json) (a1 : Int) : Option Int :=
  laws_heldJsonS.l0 a0 self (((lenI a0) - 0).toNat + 1) a1 0
def laws_heldJsonS.g : Nat → (List Json) → Int → Option Int
  | 0 => fun _ _ => none
  | k + 1 => laws_heldJsonS.b (laws_heldJsonS.g k)
def laws_heldJsonS.f (a0 : List Json) (a1 : Int) : Option Int := laws_heldJsonS.g 1000 a0 a1

def laws_heldJson.f (a0 : Json) (a1 : Int) : Option Int :=
  (laws_heldJsonS.f a0.List_ a1).bind fun r1 =>
  bif (decide (r1 < 0)) then (
  some (-1))
  else (
  (laws_heldStringS.f a0.Names r1).bind fun r3 =>
  bif (decide (r3 < 0)) then (
  some (-1))
  else (
  some r3))

def laws_FnExactDecode.f (a0 : ByteArray) : Option Bool :=
  bif (decide (1048576 < (Ls.sl a0))) then (
  some true)
  else (
  (spec_Decode.f a0).bind fun r2 =>
  (impl_Decode.f a0).bind fun r3 =>
  (laws_eqJson.f r3.1 r2.1).bind fun r4 =>
  bif (bo3 (bo3 r4 false true) true (bo3 r3.2 (bo3 r2.2 false true) r2.2)) then (
  some false)
  else (
  (laws_markJson.f r3.1 1).bind fun r11 =>
  (laws_heldJson.f (Json.mk r3.1.Kind r3.1.N r3.1.S r11.1.List_ r11.1.Names) 1).bind fun r12 =>
  bif (decide (r12 < 0)) then (
  some false)
  else (
  bif (decide (r12 ≠ r11.2)) then (
  some false)
  else (
  (impl_Decode.f a0).bind fun r15 =>
  (laws_eqJson.f r15.1 r2.1).bind fun r16 =>
  bif (bo3 (bo3 r16 false true) true (bo3 r15.2 (bo3 r2.2 false true) r2.2)) then (
  some false)
  else (
  (laws_heldJson.f (Json.mk r3.1.Kind r3.1.N r3.1.S r11.1.List_ r11.1.Names) 1).bind fun r23 =>
  bif (decide (r23 < 0)) then (
  some false)
  else (
  bif (decide (r23 ≠ r11.2)) then (
  some false)
  else (
  some true)))))))

end Go.Proofs.YtcpekllcbimpmaaDoor.L
