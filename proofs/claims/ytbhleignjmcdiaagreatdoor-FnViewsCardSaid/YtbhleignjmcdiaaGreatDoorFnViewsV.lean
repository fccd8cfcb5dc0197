/- What the pure functions give. -/
import Derived.Test.YtbhleignjmcdiaaGreatDoorFnViewsPv0
import Derived.Test.YtbhleignjmcdiaaGreatDoorFnViewsU
namespace Go.Proofs.YtbhleignjmcdiaaGreatDoor.L
open Go
set_option linter.unusedVariables false
set_option linter.unusedSimpArgs false
theorem qGC (x y z : Int) : qXC.f x y z = some (decide (y ≤ x ∧ x ≤ z)) := by
 unfold qXC.f; rw [qTE, Bool.decide_and]
theorem qgJ (n : Int) : qSG.f n = some (decide (-1000000000 ≤ n ∧ n ≤ 1000000000)) := by
 unfold qSG.f; rw [qGC, zoB]
mutual
def szj : Json → Int
 | ⟨_, _, _, l, ns⟩ => szL l + (ns.length : Int)
def szL : List Json → Int
 | [] => 0
 | x :: l => 1 + szj x + szL l
end
mutual
def dpj : Json → Nat
 | ⟨_, _, _, l, _⟩ => dpL l + 1
def dpL : List Json → Nat
 | [] => 0
 | x :: l => max (dpj x) (dpL l)
end
mutual
theorem szj_0 : ∀ x : Json, 0 ≤ szj x
 | ⟨_, _, _, l, ns⟩ => by have := szL_0 l; rw [szj]; omega
theorem szL_0 : ∀ l : List Json, 0 ≤ szL l
 | [] => by rw [szL]; omega
 | x :: l => by have := szj_0 x; have := szL_0 l; rw [szL]; omega
end
theorem qYa : ∀ l : List Json, szL l = (l.map fun x => 1 + szj x).sum
 | [] => by simp [szL]
 | x :: l => by rw [szL, qYa l, List.map_cons, List.sum_cons]
theorem qZa : ∀ l : List Json, (l.length : Int) ≤ szL l
 | [] => by simp [szL]
 | x :: l => by have := qZa l; have := szj_0 x; rw [szL]; simp only [zlC]; omega
theorem qae {l : List Json} {x : Json} (h : x ∈ l) : 1 + szj x ≤ szL l := by
 rw [qYa]; exact qfJ (s := fun x => 1 + szj x) (fun x => by have := szj_0 x; omega) h
theorem qaa : ∀ {l : List Json} {x : Json}, x ∈ l → dpj x ≤ dpL l
 | y :: l, x, h => by
  rw [dpL]
  rcases List.mem_cons.1 h with rfl | h
  · omega
  have := qaa h; omega
theorem qfd (x : Json) : szj x = szL x.List_ + (x.Names.length : Int) := by cases x; rw [szj]
theorem qLV (x : Json) : dpj x = dpL x.List_ + 1 := by cases x; rw [dpj]
def qbe (x : Json) : Int := szj x + (if dpj x ≤ 500 then 0 else 4611686018427387904)
def qBh (x : Json) : Prop := qbe x ≤ 1099511627776
theorem ba_eq {x y : ByteArray} : (x.toList == y.toList) = decide (x = y) := by
 have h : x.toList = y.toList ↔ x = y := by
  constructor
  ·
   intro h
   have : x.data.toList = y.data.toList := by
    have e : ∀ z : ByteArray, z.toList = z.data.toList := fun z => ByteArray.toList_eq z; rw [← e, ← e]; exact h
   cases x; cases y; simp_all
  rintro rfl; rfl
 by_cases c : x = y
 · subst c; simp
 rw [zdF c]; simp only [beq_eq_false_iff_ne, ne_eq]; exact fun e => c (h.1 e)
theorem qrW (x y : ByteArray) : Ls.sc .neq x y = decide (x ≠ y) := by
 show (!(x.toList == y.toList)) = _
 rw [ba_eq]; by_cases c : x = y <;> simp [c]
theorem qce (x y : ByteArray) : Ls.sc .eql x y = decide (x = y) := by
 show (x.toList == y.toList) = _
 rw [ba_eq]
def txtB (s : ByteArray) : Bool := (s.data.toList.all fun b => decide (32 ≤ b.toNat ∧ b.toNat ≤ 126)) && decide (s.size ≤ 60)
def namesB (l : List ByteArray) : Bool := allFrom (fun i x => txtB x && !(decide (0 < i) && Ls.sc .geq (l.getD (i - 1) default) x)) l 0
theorem sx_at {s : ByteArray} {i : Nat} {b : UInt8} (h : s.data.toList[i]? = some b) : Ls.sx s (i : Int) = (b.toNat : Int) := by
 show ((s.data.toList.getD (i : Int).toNat 0).toNat : Int) = _
 rw [Int.toNat_natCast, zgD, h]; rfl
theorem qgd (s : ByteArray) : Ls.sl s = (s.data.toList.length : Int) := by
 show (s.size : Int) = _
 rw [Array.length_toList]; rfl
theorem qQT (s : ByteArray) : s.size = s.data.toList.length := by rw [Array.length_toList]; rfl
theorem qnf {s : ByteArray} {i : Nat} (h : i < s.data.toList.length) : inS s (i : Int) = some () := by
 unfold inS; rw [if_pos]; rw [qQT]; omega
def ownB (j : Json) : Bool :=
 bif (decide (0 < j.List_.length) && decide (j.Kind ≠ 4) && decide (j.Kind ≠ 5)) || (decide (0 < j.Names.length) && decide (j.Kind ≠ 5)) then false else
 bif (decide (j.N ≠ 0) && decide (j.Kind ≠ 1) && decide (j.Kind ≠ 2)) || (decide (j.S ≠ ByteArray.mk #[]) && decide (j.Kind ≠ 3)) then false else
 if j.Kind = 1 then decide (0 ≤ j.N ∧ j.N ≤ 1) else if j.Kind = 2 then decide (-1000000000 ≤ j.N ∧ j.N ≤ 1000000000) else if j.Kind = 3 then txtB j.S else
 if j.Kind = 5 then decide (j.Names.length = j.List_.length) && namesB j.Names else decide (j.Kind = 0) || decide (j.Kind = 4)
def capL (f : Json → Int) : Int → List Json → Int
 | n, [] => n
 | n, x :: l => if 400 < n + f x then 401 else capL f (n + f x) l
def sizeF : Nat → Json → Int
 | 0, _ => 401
 | d + 1, j => if ownB j = true then capL (sizeF d) 1 j.List_ else 401
theorem qSS {f : Json → Int} (hf : ∀ x, 1 ≤ f x ∧ f x ≤ 401) : ∀ (l : List Json) (n : Int), 1 ≤ n → n ≤ 401 → 1 ≤ capL f n l ∧ capL f n l ≤ 401
 | [], n, h, h' => ⟨h, h'⟩
 | x :: l, n, h, h' => by
  rw [capL]; have := hf x
  split
  · omega
  exact qSS hf l _ (by omega) (by omega)
theorem qsH : ∀ (d : Nat) (j : Json), 1 ≤ sizeF d j ∧ sizeF d j ≤ 401
 | 0, j => by rw [sizeF]; omega
 | d + 1, j => by
  rw [sizeF]
  split
  · exact qSS (qsH d) _ _ (by omega) (by omega)
  omega
def jsonB (j : Json) : Bool := decide (sizeF 6 j ≤ 400)
mutual
def Jw : Json → Prop
 | ⟨_, _, s, l, ns⟩ => (s.size : Int) ≤ 4611686018427387904 ∧ (∀ x ∈ ns, (x.size : Int) ≤ 4611686018427387904) ∧ (ns.length : Int) ≤ 4611686018427387904 ∧ (l.length : Int) ≤ 4611686018427387904 ∧ JwL l
def JwL : List Json → Prop
 | [] => True
 | x :: l => Jw x ∧ JwL l
end
theorem qba : ∀ {l : List Json}, JwL l → ∀ {x}, x ∈ l → Jw x
 | y :: l, h, x, hx => by
  rw [JwL] at h
  rcases List.mem_cons.1 hx with rfl | hx
  · exact h.1
  exact qba h.2 hx
theorem qhd : ∀ {l : List Json}, (∀ x ∈ l, Jw x) → JwL l
 | [], _ => by rw [JwL]; trivial
 | y :: l, h => by rw [JwL]; exact ⟨h y (by simp), qhd fun x hx => h x (by simp [hx])⟩
theorem Jw_eq (j : Json) : Jw j ↔ (j.S.size : Int) ≤ 4611686018427387904 ∧ (∀ x ∈ j.Names, (x.size : Int) ≤ 4611686018427387904) ∧ (j.Names.length : Int) ≤ 4611686018427387904 ∧ (j.List_.length : Int) ≤ 4611686018427387904 ∧ ∀ x ∈ j.List_, Jw x := by
 cases j
 rw [Jw]; exact ⟨fun ⟨a, b, c, d, e⟩ => ⟨a, b, c, d, fun x hx => qba e hx⟩, fun ⟨a, b, c, d, e⟩ => ⟨a, b, c, d, qhd e⟩⟩
def k3B (j : Json) : Bool := (decide (j.Kind ≠ 3) && decide (j.S ≠ ByteArray.mk #[])) || ((decide (j.Kind = 3) || decide (4 ≤ j.Kind)) && decide (j.N ≠ 0)) || (decide (j.Kind < 4) && decide (0 < j.List_.length)) ||
 !(if j.Kind = 5 then namesB j.Names && decide (j.Names.length = j.List_.length) else decide (j.Names.length = 0))
def preB (j : Json) : Bool := if j.Kind = 0 then decide (j.N = 0) else if j.Kind = 1 then decide (0 ≤ j.N ∧ j.N ≤ 1) else if j.Kind = 2 then decide (-1000000000 ≤ j.N ∧ j.N ≤ 1000000000) else if j.Kind = 3 then txtB j.S else decide (j.Kind = 4) || decide (j.Kind = 5)
theorem qof (j : Json) : ownB j = (preB j && !k3B j) := by
 unfold ownB preB k3B
 have e2 : decide (j.Names.length = 0) = !decide (0 < j.Names.length) := by
  cases j.Names <;> simp
 have e7 : decide (j.N ≠ 0) = !decide (j.N = 0) := by by_cases c : j.N = 0 <;> simp [c]
 rw [e2, e7]; generalize decide (0 < j.List_.length) = b1; generalize decide (0 < j.Names.length) = b2; generalize decide (j.S ≠ ByteArray.mk #[]) = b3; generalize decide (j.Names.length = j.List_.length) = b4; generalize namesB j.Names = b5; generalize txtB j.S = b6; generalize decide (0 ≤ j.N ∧ j.N ≤ 1) = b8; generalize decide (-1000000000 ≤ j.N ∧ j.N ≤ 1000000000) = b9; generalize decide (j.N = 0) = b7
 by_cases k0 : j.Kind = 0
 · simp [k0]; cases b1 <;> cases b2 <;> cases b3 <;> cases b7 <;> simp
 by_cases k1 : j.Kind = 1
 · simp [k1]; cases b1 <;> cases b2 <;> cases b3 <;> cases b8 <;> simp
 by_cases k2 : j.Kind = 2
 · simp [k2]; cases b1 <;> cases b2 <;> cases b3 <;> cases b9 <;> simp
 by_cases k3 : j.Kind = 3
 · simp [k3]; cases b1 <;> cases b2 <;> cases b6 <;> cases b7 <;> simp
 by_cases k4 : j.Kind = 4
 · simp [k4]; cases b1 <;> cases b2 <;> cases b3 <;> cases b7 <;> simp
 by_cases k5 : j.Kind = 5
 · simp [k5]; cases b3 <;> cases b7 <;> cases b4 <;> cases b5 <;> simp
 simp [k0, k1, k2, k3, k4, k5]
theorem qtQ (s : ByteArray) (hs : (s.data.toList.length : Int) ≤ 4611686018427387904) : ∀ (k i : Nat), i ≤ s.data.toList.length → s.data.toList.length < i + k → qcD.l0 s k (s.data.toList.length : Int) i = some (((s.data.toList.drop i).all fun b => decide (32 ≤ b.toNat ∧ b.toNat ≤ 126)) && decide (s.size ≤ 60)) := by
 intro k
 induction k with
 | zero => intro i h h'; omega
 | succ k ih =>
  intro i h h'; rw [qcD.l0]
  by_cases hi : i < s.data.toList.length
  ·
   have hx := zgE hi; have hb : (s.data.toList[i]).toNat < 256 := UInt8.toNat_lt _; rw [zdT (by omega), zcT, qnf hi, zoB, sx_at hx, qfB (by omega), qGC, zoB, List.drop_eq_getElem_cons hi, List.all_cons, qv (by omega), ih (i + 1) (by omega) (by omega), qsC]
   by_cases c : 32 ≤ (s.data.toList[i]).toNat ∧ (s.data.toList[i]).toNat ≤ 126
   · rw [zdT (by omega), zdT c]; simp
   rw [zdF (by omega), zdF c]; simp
  rw [zdF (by omega), zcF, List.drop_eq_nil_of_le (by omega), qgd, qQT]; simp; omega
theorem qNL (s : ByteArray) (hs : (s.size : Int) ≤ 4611686018427387904) : qcD.f s = some (txtB s) := by
 unfold qcD.f txtB; rw [qQT] at hs; rw [qgd]; exact qtQ s hs _ 0 (by omega) (by omega)
theorem qkY (l : List ByteArray) (i : Nat) (x : ByteArray) (r : Bool) (hx : l[i]? = some x) (hl : (l.length : Int) ≤ 4611686018427387904) : (gd (bo3 (bo3 (bo3 r false true) false true) (decide (0 < (i : Int))) false) (getO l (w64 ((i : Int) - 1)))) = some (bif (r && decide (0 < i)) then l.getD (i - 1) default else default) := by
 have hi := at_lt hx
 cases r with
 | false => rfl
 | true =>
  by_cases c : 0 < i
  ·
   rw [zdT (by omega), zdT c, show bo3 (bo3 (bo3 true false true) false true) true false = true from rfl, qTC, qfB (by omega), show (i : Int) - 1 = ((i - 1 : Nat) : Int) by omega, qd, zgD, zgE (by omega)]; rfl
  rw [zdF (by omega), zdF c]; rfl
theorem qRP (l : List ByteArray) (hl : (l.length : Int) ≤ 4611686018427387904) (hs : ∀ x ∈ l, (x.size : Int) ≤ 4611686018427387904) : qKD.f l = some (namesB l) := by
 unfold qKD.f namesB; refine (qOD (f := qKD.l0 l) (l := l) (fun i x => txtB x && !(decide (0 < i) && Ls.sc .geq (l.getD (i - 1) default) x)) (some false) (some true) (fun k i x hx => ?_) (fun k i hi => ?_) _ 0 (by omega) (by rw [qF]; omega)).trans ?_
 ·
  have hi := at_lt hx; rw [qKD.l0, qF, zdT (by omega), zcT, qd, hx, zoB, qNL x (hs x (List.mem_of_getElem? hx)), zoB, qkY l i x _ hx hl, zoB, qv (by omega)]
  cases txtB x with
  | false => rfl
  | true =>
   by_cases c : 0 < i
   ·
    have c' : 0 < (i : Int) := by omega
    rw [zdT c, zdT c']
    cases hg : Ls.sc .geq (l.getD (i - 1) default) x <;> simp [bo3, hg] <;> simp_all
   have c' : ¬ 0 < (i : Int) := by omega
   rw [zdF c, zdF c']; simp [bo3]
 · rw [qKD.l0, qF, zdF (by omega), zcF]
 cases allFrom (fun i x => txtB x && !(decide (0 < i) && Ls.sc .geq (l.getD (i - 1) default) x)) l 0 <;> rfl
theorem qRT (j : Json) (h : Jw j) : qNJ.f j = some (ownB j) := by
 obtain ⟨h1, h2, h3, h4, _⟩ := (Jw_eq j).1 h; unfold qNJ.f ownB; rw [qNL _ h1, qRP _ h3 h2, qGC, qgJ, qF, qF, qrW]; have e1 : decide (0 < (j.List_.length : Int)) = decide (0 < j.List_.length) := decide_eq_decide.2 (by omega); have e2 : decide (0 < (j.Names.length : Int)) = decide (0 < j.Names.length) := decide_eq_decide.2 (by omega); have e3 : decide ((j.Names.length : Int) = j.List_.length) = decide (j.Names.length = j.List_.length) := decide_eq_decide.2 (by omega)
 rw [e1, e2, e3]; simp only [qTE, qRS]; generalize decide (0 < j.List_.length) = b1; generalize decide (0 < j.Names.length) = b2; generalize decide (j.S ≠ ByteArray.mk #[]) = b3; generalize decide (j.Names.length = j.List_.length) = b4; generalize namesB j.Names = b5; generalize txtB j.S = b6
 by_cases k1 : j.Kind = 1
 ·
  simp [k1]
  cases b1 <;> cases b2 <;> cases b3 <;> simp
 by_cases k2 : j.Kind = 2
 ·
  simp [k2]
  cases b1 <;> cases b2 <;> cases b3 <;> simp
 by_cases k3 : j.Kind = 3
 ·
  simp [k3]
  cases b1 <;> cases b2 <;> cases decide (j.N = 0) <;> simp
 by_cases k5 : j.Kind = 5
 ·
  simp [k5]
  cases b4 <;> cases b3 <;> cases decide (j.N = 0) <;> simp [gd]
 simp only [k1, k2, k3, k5, if_false, decide_false, zcF, ne_eq, not_false_eq_true, decide_true, Bool.and_true, bo3]
 have e9 : (decide ¬j.Kind = 4) = !decide (j.Kind = 4) := by by_cases c : j.Kind = 4 <;> simp [c]
 have e7 : (decide ¬j.N = 0) = !decide (j.N = 0) := by by_cases c : j.N = 0 <;> simp [c]
 rw [e9, e7]; generalize decide (j.N = 0) = b7'; generalize decide (j.Kind = 0) = b8; generalize decide (j.Kind = 4) = b9'
 cases b1 <;> cases b2 <;> cases b3 <;> cases b7' <;> cases b8 <;> cases b9' <;> simp
theorem quQ (j : Json) (d : Int) (self : Json → Int → Option Int) (f : Json → Int) (hf : ∀ x, 1 ≤ f x ∧ f x ≤ 401) (hl : (j.List_.length : Int) ≤ 4611686018427387904) (hs : ∀ x ∈ j.List_, self x (w64 (d - 1)) = some (f x)) :
  ∀ (k i : Nat) (n : Int), i ≤ j.List_.length → j.List_.length < i + k → 1 ≤ n → n ≤ 401 → qPC.l0 j d self k n i = some (capL f n (j.List_.drop i)) := by
 intro k
 induction k with
 | zero => intro i n h h'; omega
 | succ k ih =>
  intro i n h h' hn hn'; rw [qPC.l0, qF]
  by_cases hi : i < j.List_.length
  ·
   have := hf j.List_[i]; rw [zdT (by omega), zcT, qd, zgE hi, zoB, hs _ (List.getElem_mem hi), zoB, qfB (by omega), List.drop_eq_getElem_cons hi, capL, qv (by omega)]
   by_cases c : 400 < n + f j.List_[i]
   · rw [zdT c, zcT, if_pos c]
   rw [zdF c, zcF, if_neg c]; exact ih (i + 1) _ (by omega) (by omega) (by omega) (by omega)
  rw [zdF (by omega), zcF, List.drop_eq_nil_of_le (by omega), capL]
theorem qST : ∀ (k d : Nat) (j : Json), d < k → d ≤ 1000 → Jw j → qPC.g k j d = some (sizeF d j) := by
 intro k
 induction k with
 | zero => intro d j h; omega
 | succ k ih =>
  intro d j h hd hj; obtain ⟨h1, h2, h3, h4, h5⟩ := (Jw_eq j).1 hj; rw [qPC.g, qPC.b, qRT j hj]
  cases d with
  | zero => rw [zdT (by omega), sizeF]; rfl
  | succ d =>
   rw [zdF (by omega), sizeF]
   cases ho : ownB j with
   | false => rfl
   | true =>
    rw [if_pos rfl]; simp only [qsC, Bool.not_false, qTC, zoB, bo3_F, Bool.not_true, zcF]
    exact quQ j ((d + 1 : Nat) : Int) (qPC.g k) (sizeF d) (qsH d) h4 (fun x hx => by
     rw [qfB (by omega), show ((d + 1 : Nat) : Int) - 1 = (d : Int) by omega]
     exact ih d x (by omega) (by omega) (h5 x hx)) (((lenI j.List_) - 0).toNat + 1) 0 1 (by omega) (by rw [qF]; omega) (by omega) (by omega)
theorem qOL (j : Json) (h : Jw j) : qiF.f j = some (jsonB j) := by
 unfold qiF.f qPC.f; have := qST 20 6 j (by omega) (by omega) h; rw [show (6 : Int) = ((6 : Nat) : Int) from rfl, this, zoB]; rfl
theorem qCK (a b : List ByteArray) (ha : (a.length : Int) ≤ 9223372036854775807) : qzB.f a b = some (decide (a = b)) := by
 unfold qzB.f
 by_cases hl : a.length = b.length
 ·
  rw [zdF (by simp only [qF]; omega), zcF]; refine (qNK (f := qzB.l0 a b) hl (some false) (some true) (fun k i x y hx hy => ?_) (fun k i hi => ?_) _ (by simp only [qF]; omega)).trans ?_
  ·
   have hi := at_lt hx; rw [qzB.l0, qF, zdT (by omega), zcT, qd, hx, zoB, qd, hy, zoB, qrW, qv (by omega)]
   by_cases c : x = y
   · simp [c]
   simp [c]
  · rw [qzB.l0, qF, zdF (by omega), zcF]
  cases decide (a = b) <;> rfl
 rw [zdT (by simp only [qF]; omega), zcT, zdF (fun e => hl (by rw [e]))]
theorem qtH (self : Json → Json → Option Bool) (a : List Json) (hl : (a.length : Int) ≤ 9223372036854775806) (h : ∀ x ∈ a, self x x = some true) : qX.f self a a = some true := by
 unfold qX.f; rw [zdF (by simp), zcF]; refine (qOD (f := qX.l0 a a self) (l := a) (fun _ _ => true) (some false) (some true) (fun k' i x hx => ?_) (fun k' i hi => ?_) _ 0 (by omega) (by rw [qF]; omega)).trans ?_
 ·
  have hi := at_lt hx; rw [qX.l0, qF, zdT (by omega), zcT, qd, hx, zoB, zoB, h x (List.mem_of_getElem? hx), zoB, qsC, Bool.not_true, zcF, qv (by omega), zcT]
 · rw [qX.l0, qF, zdF (by omega), zcF]
 rw [qIE (q := fun _ => true), List.all_eq_true.2 fun _ _ => rfl]; rfl
theorem qMV : ∀ (k : Nat) (a : Json), dpj a < k → szj a ≤ 1000000000 → qRD.g k a a = some true := by
 intro k
 induction k with
 | zero => intro a h; omega
 | succ k ih =>
  intro a hd hs; rw [qfd] at hs; rw [qLV] at hd; have l0 := qZa a.List_; have l1 := szL_0 a.List_; rw [qRD.g, qRD.b, qce, qCK _ _ (by omega), qtH _ _ (by omega) fun x hx => ih x (by have := qaa hx; omega) (by have := qae hx; omega)]; simp only [decide_true, bo3_F, bo3_T, qTC, zoB]
theorem qSP (a : Json) (hd : dpj a < 20) (hs : szj a ≤ 1000000000) : qRD.f a a = some true := qMV 20 a hd hs
def bl (l : List UInt8) : ByteArray := ⟨l.toArray⟩
theorem bl_sa (a b : List UInt8) : Ls.sa (bl a) (bl b) = bl (a ++ b) := by
 show (bl a ++ bl b) = _
 apply ByteArray.ext; simp [bl]
theorem qca (a : List UInt8) : (bl a).size = a.length := rfl
def digs (u : Nat) : List UInt8 := if u = 0 then [] else Lib.decDigits u
theorem quH {u : Nat} (h : 0 < u) : digs u = digs (u / 10) ++ [UInt8.ofNat (48 + u % 10)] := by
 unfold digs; rw [if_neg (by omega), Lib.decDigits]
 split
 ·
  rename_i c
  rw [if_pos (by omega)]
  have : u % 10 = u := by omega
  rw [this]; rfl
 rw [if_neg (by omega)]
theorem qpf {x y : ByteArray} (h : (x.size + y.size : Int) ≤ 9223372036854775807) : smO x y = some () := by unfold smO; rw [if_pos h]
theorem qTT : ∀ (k u : Nat), u < 10 ^ k → (digs u).length ≤ k := by
  intro k
  induction k with
  | zero => intro u h; have : u = 0 := by simpa using h
            subst this; simp [digs]
  | succ k ih =>
    intro u h
    by_cases h0 : u = 0
    · subst h0; simp [digs]
    · rw [quH (by omega)]
      have := ih (u / 10) (by rw [Nat.pow_succ] at h; omega)
      simp only [zlA, zlC, zlN]; omega
section
variable {α : Type}
theorem qhJ {A B : List α} {x : α} {i : Int} (h : i = A.length) : getO (A ++ x :: B) i = some x := by
 subst h; rw [qd, List.getElem?_append_right (Nat.le_refl _), Nat.sub_self]; rfl
theorem qpO {A B : List α} {x y : α} {i : Int} (h : i = A.length) : setI (A ++ x :: B) i y = A ++ y :: B := by
 subst h; rw [qoO, List.set_append_right _ _ (Nat.le_refl _), Nat.sub_self]; rfl
theorem qNV (A B C : List α) (x y : α) : A ++ x :: (B ++ y :: C) = (A ++ x :: B) ++ y :: C := by simp
theorem qqO {A B C : List α} {x y : α} {j : Int} (h : j = A.length + 1 + B.length) : getO (A ++ x :: (B ++ y :: C)) j = some y := by
 rw [qNV]; exact qhJ (by simp; omega)
theorem swapA {A B C : List α} {x y : α} {i j : Int} (hi : i = A.length) (hj : j = A.length + 1 + B.length) : setI (setI (A ++ x :: (B ++ y :: C)) i y) j x = A ++ y :: (B ++ x :: C) := by
 rw [qpO hi, qNV, qpO (by simp; omega), ← qNV]
theorem swapB {A B C : List α} {x y : α} {i j : Int} (hi : i = A.length) (hj : j = A.length + 1 + B.length) : setI (setI (A ++ x :: (B ++ y :: C)) j x) i y = A ++ y :: (B ++ x :: C) := by
 rw [qNV, qpO (by simp; omega), ← qNV, qpO hi]
theorem qkX {i j : Int} (h : i ≠ j) : neO i j = some () := by unfold neO; rw [if_neg h]
theorem qrO {A B C : List α} {c : Nat} (h1 : A.length ≤ c) (h2 : c < A.length + B.length) : getO (A ++ (B ++ C)) (c : Int) = B[c - A.length]? := by
 rw [qd, List.getElem?_append_right h1, List.getElem?_append_left (by omega)]
theorem bsearch {R : Type} {f : Nat → Int → Int → R} {K : Int → R} (B : Nat → Bool) (lo hi : Nat) (mono : ∀ c c', lo ≤ c → c ≤ c' → c' < hi → B c = false → B c' = false)
  (hstep : ∀ k (i j : Nat), lo ≤ i → i < j → j ≤ hi → f (k + 1) i j = if B ((i + j) / 2) = true then f k (((i + j) / 2 + 1 : Nat) : Int) j else f k i (((i + j) / 2 : Nat) : Int)) (hend : ∀ k (i : Nat), f (k + 1) i i = K i) :
  ∀ (k i j : Nat), lo ≤ i → i ≤ j → j ≤ hi → j - i < k → ∃ t : Nat, i ≤ t ∧ t ≤ j ∧ f k i j = K t ∧ (∀ c, i ≤ c → c < t → B c = true) ∧ (∀ c, t ≤ c → c < j → B c = false) := by
 intro k
 induction k with
 | zero => intro i j _ _ _ h; omega
 | succ k ih =>
  intro i j h1 h2 h3 h4
  by_cases hij : i < j
  ·
   rw [hstep k i j h1 hij h3]
   cases hb : B ((i + j) / 2) with
   | true =>
    rw [if_pos rfl]; obtain ⟨t, t1, t2, t3, t4, t5⟩ := ih ((i + j) / 2 + 1) j (by omega) (by omega) h3 (by omega); refine ⟨t, by omega, t2, t3, fun c c1 c2 => ?_, t5⟩
    by_cases hc : (i + j) / 2 + 1 ≤ c
    · exact t4 c hc c2
    cases hx : B c with
    | true => rfl
    | false => rw [mono c ((i + j) / 2) (by omega) (by omega) (by omega) hx] at hb; cases hb
   | false =>
    rw [if_neg (by simp)]; obtain ⟨t, t1, t2, t3, t4, t5⟩ := ih i ((i + j) / 2) h1 (by omega) (by omega) (by omega); refine ⟨t, t1, by omega, t3, t4, fun c c1 c2 => ?_⟩
    by_cases hc : c < (i + j) / 2
    · exact t5 c c1 hc
    exact mono _ c (by omega) (by omega) (by omega) hb
  obtain rfl : i = j := by omega
  exact ⟨i, Nat.le_refl _, Nat.le_refl _, hend k i, fun c c1 c2 => by omega, fun c c1 c2 => by omega⟩
theorem qTP {x : Int} {n : Nat} (h : x = n) (hn : n ≤ 9223372036854775807) : w64 (Ls.ar .shr .u64 (IntKind.wrap .u64 (w64 x)) 1) = ((n / 2 : Nat) : Int) := by
 subst h; have e0 : w64 (n : Int) = n := qfB (by omega)
 have e : IntKind.wrap .u64 (n : Int) = n := by simp [IntKind.wrap, IntKind.signed, IntKind.bits]; omega
 rw [e0, e]
 have e2 : Ls.ar .shr .u64 (n : Int) 1 = (n : Int) / 2 := by
  show Int.fdiv (n : Int) (2 ^ min (1 : Int).toNat IntKind.u64.bits) = _
  have : (2 : Int) ^ min (1 : Int).toNat IntKind.u64.bits = 2 := by decide
  rw [this, Int.fdiv_eq_ediv_of_nonneg _ (by omega)]
 rw [e2, qfB (by omega)]; omega
end
theorem qlX : ∀ x : List UInt8, Op.bytesLess x x = false
 | [] => rfl
 | a :: x => by
  rw [Op.bytesLess, qlX x]
  have : ¬ a < a := by rw [UInt8.lt_iff_toNat_lt]; omega
  simp [this]
theorem qTS : ∀ {x y z : List UInt8}, Op.bytesLess x y = true → Op.bytesLess y z = true → Op.bytesLess x z = true
 | [], _, [], _, h => by cases ‹List UInt8› <;> simp [Op.bytesLess] at h
 | [], _, c :: z, _, _ => rfl
 | a :: x, [], z, h, _ => by simp [Op.bytesLess] at h
 | a :: x, b :: y, [], _, h => by simp [Op.bytesLess] at h
 | a :: x, b :: y, c :: z, h, h' => by
  simp only [Op.bytesLess, Bool.or_eq_true, decide_eq_true_eq, Bool.and_eq_true, beq_iff_eq, UInt8.lt_iff_toNat_lt] at *
  rcases h with h | ⟨rfl, h⟩
  ·
   rcases h' with h' | ⟨rfl, h'⟩
   · left; omega
   left; exact h
  rcases h' with h' | ⟨rfl, h'⟩
  · left; exact h'
  right; exact ⟨rfl, qTS h h'⟩
theorem qmX : ∀ {x y : List UInt8}, x ≠ y → Op.bytesLess x y = false → Op.bytesLess y x = true
 | [], [], h, _ => absurd rfl h
 | [], b :: y, _, h => by simp [Op.bytesLess] at h
 | a :: x, [], _, _ => rfl
 | a :: x, b :: y, hne, h => by
  simp only [Op.bytesLess, Bool.or_eq_false_iff, Bool.and_eq_false_iff, decide_eq_false_iff_not, Bool.or_eq_true, decide_eq_true_eq, Bool.and_eq_true, beq_iff_eq, UInt8.lt_iff_toNat_lt] at *; obtain ⟨h1, h2⟩ := h
  by_cases e : a = b
  ·
   subst e; right; refine ⟨rfl, qmX (fun e => hne (by rw [e])) ?_⟩
   rcases h2 with h2 | h2
   · simp at h2
   exact h2
  left; have : a.toNat ≠ b.toNat := fun e' => e (UInt8.toNat_inj.1 e'); omega
def nlt (x y : ByteArray) : Bool := Ls.sc .lss x y
theorem qUT (x : ByteArray) : nlt x x = false := qlX x.toList
theorem qUP {x y z : ByteArray} (h : nlt x y = true) (h' : nlt y z = true) : nlt x z = true := qTS h h'
theorem toList_inj {x y : ByteArray} (h : x.toList = y.toList) : x = y := by
 have : (x.toList == y.toList) = true := by rw [h]; simp
 rw [ba_eq] at this; exact of_decide_eq_true this
theorem qda {x y : ByteArray} (hne : x ≠ y) (h : nlt x y = false) : nlt y x = true := qmX (fun e => hne (toList_inj e)) h
theorem qVT {x y : ByteArray} (h : nlt x y = true) : nlt y x = false := by
 cases h' : nlt y x with
 | false => rfl
 | true => have := qUP h h'; rw [qUT] at this; cases this
abbrev NV := ByteArray × Int
def numJ (n : Int) : Json := ⟨2, n, ByteArray.empty, [], []⟩
def objJ (P : List NV) : Json := ⟨5, 0, ByteArray.empty, P.map fun p => numJ p.2, P.map (·.1)⟩
def Sn (P : List NV) : Prop := P.Pairwise fun a b => nlt a.1 b.1 = true
def putP (P : List NV) (p : NV) : List NV := (P.filter fun x => nlt x.1 p.1) ++ p :: (P.filter fun x => nlt p.1 x.1)
theorem qnX {P : List NV} {p x : NV} : x ∈ putP P p ↔ x = p ∨ (x ∈ P ∧ x.1 ≠ p.1) := by
 unfold putP; rw [List.mem_append, List.mem_cons, List.mem_filter, List.mem_filter]; constructor
 ·
  rintro (⟨h, h'⟩ | h | ⟨h, h'⟩)
  · exact .inr ⟨h, fun e => by rw [e, qUT] at h'; cases h'⟩
  · exact .inl h
  exact .inr ⟨h, fun e => by rw [e, qUT] at h'; cases h'⟩
 rintro (h | ⟨h, h'⟩)
 · exact .inr (.inl h)
 cases c : nlt x.1 p.1 with
 | true => exact .inl ⟨h, rfl⟩
 | false => exact .inr (.inr ⟨h, qda h' c⟩)
theorem qde {P : List NV} {p : NV} (h : Sn P) : Sn (putP P p) := by
 unfold putP; refine List.pairwise_append.2 ⟨h.filter _, List.pairwise_cons.2 ⟨fun x hx => (List.mem_filter.1 hx).2, h.filter _⟩, fun a ha b hb => ?_⟩; have h1 := (List.mem_filter.1 ha).2
 rcases List.mem_cons.1 hb with rfl | hb
 · exact h1
 exact qUP h1 (List.mem_filter.1 hb).2
theorem qtc (P : List NV) (p : NV) : (putP P p).length ≤ P.length + 1 := by
 unfold putP; rw [zlA, zlC]
 have h1 : (P.filter fun x => nlt x.1 p.1).length + (P.filter fun x => nlt p.1 x.1).length ≤ P.length := by
  induction P with
  | nil => simp
  | cons a P ih =>
   simp only [List.filter_cons, zlC]
   cases c1 : nlt a.1 p.1 with
   | true => rw [qVT c1]; simp; omega
   | false =>
    cases c2 : nlt p.1 a.1 <;> simp <;> omega
 omega
def foldP (P : List NV) : List NV := P.foldl putP []
theorem qUS (P : List NV) (p : NV) : foldP (P ++ [p]) = putP (foldP P) p := by unfold foldP; rw [List.foldl_append]; rfl
theorem qOV (P : List NV) : (foldP P).length ≤ P.length := by
 have : ∀ (P acc : List NV), (P.foldl putP acc).length ≤ P.length + acc.length := by
  intro P
  induction P with
  | nil => intro acc; simp
  | cons p P ih => intro acc; have := ih (putP acc p); have := qtc acc p; simp only [List.foldl_cons, zlC]; omega
 simpa [foldP] using this P []
theorem qWT (P : List NV) : Sn (foldP P) := by
 have : ∀ (P acc : List NV), Sn acc → Sn (P.foldl putP acc) := by
  intro P
  induction P with
  | nil => intro acc h; exact h
  | cons p P ih => intro acc h; exact ih _ (qde h)
 exact this P [] List.Pairwise.nil
def Fn1 (P : List NV) : Prop := ∀ x ∈ P, ∀ y ∈ P, x.1 = y.1 → x = y
theorem qVP : ∀ (P : List NV), Fn1 P → ∀ x, x ∈ foldP P ↔ x ∈ P := by
 have : ∀ (n : Nat) (P : List NV), P.length = n → Fn1 P → ∀ x, x ∈ foldP P ↔ x ∈ P := by
  intro n
  induction n with
  | zero => intro P h _ x; rw [List.length_eq_zero_iff.1 h]; exact Iff.rfl
  | succ n ih =>
   intro P h hf x
   obtain ⟨Q, p, rfl⟩ : ∃ Q p, P = Q ++ [p] := ⟨P.dropLast, P.getLast (by rintro rfl; simp at h), (List.dropLast_concat_getLast _).symm⟩
   have ihq := ih Q (by simpa using h) (fun a ha b hb => hf a (by simp [ha]) b (by simp [hb])); rw [qUS, qnX, ihq x, List.mem_append, List.mem_singleton]; constructor
   ·
    rintro (h | h)
    · exact .inr h
    exact .inl h.1
   rintro (h | h)
   ·
    by_cases e : x.1 = p.1
    · exact .inl (hf x (by simp [h]) p (by simp) e)
    exact .inr ⟨h, e⟩
   exact .inl h
 exact fun P => this P.length P rfl
theorem Sn.unique {P Q : List NV} (h : Sn P) (h' : Sn Q) (e : ∀ x, x ∈ P ↔ x ∈ Q) : P = Q := by
 have nd : ∀ {R : List NV}, Sn R → R.Nodup := fun h => List.nodup_iff_pairwise_ne.2 (h.imp fun h e => by rw [e, qUT] at h; cases h); exact List.Perm.eq_of_pairwise (fun a b _ _ h1 h2 => by rw [qVT h1] at h2; cases h2) h h' ((List.perm_ext_iff_of_nodup (nd h) (nd h')).2 e)
theorem qlY {P Q : List NV} (h : Fn1 P) (h' : Fn1 Q) (e : ∀ x, x ∈ P ↔ x ∈ Q) : foldP P = foldP Q :=
 (qWT P).unique (qWT Q) fun x => by rw [qVP P h, qVP Q h']; exact e x
def qkD (l : List Int) : Int := l.length
def IntS_b (l : List Int) : Prop := l.length ≤ 9223372036854775807
theorem qOK (l : List Int) : 0 ≤ qkD l := by unfold qkD; omega
def qea (l : List Int) : Prop := ∀ x ∈ l, (-9223372036854775808 ≤ x ∧ x ≤ 9223372036854775807)
def qbD (x : Row) : Int := qkD x.Cells
def Row_b (x : Row) : Prop := IntS_b x.Cells
theorem qeE (x : Row) : 0 ≤ qbD x := by unfold qbD; exact by have := qOK x.Cells;  omega
def Row_r (x : Row) : Prop := (-9223372036854775808 ≤ x.Id ∧ x.Id ≤ 9223372036854775807) ∧ qea x.Cells
def cellF (r : Row) (col : Int) : Int := if 0 ≤ col ∧ col ≤ (r.Cells.length : Int) - 1 then r.Cells.getD col.toNat 0 else 0
def aheadB (q : Query) (a b : Row) : Bool :=
 if q.Order = 0 then decide (a.Id < b.Id) else
  let x := cellF a (w64 (q.Order - 1)); let y := cellF b (w64 (q.Order - 1))
  if x = y then decide (a.Id < b.Id) else if q.Down then decide (y < x) else decide (x < y)
def nullJ : Json := ⟨0, 0, ByteArray.empty, [], []⟩
def orJ (j : Json) : Json := if jsonB j = true then j else nullJ
theorem qPL (j : Json) (h : Jw j) : qkF.f j = some (orJ j) := by
 unfold qkF.f orJ; rw [qOL j h, zoB, qsC]
 cases jsonB j <;> rfl
def qqf (x : Cond) : Prop := (-9223372036854775808 ≤ x.Col ∧ x.Col ≤ 9223372036854775807) ∧ (-9223372036854775808 ≤ x.Op ∧ x.Op ≤ 9223372036854775807) ∧ (-9223372036854775808 ≤ x.V ∧ x.V ≤ 9223372036854775807)
def qkI (l : List Cond) : Int := l.length
def qWG (l : List Cond) : Prop := l.length ≤ 9223372036854775807
theorem qUN (l : List Cond) : 0 ≤ qkI l := by unfold qkI; omega
def qee (l : List Cond) : Prop := ∀ x ∈ l, qqf x
def qSE (x : Query) : Int := qkI x.Where + qkD x.Show
def qWF (x : Query) : Prop := qWG x.Where ∧ IntS_b x.Show
theorem qCL (x : Query) : 0 ≤ qSE x := by unfold qSE; exact by have := qUN x.Where; have := qOK x.Show;  omega
def qfe (x : Query) : Prop := (-9223372036854775808 ≤ x.Table ∧ x.Table ≤ 9223372036854775807) ∧ qee x.Where ∧ (-9223372036854775808 ≤ x.Order ∧ x.Order ≤ 9223372036854775807) ∧ (-9223372036854775808 ≤ x.First ∧ x.First ≤ 9223372036854775807) ∧ qea x.Show ∧ (-9223372036854775808 ≤ x.KidTable ∧ x.KidTable ≤ 9223372036854775807) ∧ (-9223372036854775808 ≤ x.KidCol ∧ x.KidCol ≤ 9223372036854775807)
def colN (c : Int) : ByteArray := Ls.sa (ByteArray.mk #[99]) (bl (Lib.itoa c))
def colP (r : Row) (c : Int) : NV := (colN c, cellF r c)
def idP (r : Row) : NV := (ByteArray.mk #[105, 100], r.Id)
def kidsP (n : Int) : NV := (ByteArray.mk #[107, 105, 100, 115], n)
def kidsL (q : Query) (n : Int) : List NV := if q.Kids = true then [kidsP n] else []
def rowObj (q : Query) (r : Row) (n : Int) : Json := objJ (foldP (q.Show.map (colP r) ++ [idP r] ++ kidsL q n))
theorem qpL (c : Int) : colN c = bl (99 :: Lib.itoa c) := by
 unfold colN; rw [show ByteArray.mk #[99] = bl [99] from rfl, bl_sa]; rfl
theorem qPV {a b : List UInt8} (h : bl a = bl b) : a = b := by
 have : (bl a).data.toList = (bl b).data.toList := by rw [h]
 simpa [bl] using this
theorem quc : ∀ (k u v : Nat), u < 10 ^ k → v < 10 ^ k → digs u = digs v → u = v := by
 intro k
 induction k with
 | zero => intro u v h h' _; simp at h h'; omega
 | succ k ih =>
  intro u v h h' e; rw [Nat.pow_succ] at h h'
  by_cases hu : u = 0
  ·
   by_cases hv : v = 0
   · omega
   rw [quH (u := v) (by omega)] at e; subst hu; simp [digs] at e
  by_cases hv : v = 0
  ·
   rw [quH (u := u) (by omega)] at e; subst hv; simp [digs] at e
  rw [quH (by omega), quH (u := v) (by omega)] at e; obtain ⟨e1, e2⟩ := List.append_inj' e rfl; have h1 := ih _ _ (by omega) (by omega) e1; simp only [List.cons.injEq, and_true] at e2
  have h2 : (UInt8.ofNat (48 + u % 10)).toNat = (UInt8.ofNat (48 + v % 10)).toNat := by rw [e2]
  simp only [UInt8.toNat_ofNat'] at h2; omega
theorem qDL {u : Nat} (h : 0 < u) : Lib.decDigits u = digs u := by unfold digs; rw [if_neg (by omega)]
theorem qoX : Lib.decDigits 0 = [48] := by rw [Lib.decDigits, dif_pos (by decide)]; rfl
theorem qge : ∀ (k u : Nat), u < 10 ^ k → ∀ b ∈ digs u, 48 ≤ b.toNat := by
  intro k
  induction k with
  | zero => intro u h b hb; have : u = 0 := by simpa using h
            subst this; simp [digs] at hb
  | succ k ih =>
    intro u h b hb
    by_cases h0 : u = 0
    · subst h0; simp [digs] at hb
    · rw [quH (by omega)] at hb
      rw [Nat.pow_succ] at h
      rcases List.mem_append.1 hb with hb | hb
      · exact ih _ (by omega) b hb
      · rw [List.mem_singleton.1 hb, UInt8.toNat_ofNat']; omega
theorem qVS {u : Nat} (h : u < 10 ^ 29) : ∀ {l : List UInt8}, digs u = l → ∀ {x y}, l = x :: y → 0 < u → x ≠ 48 := by
 have : ∀ (k u : Nat), u < 10 ^ k → 0 < u → ∃ x y, digs u = x :: y ∧ x ≠ 48 := by
  intro k
  induction k with
  | zero => intro u h h0; simp at h; omega
  | succ k ih =>
   intro u h h0; rw [Nat.pow_succ] at h; rw [quH h0]
   by_cases c : u / 10 = 0
   ·
    rw [c]; refine ⟨UInt8.ofNat (48 + u % 10), [], by simp [digs], fun e => ?_⟩
    have : (UInt8.ofNat (48 + u % 10)).toNat = 48 := by rw [e]; rfl
    rw [UInt8.toNat_ofNat'] at this; omega
   obtain ⟨x, y, e1, e2⟩ := ih (u / 10) (by omega) (by omega); exact ⟨x, y ++ [UInt8.ofNat (48 + u % 10)], by rw [e1]; rfl, e2⟩
 intro l hl x y hxy h0; obtain ⟨x', y', e1, e2⟩ := this 29 u h h0; rw [hl, hxy] at e1; simp only [List.cons.injEq] at e1; rw [e1.1]; exact e2
theorem qpX {a b : Int} (ha : -9223372036854775808 ≤ a ∧ a ≤ 9223372036854775807) (hb : -9223372036854775808 ≤ b ∧ b ≤ 9223372036854775807) (h : Lib.itoa a = Lib.itoa b) : a = b := by
 have key : ∀ u v : Nat, u ≤ 9223372036854775808 → v ≤ 9223372036854775808 → Lib.decDigits u = Lib.decDigits v → u = v := fun u v hu hv e => by
  by_cases u0 : u = 0
  ·
   by_cases v0 : v = 0
   · omega
   exfalso; subst u0; rw [qoX, qDL (by omega)] at e; exact qVS (u := v) (by omega) e.symm rfl (by omega) rfl
  by_cases v0 : v = 0
  ·
   exfalso; subst v0; rw [qoX, qDL (by omega)] at e; exact qVS (u := u) (by omega) e rfl (by omega) rfl
  rw [qDL (by omega), qDL (by omega)] at e; exact quc 29 u v (by omega) (by omega) e
 have hd : ∀ u : Nat, u ≤ 9223372036854775808 → ∀ x ∈ Lib.decDigits u, 48 ≤ x.toNat := fun u hu x hx => by
  by_cases u0 : u = 0
  · subst u0; rw [qoX] at hx; rw [List.mem_singleton.1 hx]; decide
  rw [qDL (by omega)] at hx; exact qge 29 u (by omega) x hx
 unfold Lib.itoa at h
 by_cases c1 : a < 0 <;> by_cases c2 : b < 0
 ·
  rw [if_pos c1, if_pos c2] at h; have := key _ _ (by omega) (by omega) (List.cons.inj h).2; omega
 ·
  rw [if_pos c1, if_neg c2] at h; have := hd b.toNat (by omega) 45 (by rw [← h]; simp); simp at this
 ·
  rw [if_neg c1, if_pos c2] at h; have := hd a.toNat (by omega) 45 (by rw [h]; simp); simp at this
 rw [if_neg c1, if_neg c2] at h; have := key _ _ (by omega) (by omega) h; omega
theorem qVN (c : Int) : colN c ≠ ByteArray.mk #[105, 100] := fun e => by
 rw [qpL, show ByteArray.mk #[105, 100] = bl [105, 100] from rfl] at e; have := qPV e; simp at this
theorem qPK (c : Int) : colN c ≠ ByteArray.mk #[107, 105, 100, 115] := fun e => by
 rw [qpL, show ByteArray.mk #[107, 105, 100, 115] = bl [107, 105, 100, 115] from rfl] at e; have := qPV e; simp at this
theorem qWN : (ByteArray.mk #[105, 100]) ≠ ByteArray.mk #[107, 105, 100, 115] := fun e => by
 rw [show ByteArray.mk #[105, 100] = bl [105, 100] from rfl, show ByteArray.mk #[107, 105, 100, 115] = bl [107, 105, 100, 115] from rfl] at e; have := qPV e; simp at this
def In64 (l : List Int) : Prop := ∀ x ∈ l, -9223372036854775808 ≤ x ∧ x ≤ 9223372036854775807
theorem qid {r : Row} {n : Int} {q : Query} {P : List NV} {cols : List Int} (hc : In64 cols) (h : ∀ x ∈ P, (∃ c ∈ cols, x = colP r c) ∨ x = idP r ∨ x = kidsP n) : Fn1 P := fun x hx y hy e => by
 rcases h x hx with ⟨c, c1, rfl⟩ | rfl | rfl <;> rcases h y hy with ⟨d, d1, rfl⟩ | rfl | rfl
 ·
  have e : colN c = colN d := e; rw [qpL, qpL] at e; rw [qpX (hc c c1) (hc d d1) (List.cons.inj (qPV e)).2]
 · exact absurd e (qVN c)
 · exact absurd e (qPK c)
 · exact absurd e.symm (qVN d)
 · rfl
 · exact absurd e qWN
 · exact absurd e.symm (qPK d)
 · exact absurd e.symm qWN
 rfl
theorem qqX (n : Int) (h : -9223372036854775808 ≤ n ∧ n ≤ 9223372036854775807) : (Lib.itoa n).length ≤ 30 := by
 have hd : ∀ u : Nat, u ≤ 9223372036854775808 → (Lib.decDigits u).length ≤ 29 := fun u hu => by
  by_cases u0 : u = 0
  · subst u0; rw [qoX]; simp
  rw [qDL (by omega)]; exact qTT 29 u (by omega)
 unfold Lib.itoa
 split
 · have := hd n.natAbs (by omega); simp only [zlC]; omega
 have := hd n.toNat (by omega); omega
theorem qfa (n : Int) (h : -9223372036854775808 ≤ n ∧ n ≤ 9223372036854775807) : (colN n).size ≤ 31 := by
 rw [qpL, qca]; have := qqX n h; simp only [zlC]; omega
theorem put_c (n : Int) (h : -9223372036854775808 ≤ n ∧ n ≤ 9223372036854775807) : smO (ByteArray.mk #[99]) (bl (Lib.itoa n)) = some () := qpf (by
 rw [qca, show (ByteArray.mk #[99]).size = 1 from rfl]; have := qqX n h
 omega)
theorem qmY {P : List NV} {x : NV} : x ∈ foldP P → x ∈ P := by
 have : ∀ (P acc : List NV), x ∈ P.foldl putP acc → x ∈ P ∨ x ∈ acc := by
  intro P
  induction P with
  | nil => intro acc h; exact .inr h
  | cons p P ih =>
   intro acc h
   rcases ih _ h with h | h
   · exact .inl (List.mem_cons_of_mem _ h)
   rcases qnX.1 h with rfl | h
   · exact .inl (List.mem_cons_self ..)
   exact .inr h.1
 intro h; exact (this P [] h).elim id (by simp)
theorem qjd (n : Int) : Jw (numJ n) := (Jw_eq _).2 ⟨by show ((0 : Nat) : Int) ≤ _; omega, by simp [numJ], by simp [numJ], by simp [numJ], by simp [numJ]⟩
theorem qrf {P : List NV} (hl : P.length ≤ 4194304) (hs : ∀ x ∈ P, x.1.size ≤ 31) : Jw (objJ P) := (Jw_eq _).2 ⟨by show ((0 : Nat) : Int) ≤ _; omega, fun x hx => by
 obtain ⟨p, hp, rfl⟩ := List.mem_map.1 hx; have := hs p hp
 omega, by simp only [objJ, List.length_map]; omega, by simp only [objJ, List.length_map]; omega, fun x hx => by
 obtain ⟨p, hp, rfl⟩ := List.mem_map.1 hx
 exact qjd _⟩
theorem qhe (P : List NV) : szj (objJ P) = 2 * (P.length : Int) ∧ dpj (objJ P) ≤ 2 := by
 have h1 : ∀ l : List NV, szL (l.map fun p => numJ p.2) = l.length ∧ dpL (l.map fun p => numJ p.2) ≤ 1 := by
  intro l
  induction l with
  | nil => simp [szL, dpL]
  | cons p l ih =>
   have e1 : szj (numJ p.2) = 0 := by simp [numJ, szj, szL]
   have e2 : dpj (numJ p.2) = 1 := by simp [numJ, dpj, dpL]
   rw [List.map_cons, szL, dpL, e1, e2, ih.1, zlC]; omega
 have := h1 P; refine ⟨?_, ?_⟩
 ·
  show szj ⟨5, 0, ByteArray.empty, _, _⟩ = _
  rw [szj, this.1, List.length_map]; omega
 show dpj ⟨5, 0, ByteArray.empty, _, _⟩ ≤ _
 rw [dpj]; omega
theorem qnY {q : Query} {r : Row} {n : Int} (hc : In64 q.Show) : ∀ x ∈ foldP (q.Show.map (colP r) ++ [idP r] ++ kidsL q n), x.1.size ≤ 31 := fun x hx => by
 have := qmY hx; simp only [List.mem_append, List.mem_map, List.mem_singleton] at this
 rcases this with (⟨c, h1, rfl⟩ | rfl) | h
 · exact qfa c (hc c h1)
 · show (ByteArray.mk #[105, 100]).size ≤ 31; decide
 unfold kidsL at h
 split at h
 · rw [List.mem_singleton.1 h]; show (ByteArray.mk #[107, 105, 100, 115]).size ≤ 31; decide
 simp at h
theorem qXT {q : Query} {r : Row} {n : Int} (hc : In64 q.Show) (hl : q.Show.length ≤ 2097152) : Jw (rowObj q r n) ∧ szj (rowObj q r n) ≤ 8388608 ∧ dpj (rowObj q r n) ≤ 2 := by
 have h1 := qOV (q.Show.map (colP r) ++ [idP r] ++ kidsL q n)
 have h2 : (kidsL q n).length ≤ 1 := by unfold kidsL; split <;> simp
 simp only [zlA, List.length_map, List.length_singleton] at h1; have := qhe (foldP (q.Show.map (colP r) ++ [idP r] ++ kidsL q n)); exact ⟨qrf (by omega) (qnY hc), by unfold rowObj; omega, by unfold rowObj; omega⟩
def qUC (l : List Row) : Int := l.length + (l.map qbD).sum
def qWP (l : List Row) : Prop := l.length ≤ 9223372036854775807 ∧ ∀ x ∈ l, Row_b x
theorem qGG (l : List Row) : 0 ≤ qUC l := by have := qUE qeE l; unfold qUC; omega
def qkd (l : List Row) : Prop := ∀ x ∈ l, Row_r x
theorem qrX {f : Json → Int} (hf : ∀ x, 1 ≤ f x ∧ f x ≤ 401) : ∀ (l : List Json) (n : Int), 0 ≤ n → n ≤ 400 → capL f n l ≤ 400 → capL f n l = n + (l.map f).sum ∧ ∀ x ∈ l, f x ≤ 400
 | [], n, _, _, _ => by simp [capL]
 | x :: l, n, h0, hn, h => by
  have hfx := hf x; rw [capL] at h ⊢
  split at h
  · omega
  rename_i c
  rw [if_neg c]; obtain ⟨h1, h2⟩ := qrX hf l (n + f x) (by omega) (by omega) h; refine ⟨by rw [h1, List.map_cons, List.sum_cons]; omega, fun y hy => ?_⟩
  rcases List.mem_cons.1 hy with rfl | hy
  · omega
  exact h2 y hy
theorem qga {j : Json} (h : ownB j = true) : j.Names.length ≤ j.List_.length := by
 rw [qof, Bool.and_eq_true] at h; have h2 := h.2; unfold k3B at h2; simp only [Bool.not_eq_true', Bool.or_eq_false_iff] at h2; have h3 := h2.2
 by_cases k5 : j.Kind = 5
 ·
  rw [if_pos k5] at h3; simp only [Bool.not_eq_false', Bool.and_eq_true, decide_eq_true_eq] at h3; omega
 rw [if_neg k5] at h3; simp only [Bool.not_eq_false', decide_eq_true_eq] at h3; omega
theorem qQV : ∀ (d : Nat) (j : Json), sizeF d j ≤ 400 → szj j ≤ 2 * sizeF d j - 2 ∧ dpj j ≤ d
 | 0, j, h => by rw [sizeF] at h; omega
 | d + 1, j, h => by
  rw [sizeF] at h ⊢
  split at h
  ·
   rename_i ho
   rw [if_pos ho]; obtain ⟨h1, h2⟩ := qrX (qsH d) j.List_ 1 (by omega) (by omega) h; have hn := qga ho; rw [h1, qfd, qLV]
   have hL : ∀ l : List Json, (∀ x ∈ l, sizeF d x ≤ 400) → szL l + (l.length : Int) ≤ 2 * (l.map (sizeF d)).sum ∧ dpL l ≤ d := by
    intro l
    induction l with
    | nil => intro _; simp [szL, dpL]
    | cons x l ih =>
     intro hx; obtain ⟨a1, a2⟩ := ih fun y hy => hx y (by simp [hy]); obtain ⟨b1, b2⟩ := qQV d x (hx x (by simp)); rw [szL, dpL, List.map_cons, List.sum_cons, zlC]; exact ⟨by omega, by omega⟩
   obtain ⟨c1, c2⟩ := hL j.List_ h2; exact ⟨by omega, by omega⟩
  omega
theorem qWS : ∀ (d e : Nat) (j : Json), dpj j ≤ d → dpj j ≤ e → sizeF d j = sizeF e j
 | 0, e, j, h, _ => by rw [qLV] at h; omega
 | d + 1, 0, j, _, h => by rw [qLV] at h; omega
 | d + 1, e + 1, j, h, h' => by
  rw [qLV] at h h'; rw [sizeF, sizeF]
  have : ∀ (l : List Json) (n : Int), dpL l ≤ d → dpL l ≤ e → capL (sizeF d) n l = capL (sizeF e) n l := by
   intro l
   induction l with
   | nil => intro n _ _; rfl
   | cons x l ih =>
    intro n h1 h2; rw [dpL] at h1 h2; rw [capL, capL, qWS d e x (by omega) (by omega), ih _ (by omega) (by omega)]
  rw [this j.List_ 1 (by omega) (by omega)]
def docsF (q : Query) (kids : List Int) : List Row → Nat → List Json
 | [], _ => []
 | r :: l, i => rowObj q r (kids.getD i 0) :: docsF q kids l (i + 1)
def firstF (q : Query) (n : Nat) : Nat := if q.First = 0 then n else if q.First ≤ 0 then 0 else min n q.First.toNat
def docObj (q : Query) (rows : List Row) (kids : List Int) : Json := ⟨5, 0, ByteArray.empty, [numJ rows.length, ⟨4, 0, ByteArray.empty, docsF q kids (rows.take (firstF q rows.length)) 0, []⟩], [ByteArray.mk #[99, 111, 117, 110, 116], ByteArray.mk #[114, 111, 119, 115]]⟩
def docOfF (q : Query) (rows : List Row) (kids : List Int) : Json := orJ (docObj q rows kids)
theorem qRV (q : Query) (n : Nat) : firstF q n ≤ n := by unfold firstF; split <;> (try split) <;> omega
theorem qSM (q : Query) (kids : List Int) : ∀ (l : List Row) (i : Nat), (docsF q kids l i).length = l.length
 | [], _ => rfl
 | r :: l, i => by rw [docsF, zlC, zlC, qSM q kids l]
theorem qXS (q : Query) (kids : List Int) : ∀ (l : List Row) (i : Nat) (r : Row), docsF q kids (l ++ [r]) i = docsF q kids l i ++ [rowObj q r (kids.getD (i + l.length) 0)]
 | [], i, r => rfl
 | x :: l, i, r => by
  rw [List.cons_append, docsF, qXS q kids l, docsF, List.cons_append, zlC, Nat.add_assoc, Nat.add_comm 1]
theorem qTM {q : Query} {kids : List Int} : ∀ {l : List Row} {i : Nat} {x : Json}, x ∈ docsF q kids l i → ∃ r n, x = rowObj q r n
 | r :: l, i, x, h => by
  rw [docsF] at h
  rcases List.mem_cons.1 h with rfl | h
  · exact ⟨_, _, rfl⟩
  exact qTM h
theorem qsX {q : Query} {rows : List Row} {kids : List Int} (hc : In64 q.Show) (hl : q.Show.length ≤ 2097152) (hr : rows.length ≤ 2097152) : Jw (docObj q rows kids) := by
 refine (Jw_eq _).2 ⟨by show ((0 : Nat) : Int) ≤ _; omega, fun x hx => ?_, by simp [docObj], by simp [docObj], fun x hx => ?_⟩
 ·
  simp only [docObj, List.mem_cons, List.not_mem_nil, or_false] at hx
  rcases hx with rfl | rfl
  · show ((5 : Nat) : Int) ≤ _; omega
  show ((4 : Nat) : Int) ≤ _; omega
 simp only [docObj, List.mem_cons, List.not_mem_nil, or_false] at hx
 rcases hx with rfl | rfl
 · exact qjd _
 refine (Jw_eq _).2 ⟨by show ((0 : Nat) : Int) ≤ _; omega, by simp, by simp, ?_, fun x hx => ?_⟩
 ·
  dsimp only; rw [qSM, zlT]; omega
 obtain ⟨r, n, rfl⟩ := qTM hx; exact (qXT hc hl).1
theorem qoY {q : Query} {rows : List Row} {kids : List Int} (hc : In64 q.Show) (hl : q.Show.length ≤ 2097152) {x : Json} (hx : x ∈ docsF q kids (rows.take (firstF q rows.length)) 0) (hb : jsonB x = false) : jsonB (docObj q rows kids) = false := by
 unfold jsonB at *; rw [decide_eq_false_iff_not] at *; intro h; obtain ⟨r, n, rfl⟩ := qTM hx; have hd := (qXT (q := q) (r := r) (n := n) hc hl).2.2; rw [sizeF] at h
 split at h
 ·
  obtain ⟨_, h2⟩ := qrX (qsH 5) _ 1 (by omega) (by omega) h; have h3 := h2 ⟨4, 0, ByteArray.empty, docsF q kids (rows.take (firstF q rows.length)) 0, []⟩ (by simp [docObj]); rw [sizeF] at h3
  split at h3
  ·
   obtain ⟨_, h4⟩ := qrX (qsH 4) _ 1 (by omega) (by omega) h3; have := h4 _ hx; rw [qWS 4 6 _ (by omega) (by omega)] at this; exact hb this
  omega
 omega
theorem qHG (j : Json) (hw : Jw j) (h : jsonB j = true) : qQF.f j j = some true := by
 have h' := h; unfold jsonB at h'; rw [decide_eq_true_eq] at h'; obtain ⟨h1, h2⟩ := qQV 6 j h'; unfold qQF.f; rw [qOL j hw, h, zoB, qTC, zoB, bo3_T, qTC, qSP j (by omega) (by omega)]; rfl
def cmpB (op v z : Int) : Bool := if op = 1 then decide (v = z) else if op = 2 then decide (v < z) else if op = 3 then decide (z < v) else if op = 4 then decide (v ≠ z) else false
def holdsB (c : Cond) (r : Row) : Bool := decide (0 ≤ c.Col ∧ c.Col ≤ (r.Cells.length : Int) - 1) && cmpB c.Op (r.Cells.getD c.Col.toNat 0) c.V
def matchesB (q : Query) (r : Row) : Bool := q.Where.all fun c => holdsB c r
theorem qYT (c : Cond) (r : Row) (h : Row_b r) : qOJ.f c r = some (holdsB c r) := by
 have hl : r.Cells.length ≤ 9223372036854775807 := h; unfold qOJ.f holdsB; rw [qF, qfB (by omega), qGC, zoB, qsC]
 by_cases d : 0 ≤ c.Col ∧ c.Col ≤ (r.Cells.length : Int) - 1
 ·
  rw [zdT d, Bool.not_true, zcF, qPF d, zoB, Bool.true_and]; simp only [qnO, decide_eq_true_eq, qPT, qTE, cmpB]
  all_goals ((repeat' split) <;> simp_all)
 rw [zdF d, Bool.not_false, zcT, Bool.false_and]
theorem qQK (q : Query) (r : Row) (hq : qWG q.Where) (h : Row_b r) : qxC.f q r = some (matchesB q r) := by
 have hl : q.Where.length ≤ 9223372036854775807 := hq; unfold qxC.f; refine (qOD (f := qxC.l0 q r) (l := q.Where) (fun _ c => holdsB c r) (some false) (some true) (fun k i x hx => ?_) (fun k i hi => ?_) _ 0 (by omega) (by (try simp only [qF]); omega)).trans ?_
 ·
  have hi := at_lt hx; rw [qxC.l0, qF, zdT (by omega), zcT, qd, hx, zoB, qYT _ _ h, zoB, qsC, qv (by omega)]
  cases holdsB x r <;> rfl
 · rw [qxC.l0, qF, zdF (by omega), zcF]
 rw [qIE, matchesB]
 cases q.Where.all fun c => holdsB c r <;> rfl
theorem qXN (v : Int) : qtE.f v = some (decide (0 ≤ v ∧ v ≤ 100000)) := by
 unfold qtE.f; rw [qGC, zoB]
def qDF (x : Schema) : Int := qkD x.Cols
def qFE (x : Schema) : Prop := IntS_b x.Cols
theorem qqL (x : Schema) : 0 ≤ qDF x := by unfold qDF; exact by have := qOK x.Cols;  omega
def qvc (x : Schema) : Prop := qea x.Cols
theorem qkE (s : Schema) (t : Int) (h : qFE s) : qJE.f s t = some (decide (0 ≤ t ∧ t ≤ (s.Cols.length : Int) - 1)) := by
 have hl : s.Cols.length ≤ 9223372036854775807 := h; unfold qJE.f; rw [qF, qfB (by omega), qGC, zoB]
def schemaB (s : Schema) : Bool := s.Cols.all (fun n => decide (1 ≤ n ∧ n ≤ 4)) && decide (1 ≤ (s.Cols.length : Int) ∧ (s.Cols.length : Int) ≤ 3)
theorem qeF (s : Schema) (h : qFE s) : qdC.f s = some (schemaB s) := by
 have hl : s.Cols.length ≤ 9223372036854775807 := h; unfold qdC.f joinK; refine (qOD (f := qdC.l0 s _) (l := s.Cols) (fun _ n => decide (1 ≤ n ∧ n ≤ 4)) (some false) (some (decide (1 ≤ (s.Cols.length : Int) ∧ (s.Cols.length : Int) ≤ 3))) (fun k i x hx => ?_) (fun k i hi => ?_) _ 0 (by omega) (by (try simp only [qF]); omega)).trans ?_
 ·
  have hi := at_lt hx; rw [qdC.l0, qF, zdT (by omega), zcT, qd, hx, zoB, qGC, zoB, qsC, qv (by omega)]
  cases decide (1 ≤ x ∧ x ≤ 4) <;> rfl
 · rw [qdC.l0, qF, zdF (by omega), zcF, qGC, zoB]
 rw [qIE, schemaB]
 cases s.Cols.all fun n => decide (1 ≤ n ∧ n ≤ 4) <;> rfl
def rowB (s : Schema) (t : Int) (r : Row) : Bool :=
 schemaB s && decide (0 ≤ t ∧ t ≤ (s.Cols.length : Int) - 1) && decide (1 ≤ r.Id ∧ r.Id ≤ 999) && decide ((r.Cells.length : Int) = s.Cols.getD t.toNat 0) && r.Cells.all fun n => decide (-1000000000 ≤ n ∧ n ≤ 1000000000)
def rowsB (s : Schema) (t : Int) (rows : List Row) : Bool :=
 allFrom (fun i r => rowB s t r && !(decide (0 < i) && decide (r.Id ≤ (rows.getD (i - 1) default).Id))) rows 0 && (schemaB s && decide (0 ≤ t ∧ t ≤ (s.Cols.length : Int) - 1) && decide (rows.length ≤ 24))
theorem qQJ {s : Schema} (h : schemaB s = true) : s.Cols.length ≤ 3 := by
 unfold schemaB at h; rw [Bool.and_eq_true] at h; have := of_decide_eq_true h.2; omega
theorem qYH {s : Schema} {t : Int} {rows : List Row} (h : rowsB s t rows = true) {i : Nat} {r : Row} (hr : rows[i]? = some r) : rowB s t r = true := by
 unfold rowsB at h; rw [Bool.and_eq_true] at h; have := qbE.1 h.1 i r hr; rw [Bool.and_eq_true] at this; exact this.1
theorem qmG {s : Schema} {t : Int} {rows : List Row} (h : rowsB s t rows = true) : rows.length ≤ 24 := by
 unfold rowsB at h; simp only [Bool.and_eq_true, decide_eq_true_eq] at h; exact h.2.2
theorem qUM {s : Schema} {t : Int} {r : Row} (h : rowB s t r = true) : (r.Cells.length : Int) = s.Cols.getD t.toNat 0 := by
 unfold rowB at h; simp only [Bool.and_eq_true, decide_eq_true_eq] at h; exact h.1.2
theorem qVM (s : Schema) (t : Int) (r : Row) (hs : qFE s) (hr : Row_b r) : qvD.f s t r = some (rowB s t r) := by
 have hrl : r.Cells.length ≤ 9223372036854775807 := hr; unfold qvD.f rowB; simp only [joinK]; refine (qOD (f := qvD.l0 r _) (l := r.Cells) (fun _ n => decide (-1000000000 ≤ n ∧ n ≤ 1000000000)) (some false) (some (schemaB s && decide (0 ≤ t ∧ t ≤ (s.Cols.length : Int) - 1) && decide (1 ≤ r.Id ∧ r.Id ≤ 999) && decide ((r.Cells.length : Int) = s.Cols.getD t.toNat 0))) (fun k i x hx => ?_) (fun k i hi => ?_) _ 0 (by omega) (by (try simp only [qF]); omega)).trans ?_
 ·
  have hi := at_lt hx; rw [qvD.l0, qF, zdT (by omega), zcT, qd, hx, zoB, qgJ, zoB, qsC, qv (by omega)]
  cases decide (-1000000000 ≤ x ∧ x ≤ 1000000000) <;> rfl
 ·
  rw [qvD.l0, qF, zdF (by omega), zcF, qeF _ hs, zoB, qkE _ _ hs, qGC]
  cases schemaB s with
  | false => rfl
  | true =>
   by_cases d : 0 ≤ t ∧ t ≤ (s.Cols.length : Int) - 1
   case neg => rw [zdF d]; rfl
   rw [zdT d, qPF d]; simp only [bo3_F, bo3_T, qTC, zoB, Bool.true_and, gd_of, zcT]
   by_cases d3 : (r.Cells.length : Int) = s.Cols.getD t.toNat 0
   · simp [d3, bo3]
   simp [d3, bo3]; exact Bool.and_comm _ _
 rw [qIE]
 cases r.Cells.all fun n => decide (-1000000000 ≤ n ∧ n ≤ 1000000000) <;> simp
theorem qvQ (s : Schema) (t : Int) (rows : List Row) (hs : qFE s) (hr : qWP rows) : qdD.f s t rows = some (rowsB s t rows) := by
 have hl : s.Cols.length ≤ 9223372036854775807 := hs; obtain ⟨hrl, hr2⟩ := hr; unfold qdD.f rowsB; simp only [joinK]; refine (qOD (f := qdD.l0 s t rows _) (l := rows) (fun i r => rowB s t r && !(decide (0 < i) && decide (r.Id ≤ (rows.getD (i - 1) default).Id))) (some false) (some (schemaB s && decide (0 ≤ t ∧ t ≤ (s.Cols.length : Int) - 1) && decide (rows.length ≤ 24))) (fun k i x hx => ?_) (fun k i hi => ?_) _ 0 (by omega) (by (try simp only [qF]); omega)).trans ?_
 ·
  have hi := at_lt hx; rw [qdD.l0, qF, zdT (by omega), zcT, qd, hx, zoB, qVM _ _ _ hs (hr2 x (List.mem_of_getElem? hx)), zoB, qQM hx (by omega), zoB, qv (by omega)]; rw [show decide (0 < (i : Int)) = decide (0 < i) from by simp]
  cases rowB s t x <;> cases decide (0 < i) <;> (try rfl)
  simp only [bo3_F, bo3_T, Bool.true_and, zcT]
  by_cases e : x.Id ≤ (rows.getD (i - 1) default).Id
  · simp [e]
  simp [e]
 ·
  rw [qdD.l0, qF, zdF (by omega), zcF, qeF _ hs, zoB]
  first | rw [qkE _ _ hs] | rw [qF s.Cols, qfB (by omega), qNC]
  have e24 : decide ((rows.length : Int) ≤ 24) = decide (rows.length ≤ 24) := by rw [decide_eq_decide]; omega
  simp only [qF, e24]; generalize decide (0 ≤ t ∧ t ≤ (s.Cols.length : Int) - 1) = b1; generalize decide (rows.length ≤ 24) = b2
  cases schemaB s <;> cases b1 <;> cases b2 <;> rfl
 cases allFrom (fun i r => rowB s t r && !(decide (0 < i) && decide (r.Id ≤ (rows.getD (i - 1) default).Id))) rows 0 <;> rfl
def qiJ (l : List (List Row)) : Int := l.length + (l.map qUC).sum
def qie (l : List (List Row)) : Prop := l.length ≤ 9223372036854775807 ∧ ∀ x ∈ l, qWP x
def qje (l : List (List Row)) : Prop := ∀ x ∈ l, qkd x
def qnG (x : Store) : Int := qDF x.Schema + qiJ x.Tables
def qvH (x : Store) : Prop := qFE x.Schema ∧ qie x.Tables
def qzg (x : Store) : Prop := qvc x.Schema ∧ (-9223372036854775808 ≤ x.Version ∧ x.Version ≤ 9223372036854775807) ∧ qje x.Tables
def storeB (s : Store) : Bool :=
 schemaB s.Schema && decide (0 ≤ s.Version ∧ s.Version ≤ 100000) && decide (s.Tables.length = s.Schema.Cols.length) && allFrom (fun i rows => rowsB s.Schema (i : Int) rows) s.Tables 0
theorem qjJ {s : Store} (h : storeB s = true) {i : Nat} {rows : List Row} (hr : s.Tables[i]? = some rows) : rowsB s.Schema i rows = true := by
 unfold storeB at h; rw [Bool.and_eq_true] at h; exact qbE.1 h.2 i rows hr
theorem qKE {s : Store} (h : storeB s = true) : s.Tables.length = s.Schema.Cols.length ∧ schemaB s.Schema = true := by
 unfold storeB at h; simp only [Bool.and_eq_true, decide_eq_true_eq] at h; exact ⟨h.1.2, h.1.1.1⟩
theorem qSV (v : Int) : qtE.f v = some (decide (0 ≤ v ∧ v ≤ 100000)) := qXN v
theorem qIG (s : Store) (hb : qvH s) : qlC.f s = some (storeB s) := by
 obtain ⟨hs, ht, ht2⟩ := hb; have hl : s.Schema.Cols.length ≤ 9223372036854775807 := hs; unfold qlC.f storeB; rw [qeF _ hs, zoB, qSV]
 cases schemaB s.Schema with
 | false => rfl
 | true =>
  by_cases d : 0 ≤ s.Version ∧ s.Version ≤ 100000
  case neg => rw [zdF d]; rfl
  rw [zdT d]
  by_cases d2 : s.Tables.length = s.Schema.Cols.length
  case neg =>
   rw [show decide (lenI s.Tables ≠ lenI s.Schema.Cols) = true from zdT (by simp only [qF]; omega), zdF d2]; rfl
  rw [show decide (lenI s.Tables ≠ lenI s.Schema.Cols) = false from zdF (by simp only [qF]; omega), zdT d2]; simp only [bo3_F, bo3_T, qTC, zoB, Bool.true_and, zcF]; refine (qOD (f := qlC.l0 s) (l := s.Tables) (fun i rows => rowsB s.Schema (i : Int) rows) (some false) (some true) (fun k i x hx => ?_) (fun k i hi => ?_) _ 0 (by omega) (by (try simp only [qF]); omega)).trans ?_
  ·
   have hi := at_lt hx; rw [qlC.l0, qF, zdT (by omega), zcT, qd, hx, zoB, qvQ _ _ _ hs (ht2 x (List.mem_of_getElem? hx)), zoB, qsC, qv (by omega)]
   cases rowsB s.Schema i x <;> rfl
  · rw [qlC.l0, qF, zdF (by omega), zcF]
  cases allFrom (fun i rows => rowsB s.Schema (i : Int) rows) s.Tables 0 <;> rfl
def kidsB (s : Schema) (q : Query) : Bool :=
 if q.Kids then decide (0 ≤ q.KidTable ∧ q.KidTable ≤ (s.Cols.length : Int) - 1) && decide (0 ≤ q.KidCol ∧ q.KidCol ≤ w64 (s.Cols.getD q.KidTable.toNat 0 - 1)) else decide (q.KidTable = 0) && decide (q.KidCol = 0)
def condB (cols : Int) (c : Cond) : Bool := decide (0 ≤ c.Col ∧ c.Col ≤ w64 (cols - 1)) && decide (1 ≤ c.Op ∧ c.Op ≤ 4) && decide (-1000000000 ≤ c.V ∧ c.V ≤ 1000000000)
def showB (cols : Int) (l : List Int) : Bool := allFrom (fun i x => decide (0 ≤ x ∧ x ≤ w64 (cols - 1)) && !(decide (0 < i) && decide (x ≤ l.getD (i - 1) 0))) l 0
def queryB (s : Schema) (q : Query) : Bool :=
  schemaB s && decide (0 ≤ q.Table ∧ q.Table ≤ (s.Cols.length : Int) - 1) &&
    (let cols := s.Cols.getD q.Table.toNat 0
     q.Where.all (condB cols) && showB cols q.Show && (decide (q.Where.length ≤ 3) && decide (0 ≤ q.Order ∧ q.Order ≤ cols) && (!q.Down || decide (0 < q.Order)) && decide (0 ≤ q.First ∧ q.First ≤ 24) && kidsB s q))
theorem qTV {r : Bool} {l : List Int} {i : Nat} {x : Int} (hx : l[i]? = some x) (hl : i < 9223372036854775807) : gd (bo3 r (decide (0 < (i : Int))) false) (getO l (w64 ((i : Int) - 1))) = some (bif bo3 r (decide (0 < (i : Int))) false then l.getD (i - 1) 0 else 0) := by
 refine qXa _ fun h => ?_; have h0 := of_decide_eq_true (bo_r h); have hi := at_lt hx; rw [qfB (by omega), show ((i : Int) - 1) = ((i - 1 : Nat) : Int) by omega, qd, zgD, zgE (by omega)]; rfl
theorem qXP (s : Schema) (q : Query) (h : qFE s) : qwG.f s q = some (kidsB s q) := by
 unfold qwG.f kidsB; rw [qsC]
 cases q.Kids with
 | false => simp [qTE]
 | true =>
  rw [Bool.not_true, zcF, qkE _ _ h, zoB, if_pos rfl]
  by_cases d : 0 ≤ q.KidTable ∧ q.KidTable ≤ (s.Cols.length : Int) - 1
  · rw [zdT d, qTC, qPF d, zoB, qTC, qGC, zoB, qTE]
  rw [zdF d, qxE, zoB, qxE, zoB, qTE]; rfl
theorem qEF (s : Schema) (q : Query) (h : qFE s) (hq : qWF q) : quB.f s q = some (queryB s q) := by
 obtain ⟨hw, hs⟩ := hq; have hwl : q.Where.length ≤ 9223372036854775807 := hw; have hsl : q.Show.length ≤ 9223372036854775807 := hs; unfold quB.f queryB; rw [qeF _ h, zoB]
 cases schemaB s with
 | false => rfl
 | true =>
  rw [show bo3 (bo3 true false true) false true = true from rfl, qTC, qkE _ _ h, zoB]
  by_cases d : 0 ≤ q.Table ∧ q.Table ≤ (s.Cols.length : Int) - 1
  case neg => rw [zdF d]; rfl
  rw [zdT d, show bo3 (bo3 true false true) true (bo3 true false true) = false from rfl, zcF, qPF d, zoB]; generalize s.Cols.getD q.Table.toNat 0 = cols; simp only [joinK, Bool.true_and]; refine (qOD (f := quB.l0 q cols _) (l := q.Where) (fun _ c => condB cols c) (some false) (some (showB cols q.Show && (decide (q.Where.length ≤ 3) && decide (0 ≤ q.Order ∧ q.Order ≤ cols) && (!q.Down || decide (0 < q.Order)) && decide (0 ≤ q.First ∧ q.First ≤ 24) && kidsB s q))) (fun k i x hx => ?_) (fun k i hi => ?_) _ 0 (by omega) (by (try simp only [qF]); omega)).trans ?_
  ·
   have hi := at_lt hx; rw [quB.l0, qF, zdT (by omega), zcT, qd, hx, zoB, qGC, zoB, qGC, qgJ, qv (by omega)]; unfold condB
   cases decide (0 ≤ x.Col ∧ x.Col ≤ w64 (cols - 1)) <;> cases decide (1 ≤ x.Op ∧ x.Op ≤ 4) <;> cases decide (-1000000000 ≤ x.V ∧ x.V ≤ 1000000000) <;> rfl
  ·
   rw [quB.l0, qF, zdF (by omega), zcF]; refine (qOD (f := quB.l1 q cols _) (l := q.Show) (fun i x => decide (0 ≤ x ∧ x ≤ w64 (cols - 1)) && !(decide (0 < i) && decide (x ≤ q.Show.getD (i - 1) 0))) (some false) (some (decide (q.Where.length ≤ 3) && decide (0 ≤ q.Order ∧ q.Order ≤ cols) && (!q.Down || decide (0 < q.Order)) && decide (0 ≤ q.First ∧ q.First ≤ 24) && kidsB s q)) (fun k i x hx => ?_) (fun k i hi => ?_) _ 0 (by omega) (by (try simp only [qF]); omega)).trans ?_
   ·
    have hi := at_lt hx; rw [quB.l1, qF, zdT (by omega), zcT, qd, hx, zoB, qGC, zoB, qTV hx (by omega), zoB, qv (by omega)]; rw [show decide (0 < (i : Int)) = decide (0 < i) from by simp]
    cases decide (0 ≤ x ∧ x ≤ w64 (cols - 1)) <;> cases decide (0 < i) <;> (try rfl)
    simp only [qTE, qsC, qRS, Bool.not_true, Bool.not_false, Bool.true_and, zcT]
    cases decide (x ≤ q.Show.getD (i - 1) 0) <;> rfl
   ·
    rw [quB.l1, qF, zdF (by omega), zcF, qGC, zoB, qGC, qXP _ _ h]; rw [show decide ((q.Where.length : Int) ≤ 3) = decide (q.Where.length ≤ 3) from by simp; omega]
    cases decide (q.Where.length ≤ 3) <;> cases decide (0 ≤ q.Order ∧ q.Order ≤ cols) <;> cases q.Down <;> cases decide (0 < q.Order) <;> cases decide (0 ≤ q.First ∧ q.First ≤ 24) <;> cases kidsB s q <;> rfl
   unfold showB
   cases allFrom (fun i x => decide (0 ≤ x ∧ x ≤ w64 (cols - 1)) && !(decide (0 < i) && decide (x ≤ q.Show.getD (i - 1) 0))) q.Show 0 <;> rfl
  rw [qIE]
  cases q.Where.all fun c => condB cols c <;> simp
theorem qxJ (l : List Int) (h : (l.length : Int) ≤ 1099511627776) : qRF.f l = some l := by
 unfold qRF.f; rw [qWC (by simp only [zlN]; omega), zoB, List.nil_append]
theorem qha {r : Row} {B : Int} (h : qbD r ≤ B) : (r.Cells.length : Int) ≤ B := by unfold qbD qkD at h; exact h
theorem qYP (r : Row) (h : qbD r ≤ 1099511627776) : qxG.f r = some r := by
 unfold qxG.f; rw [qxJ _ (qha h), zoB]
theorem qwI (r : Row) (col : Int) (h : Row_b r) : qjF.f r col = some (cellF r col) := by
 have hl : r.Cells.length ≤ 9223372036854775807 := h; unfold qjF.f cellF; rw [qF, qfB (by omega), qGC, zoB, qsC]
 by_cases d : 0 ≤ col ∧ col ≤ (r.Cells.length : Int) - 1
 · rw [zdT d, Bool.not_true, zcF, qPF d, zoB, if_pos d]
 rw [zdF d, Bool.not_false, zcT, if_neg d]
theorem qWM (q : Query) (a b : Row) (ha : Row_b a) (hb : Row_b b) : qiH.f q a b = some (aheadB q a b) := by
 unfold qiH.f aheadB; rw [qwI _ _ ha, qwI _ _ hb]; simp only [zoB, qnO, decide_eq_true_eq, qPT, qsC, qWa, ne_eq, ite_not]
 all_goals (
  generalize cellF a (w64 (q.Order - 1)) = x; generalize cellF b (w64 (q.Order - 1)) = y
  by_cases h0 : q.Order = 0
  · simp [h0]
  by_cases h1 : x = y
  · simp [h0, h1]
  cases hd : q.Down with
  | true =>
   simp only [h0, h1, if_false, if_true, zoI, decide_eq_true_eq]
   by_cases h2 : x < y
   · simp [h2]; try omega
   simp [h2]; try omega
  | false =>
   simp only [h0, h1, if_false, zoI, decide_eq_true_eq]
   by_cases h2 : x < y
   · simp [h2]; try omega
   simp [h2]; try omega)
theorem qRK (q : Query) (a b : Row) : aheadB q a b = true ↔ (q.Order = 0 ∧ a.Id < b.Id) ∨ (q.Order ≠ 0 ∧ ((cellF a (w64 (q.Order - 1)) = cellF b (w64 (q.Order - 1)) ∧ a.Id < b.Id) ∨ (q.Down = true ∧ cellF b (w64 (q.Order - 1)) < cellF a (w64 (q.Order - 1))) ∨ (q.Down = false ∧ cellF a (w64 (q.Order - 1)) < cellF b (w64 (q.Order - 1))))) := by
 unfold aheadB
 by_cases h0 : q.Order = 0
 ·
  rw [if_pos h0, decide_eq_true_eq]; exact ⟨fun h => .inl ⟨h0, h⟩, fun h => h.elim (fun h => h.2) (fun h => absurd h0 h.1)⟩
 rw [if_neg h0]; dsimp only; generalize cellF a (w64 (q.Order - 1)) = x; generalize cellF b (w64 (q.Order - 1)) = y
 by_cases e : x = y
 ·
  rw [if_pos e, decide_eq_true_eq]; constructor
  · exact fun h => .inr ⟨h0, .inl ⟨e, h⟩⟩
  rintro (h | ⟨_, h | h | h⟩)
  · exact absurd h.1 h0
  · exact h.2
  · omega
  omega
 rw [if_neg e]
 cases q.Down with
 | true =>
  rw [if_pos rfl, decide_eq_true_eq]; constructor
  · exact fun h => .inr ⟨h0, .inr (.inl ⟨rfl, h⟩)⟩
  rintro (h | ⟨_, h | h | h⟩)
  · exact absurd h.1 h0
  · exact absurd h.1 e
  · exact h.2
  cases h.1
 | false =>
  rw [if_neg (by simp), decide_eq_true_eq]; constructor
  · exact fun h => .inr ⟨h0, .inr (.inr ⟨rfl, h⟩)⟩
  rintro (h | ⟨_, h | h | h⟩)
  · exact absurd h.1 h0
  · exact absurd h.1 e
  · cases h.1
  exact h.2
theorem qpY {q : Query} {a b : Row} (h : aheadB q a b = true) : aheadB q b a = false := by
 rw [← Bool.not_eq_true, qRK]; rw [qRK] at h
 cases hd : q.Down <;> simp only [hd, true_and, false_and, false_or, or_false, Bool.false_eq_true, Bool.true_eq_false] at h ⊢ <;> omega
theorem qwH {q : Query} {a b : Row} (hi : a.Id ≠ b.Id) (h : aheadB q a b = false) : aheadB q b a = true := by
 rw [qRK]; rw [← Bool.not_eq_true, qRK] at h
 cases hd : q.Down <;> simp only [hd, true_and, false_and, false_or, or_false, Bool.false_eq_true, Bool.true_eq_false] at h ⊢ <;> omega
theorem qkJ {q : Query} {a b c : Row} (h1 : aheadB q a b = true) (h2 : aheadB q b c = true) : aheadB q a c = true := by
 rw [qRK] at *
 cases hd : q.Down <;> simp only [hd, true_and, false_and, false_or, or_false, Bool.false_eq_true, Bool.true_eq_false] at h1 h2 ⊢ <;> omega
def Srt (q : Query) (l : List Row) : Prop := l.Pairwise fun a b => aheadB q a b = true
def Dst (l : List Row) : Prop := l.Pairwise fun a b => a.Id ≠ b.Id
theorem Dst.perm {l l' : List Row} (h : Dst l) (p : l.Perm l') : Dst l' := (p.pairwise_iff (fun h e => h e.symm)).1 h
theorem Dst.app {l l' : List Row} (h : Dst (l ++ l')) : Dst l ∧ Dst l' ∧ ∀ a ∈ l, ∀ b ∈ l', a.Id ≠ b.Id := List.pairwise_append.1 h
theorem Srt.unique {q : Query} {l l' : List Row} (h : Srt q l) (h' : Srt q l') (p : l.Perm l') : l = l' :=
 List.Perm.eq_of_pairwise (fun a b _ _ h1 h2 => by rw [qpY h1] at h2; cases h2) h h' p
theorem Srt.app {q : Query} {l l' : List Row} : Srt q (l ++ l') ↔ Srt q l ∧ Srt q l' ∧ ∀ a ∈ l, ∀ b ∈ l', aheadB q a b = true := List.pairwise_append
theorem Srt.at {q : Query} {l : List Row} (h : Srt q l) {i j : Nat} {x y : Row} (hij : i < j) (hx : l[i]? = some x) (hy : l[j]? = some y) : aheadB q x y = true := by
 obtain ⟨h1, rfl⟩ := List.getElem?_eq_some_iff.1 hx; obtain ⟨h2, rfl⟩ := List.getElem?_eq_some_iff.1 hy; exact List.pairwise_iff_getElem.1 h i j h1 h2 hij
theorem qSF (a b : Row) (q : Query) (ha : Row_b a) (hb : Row_b b) : qsD.f a b q = some (if aheadB q a b = true then -1 else 1) := by
 unfold qsD.f; rw [qWM q a b ha hb, zoB]
 cases aheadB q a b <;> rfl
theorem qqY (a1 : Int) (q : Query) (K : List Row → Option (List Row)) : ∀ (k : Nat) (n : Nat) (P S1 S2 R : List Row) (x : Row) (j : Int), S1.length = n → n < k → a1 = P.length → j = P.length + S1.length → (P ++ (S1 ++ x :: (S2 ++ R))).length ≤ 1000000 →
  (∀ y ∈ S1 ++ x :: S2, Row_b y) → Dst (S1 ++ x :: S2) → Srt q (S1 ++ S2) → (∀ y ∈ S2, aheadB q x y = true) →
  ∃ S', qD.l1 a1 q K k (P ++ (S1 ++ x :: (S2 ++ R))) j = K (P ++ (S' ++ R)) ∧ S'.Perm (S1 ++ x :: S2) ∧ Srt q S' := by
 intro k
 induction k with
 | zero => intro n P S1 S2 R x j _ h; omega
 | succ k ih =>
  intro n P S1 S2 R x j hn hk h1 h2 hlen hb hd hs hx; simp only [zlA, zlC] at hlen; rw [qD.l1]
  have fin : Srt q (S1 ++ x :: S2) → ∃ S', K (P ++ (S1 ++ x :: (S2 ++ R))) = K (P ++ (S' ++ R)) ∧ S'.Perm (S1 ++ x :: S2) ∧ Srt q S' := fun h => ⟨S1 ++ x :: S2, by simp, List.Perm.refl _, h⟩
  cases n with
  | zero =>
   obtain rfl := List.length_eq_zero_iff.1 hn; rw [zdF (by simp at h2; omega), qxE, zoB, qxE, zoB, qxE, zoB, bo3_F, zcF]; exact fin (List.pairwise_cons.2 ⟨hx, hs⟩)
  | succ n =>
   obtain ⟨S, y, rfl⟩ : ∃ S y, S1 = S ++ [y] := ⟨S1.dropLast, S1.getLast (by rintro rfl; simp at hn), (List.dropLast_concat_getLast _).symm⟩
   simp only [zlA, zlC, zlN] at hn h2 hlen
   have hpos : (P ++ (S ++ [y] ++ x :: (S2 ++ R))) = (P ++ S) ++ y :: ([] ++ x :: (S2 ++ R)) := by simp
   have lps : (P ++ S).length = P.length + S.length := zlA
   have e1 : getO (P ++ (S ++ [y] ++ x :: (S2 ++ R))) j = some x := by rw [hpos]; exact qqO (by simp only [zlN]; omega)
   have e2 : getO (P ++ (S ++ [y] ++ x :: (S2 ++ R))) (w64 (j - 1)) = some y := by rw [hpos, qfB (by omega)]; exact qhJ (by omega)
   have by_ : Row_b y := hb y (by simp); have bx : Row_b x := hb x (by simp); rw [zdT (by omega), e1, qTC, zoB, e2, qTC, zoB, qTC, qSF x y q bx by_, zoB, bo3_T, zoB, zoB]
   cases hc : aheadB q x y with
   | true =>
    rw [if_pos rfl, zdT (by omega), zcT, qkX (by rw [qfB (by omega)]; omega), zoB, zoB, hpos, qfB (by omega), swapB (by omega) (by simp only [zlN]; omega)]
    obtain ⟨S', g1, g2, g3⟩ := ih n P S (y :: S2) R x (j - 1) (by omega) (by omega) h1 (by omega) (by simp only [zlA, zlC]; omega) (fun z hz => hb z (by simp at hz ⊢; rcases hz with h | h | h | h <;> simp [h])) (hd.perm (by simpa using List.Perm.append_left S (List.Perm.swap x y S2))) (by simpa using hs) (fun z hz => by
     rcases List.mem_cons.1 hz with rfl | h
     · exact hc
     exact hx z h)
    refine ⟨S', ?_, g2.trans (by simpa using List.Perm.append_left S (List.Perm.swap y x S2)), g3⟩; rw [← g1]; simp
   | false =>
    rw [if_neg (by simp), zdF (by omega), zcF]; have hne : x.Id ≠ y.Id := fun e => (hd.app.2.2 y (by simp) x (by simp)) e.symm; have hyx := qwH hne hc; refine fin (Srt.app.2 ⟨(Srt.app.1 hs).1, List.pairwise_cons.2 ⟨hx, (Srt.app.1 hs).2.1⟩, fun a ha b hb' => ?_⟩)
    have hax : aheadB q a x = true := by
     rcases List.mem_append.1 ha with h | h
     · exact qkJ ((Srt.app.1 (Srt.app.1 hs).1).2.2 a h y (by simp)) hyx
     rw [List.mem_singleton.1 h]; exact hyx
    rcases List.mem_cons.1 hb' with rfl | h
    · exact hax
    exact qkJ hax (hx b h)
theorem qrY (a1 a2 : Int) (q : Query) : ∀ (k : Nat) (P S T R : List Row) (i : Int), T.length < k → a1 = P.length → i = P.length + S.length → a2 = P.length + S.length + T.length → (P ++ (S ++ (T ++ R))).length ≤ 1000000 →
  (∀ y ∈ S ++ T, Row_b y) → Dst (S ++ T) → Srt q S →
  ∃ S', qD.l0 a1 a2 q k (P ++ (S ++ (T ++ R))) i = some (P ++ (S' ++ R)) ∧ S'.Perm (S ++ T) ∧ Srt q S' := by
 intro k
 induction k with
 | zero => intro P S T R i h; omega
 | succ k ih =>
  intro P S T R i hk h1 h2 h3 hlen hb hd hs; have hlen0 := hlen; simp only [zlA] at hlen; rw [qD.l0]
  cases T with
  | nil =>
   simp only [zlN] at h3; rw [zdF (by omega), zcF]; exact ⟨S, by simp, by simp, hs⟩
  | cons x T =>
   simp only [zlC] at h3 hlen hk; rw [zdT (by omega), zcT, qCD]
   have hd' : Dst (S ++ [x] ++ T) := by simpa using hd
   obtain ⟨S', g1, g2, g3⟩ := qqY a1 q (fun y17 => qD.l0 a1 a2 q k y17 (w64 (i + 1))) ((i - a1).toNat + 1) S.length P S [] (T ++ R) x i rfl (by omega) h1 h2 (by simp only [zlA, zlC, zlN]; omega) (fun y hy => hb y (by simp at hy ⊢; rcases hy with h | h <;> simp [h])) (by simpa using hd'.app.1) (by simpa using hs) (by simp)
   have ls : S'.length = S.length + 1 := by rw [g2.length_eq]; simp
   have gp : S'.Perm (S ++ [x]) := by simpa using g2
   rw [List.nil_append] at g1; rw [show P ++ (S ++ (x :: T ++ R)) = P ++ (S ++ x :: (T ++ R)) by simp, g1, qfB (by omega)]
   obtain ⟨S'', f1, f2, f3⟩ := ih P S' T R (i + 1) (by omega) h1 (by omega) (by omega) (by simp only [zlA]; omega) (fun y hy => by
    rcases List.mem_append.1 hy with h | h
    ·
     have := gp.mem_iff.1 h; exact hb y (by simp at this ⊢; rcases this with h | h <;> simp [h])
    exact hb y (by simp [h])) (hd'.perm (gp.symm.append_right T)) g3
   exact ⟨S'', f1, f2.trans (by simpa using gp.append_right T), f3⟩
theorem qYN {a1 a2 : Int} (q : Query) {P T R : List Row} (h1 : a1 = P.length) (h2 : a2 = P.length + T.length) (hlen : (P ++ (T ++ R)).length ≤ 1000000) (hb : ∀ y ∈ T, Row_b y) (hd : Dst T) :
  ∃ S, qD.f (P ++ (T ++ R)) a1 a2 q = some (P ++ (S ++ R)) ∧ S.Perm T ∧ Srt q S := by
 unfold qD.f; have hlen' := hlen; simp only [zlA] at hlen'; rw [qfB (by omega)]
 cases T with
 | nil =>
  simp only [zlN] at h2; refine ⟨[], ?_, List.Perm.refl _, List.Pairwise.nil⟩; rw [qD.l0, zdF (by omega), zcF]
 | cons x T =>
  simp only [zlC] at h2 hlen'; have := qrY a1 a2 q ((a2 - (a1 + 1)).toNat + 1) P [x] T R (a1 + 1) (by omega) h1 (by simp only [zlC, zlN]; omega) (by simp only [zlC, zlN]; omega) (by simp only [zlA, zlC, zlN]; omega) (by simpa using hb) (by simpa using hd) (by simp [Srt]); simpa using this
theorem qUV (a1 a2 a3 : Int) : ∀ (k : Nat) (X Y A B C : List Row) (i : Int), X.length = Y.length → 0 ≤ i → i + X.length ≤ 1000000 → (A ++ (X ++ (B ++ (Y ++ C)))).length ≤ 1000000 → a1 + i = A.length → a2 + i = A.length + X.length + B.length → a3 = i + X.length → X.length < k →
  qG.l0 a1 a2 a3 k (A ++ (X ++ (B ++ (Y ++ C)))) i = some (A ++ (Y ++ (B ++ (X ++ C)))) := by
 intro k
 induction k with
 | zero => intro X Y A B C i _ _ _ _ _ _ _ h; omega
 | succ k ih =>
  intro X Y A B C i hl h0 hi hlen h1 h2 h3 hk; rw [qG.l0]
  cases X with
  | nil =>
   cases Y with
   | cons y Y => simp at hl
   | nil => rw [zdF (by simp at h3; omega), zcF]
  | cons x X =>
   cases Y with
   | nil => simp at hl
   | cons y Y =>
    simp only [zlA, zlC] at *
    have e1 : w64 (a1 + i) = A.length := by rw [qfB (by omega), h1]
    have lxb : (X ++ B).length = X.length + B.length := zlA
    have e2 : w64 (a2 + i) = A.length + 1 + (X ++ B).length := by rw [qfB (by omega), h2]; omega
    have e : A ++ (x :: X ++ (B ++ (y :: Y ++ C))) = A ++ x :: ((X ++ B) ++ y :: (Y ++ C)) := by simp
    rw [zdT (by omega), zcT, e1, e2, e, qqO rfl, zoB, qhJ rfl, zoB, qkX (by omega), zoB, zoB, swapA rfl rfl, qfB (by omega)]; have := ih X Y (A ++ [y]) (B ++ [x]) C (i + 1) (by omega) (by omega) (by omega) (by simp only [zlA, zlC, zlN]; omega) (by simp only [zlA, zlC, zlN]; omega) (by simp only [zlA, zlC, zlN]; omega) (by omega) (by omega); simpa using this
theorem qSK {a1 a2 a3 : Int} (q : Query) {X Y A B C : List Row} (hl : X.length = Y.length) (hlen : (A ++ (X ++ (B ++ (Y ++ C)))).length ≤ 1000000) (h1 : a1 = A.length) (h2 : a2 = A.length + X.length + B.length) (h3 : a3 = X.length) :
  qG.f (A ++ (X ++ (B ++ (Y ++ C)))) a1 a2 a3 q = some (A ++ (Y ++ (B ++ (X ++ C)))) := by
 unfold qG.f; have hlen' := hlen; simp only [zlA] at hlen'; exact qUV a1 a2 a3 _ X Y A B C 0 hl (by omega) (by omega) hlen (by omega) (by omega) (by omega) (by omega)
theorem qia (q : Query) (a2 : Int) : ∀ (k : Nat) (X Y P Q : List Row), X ≠ [] → Y ≠ [] → X.length + Y.length < k → (P ++ (X ++ (Y ++ Q))).length ≤ 1000000 → a2 = P.length + X.length →
  qH.l0 a2 q (fun y1 y2 => (qG.f y1 (w64 (a2 - y2)) a2 y2 q).bind fun r24 => some r24) k (P ++ (X ++ (Y ++ Q))) X.length Y.length = some (P ++ (Y ++ (X ++ Q))) := by
 intro k
 induction k with
 | zero => intro X Y P Q _ _ h; omega
 | succ k ih =>
  intro X Y P Q hx hy hk hlen h2; have lx : 0 < X.length := List.length_pos_iff.2 hx; have ly : 0 < Y.length := List.length_pos_iff.2 hy; simp only [zlA] at hlen; rw [qH.l0]
  by_cases he : X.length = Y.length
  ·
   rw [zdF (by omega), zcF, qfB (by omega)]; have := qSK (a1 := a2 - X.length) (a2 := a2) (a3 := X.length) q (X := X) (Y := Y) (A := P) (B := []) (C := Q) he (by simp only [zlA, zlN]; omega) (by omega) (by simp only [zlN]; omega) rfl; simp only [List.nil_append] at this; rw [this]; rfl
  rw [zdT (by omega), zcT]
  by_cases hg : Y.length < X.length
  ·
   rw [zdT (by omega), zcT, qfB (by omega), qfB (by omega)]
   obtain ⟨X1, X2, rfl, l1⟩ : ∃ X1 X2, X = X1 ++ X2 ∧ X1.length = Y.length := ⟨X.take Y.length, X.drop Y.length, (List.take_append_drop ..).symm, by rw [zlT]; omega⟩
   rw [zlA] at *; have := qSK (a1 := a2 - (X1.length + X2.length : Nat)) (a2 := a2) (a3 := Y.length) q (X := X1) (Y := Y) (A := P) (B := X2) (C := Q) l1 (by simp only [zlA]; omega) (by omega) (by omega) (by omega); rw [show P ++ (X1 ++ X2 ++ (Y ++ Q)) = P ++ (X1 ++ (X2 ++ (Y ++ Q))) by simp, this, zoB]; have h := ih X2 X1 (P ++ Y) Q (by rintro rfl; simp at *; omega) (by rintro rfl; simp at *; omega) (by omega) (by simp only [zlA]; omega) (by simp only [zlA]; omega)
   rw [show ((X1.length + X2.length : Nat) : Int) - Y.length = X2.length by omega, show (Y.length : Int) = X1.length by omega]; simpa using h
  rw [zdF (by omega), zcF, qfB (by omega), qfB (x := a2 + Y.length) (by omega), qfB (by omega), qfB (by omega)]
  obtain ⟨Y1, Y2, rfl, l1⟩ : ∃ Y1 Y2, Y = Y1 ++ Y2 ∧ Y2.length = X.length := ⟨Y.take (Y.length - X.length), Y.drop (Y.length - X.length), (List.take_append_drop ..).symm, by rw [List.length_drop]; omega⟩
  rw [zlA] at *; have := qSK (a1 := a2 - X.length) (a2 := a2 + (Y1.length + Y2.length : Nat) - X.length) (a3 := X.length) q (X := X) (Y := Y2) (A := P) (B := Y1) (C := Q) l1.symm (by simp only [zlA]; omega) (by omega) (by omega) (by omega); rw [show P ++ (X ++ (Y1 ++ Y2 ++ Q)) = P ++ (X ++ (Y1 ++ (Y2 ++ Q))) by simp, this, zoB]; have h := ih Y2 Y1 P (X ++ Q) (by rintro rfl; simp at *; omega) (by rintro rfl; simp at *; omega) (by omega) (by simp only [zlA]; omega) (by omega)
  rw [show ((Y1.length + Y2.length : Nat) : Int) - X.length = Y1.length by omega, show (X.length : Int) = Y2.length by omega]; simpa using h
theorem qja (q : Query) {a1 a2 a3 : Int} {X Y P Q : List Row} (hx : X ≠ []) (hy : Y ≠ []) (hlen : (P ++ (X ++ (Y ++ Q))).length ≤ 900) (h1 : a1 = P.length) (h2 : a2 = P.length + X.length) (h3 : a3 = P.length + X.length + Y.length) :
  qH.f (P ++ (X ++ (Y ++ Q))) a1 a2 a3 q = some (P ++ (Y ++ (X ++ Q))) := by
 unfold qH.f; simp only [zlA] at hlen; rw [qCD, qfB (by omega), qfB (by omega), show a2 - a1 = X.length by omega, show a3 - a2 = Y.length by omega]; exact qia q a2 1000 X Y P Q hx hy (by omega) (by simp only [zlA]; omega) h2
theorem Srt.tr1 {q : Query} {l : List Row} (h : Srt q l) {i j : Nat} {x y z : Row} (hij : i ≤ j) (hx : l[i]? = some x) (hy : l[j]? = some y) (hz : aheadB q y z = true) : aheadB q x z = true := by
 rcases Nat.lt_or_ge i j with h1 | h1
 · exact qkJ (h.at h1 hx hy) hz
 obtain rfl : i = j := by omega
 rw [hx] at hy; cases hy; exact hz
theorem Srt.tr2 {q : Query} {l : List Row} (h : Srt q l) {i j : Nat} {x y z : Row} (hij : i ≤ j) (hx : l[i]? = some x) (hy : l[j]? = some y) (hz : aheadB q z x = true) : aheadB q z y = true := by
 rcases Nat.lt_or_ge i j with h1 | h1
 · exact qkJ hz (h.at h1 hx hy)
 obtain rfl : i = j := by omega
 rw [hx] at hy; cases hy; exact hz
theorem symUp (y4 : Int) : ∀ (k : Nat) (Y A C : List Row) (x : Row) (i : Int), Y.length < k → i = A.length → y4 = A.length + 1 + Y.length → (A ++ x :: (Y ++ C)).length ≤ 1000000 →
  qA.l1 y4 k (A ++ x :: (Y ++ C)) i = some (A ++ (Y ++ x :: C)) := by
 intro k
 induction k with
 | zero => intro Y A C x i h; omega
 | succ k ih =>
  intro Y A C x i hk h1 h2 hlen; simp only [zlA, zlC] at hlen; rw [qA.l1, qfB (x := y4 - 1) (by omega)]
  cases Y with
  | nil =>
   simp only [zlN] at h2; rw [zdF (by omega), zcF]; rfl
  | cons y Y =>
   simp only [zlC] at h2 hk hlen; rw [zdT (by omega), zcT, qfB (by omega), show A ++ x :: (y :: Y ++ C) = A ++ x :: ([] ++ y :: (Y ++ C)) by simp, qqO (by simp only [zlN]; omega), zoB, qhJ h1, zoB, qkX (by omega), zoB, zoB, swapA h1 (by simp only [zlN]; omega)]; have := ih Y (A ++ [y]) C x (i + 1) (by omega) (by simp only [zlA, zlC, zlN]; omega) (by simp only [zlA, zlC, zlN]; omega) (by simp only [zlA, zlC, zlN]; omega)
   simpa using this
theorem symDown (y39 : Int) : ∀ (k n : Nat) (Y A C : List Row) (x : Row) (i : Int), Y.length = n → n < k → i = A.length + Y.length → y39 = A.length → (A ++ (Y ++ x :: C)).length ≤ 1000000 →
  qA.l3 y39 k (A ++ (Y ++ x :: C)) i = some (A ++ x :: (Y ++ C)) := by
 intro k
 induction k with
 | zero => intro n Y A C x i _ h; omega
 | succ k ih =>
  intro n Y A C x i hn hk h1 h2 hlen; simp only [zlA, zlC] at hlen; rw [qA.l3]
  cases n with
  | zero =>
   obtain rfl := List.length_eq_zero_iff.1 hn; rw [zdF (by simp at h1; omega), zcF]; rfl
  | succ n =>
   obtain ⟨S, y, rfl⟩ : ∃ S y, Y = S ++ [y] := ⟨Y.dropLast, Y.getLast (by rintro rfl; simp at hn), (List.dropLast_concat_getLast _).symm⟩
   simp only [zlA, zlC, zlN] at hn h1 hlen; have lps : (A ++ S).length = A.length + S.length := zlA; rw [zdT (by omega), zcT, qfB (by omega), show A ++ (S ++ [y] ++ x :: C) = (A ++ S) ++ y :: ([] ++ x :: C) by simp, qhJ (by omega), zoB, qqO (by simp only [zlN]; omega), zoB, qkX (by omega), zoB, zoB, swapB (by omega) (by simp only [zlN]; omega)]; have := ih n S A (y :: C) x (i - 1) (by omega) (by omega) (by omega) h2 (by simp only [zlA, zlC]; omega)
   simpa using this
theorem symOne (self : List Row → Int → Int → Int → Query → Option (List Row)) (q : Query) {P R Q : List Row} {x : Row} {a m b : Int} (ha : a = P.length) (hm : m = P.length + 1) (hb' : b = P.length + 1 + R.length) (hlen : (P ++ ([x] ++ (R ++ Q))).length ≤ 900) (hb : ∀ y ∈ [x] ++ R, Row_b y) (hd : Dst ([x] ++ R)) (hR : Srt q R) :
  ∃ M, qA.b self (P ++ ([x] ++ (R ++ Q))) a m b q = some (P ++ (M ++ Q)) ∧ M.Perm ([x] ++ R) ∧ Srt q M := by
 have hlen' := hlen; simp only [zlA, zlC, zlN] at hlen'; unfold qA.b; rw [qCD, qfB (x := m - a) (by omega), zdT (by omega), zcT, qCD]; have hx : Row_b x := hb x (by simp)
 have hR' : ∀ c, P.length + 1 ≤ c → c < P.length + 1 + R.length → ∃ y, R[c - (P.length + 1)]? = some y ∧ y ∈ R ∧ getO (P ++ ([x] ++ (R ++ Q))) (c : Int) = some y := by
  intro c h1 h2
  have h3 : c - (P.length + 1) < R.length := by omega
  refine ⟨R[c - (P.length + 1)], zgE h3, List.getElem_mem h3, ?_⟩; rw [show P ++ ([x] ++ (R ++ Q)) = (P ++ [x]) ++ (R ++ Q) by simp, qrO (by simp; omega) (by simp; omega)]; simp only [zlA, zlC, zlN]; exact zgE h3
 have h0 : getO (P ++ ([x] ++ (R ++ Q))) a = some x := qhJ ha; generalize hK : (fun y4 => qA.l1 y4 ((w64 (y4 - 1) - a).toNat + 1) (P ++ ([x] ++ (R ++ Q))) a) = K
 obtain ⟨t, t1, t2, t3, t4, t5⟩ := bsearch (f := fun k i j => qA.l0 (P ++ ([x] ++ (R ++ Q))) a q K k i j) (K := K) (fun c => aheadB q (R.getD (c - (P.length + 1)) default) x) (P.length + 1) (P.length + 1 + R.length)
  (fun c c' h1 h2 h3 h4 => by
   obtain ⟨y, e1, _, _⟩ := hR' c h1 (by omega); obtain ⟨y', e2, _, _⟩ := hR' c' (by omega) h3; rw [zgD, e1, Option.getD_some] at h4; rw [zgD, e2, Option.getD_some]
   cases hh : aheadB q y' x with
   | false => rfl
   | true => rw [hR.tr1 (by omega) e1 e2 hh] at h4; cases h4)
  (fun k i j h1 h2 h3 => by
   obtain ⟨y, e1, hy, e2⟩ := hR' ((i + j) / 2) (by omega) (by omega)
   show qA.l0 _ a q K (k + 1) i j = _
   rw [qA.l0, zdT (by omega), zcT, qTP (n := i + j) (by omega) (by omega), e2, zoB, h0, zoB, qSF y x q (hb y (by simp [hy])) hx, zoB, zgD, e1, Option.getD_some, qv (by omega)]
   cases aheadB q y x with
   | true => rw [if_pos rfl, zdT (by omega), zcT, if_pos rfl]
   | false => rw [if_neg (by simp), zdF (by omega), zcF, if_neg (by simp)])
  (fun k i => by
   show qA.l0 _ a q K (k + 1) i i = _
   rw [qA.l0, zdF (by omega), zcF])
  ((b - m).toNat + 1) (P.length + 1) (P.length + 1 + R.length) (Nat.le_refl _) (by omega) (Nat.le_refl _) (by omega)
 rw [show m = ((P.length + 1 : Nat) : Int) by omega, show b = ((P.length + 1 + R.length : Nat) : Int) by omega] at *; rw [t3, ← hK]
 obtain ⟨R1, R2, eR, l1⟩ : ∃ R1 R2, R = R1 ++ R2 ∧ R1.length = t - (P.length + 1) := ⟨R.take (t - (P.length + 1)), R.drop (t - (P.length + 1)), (List.take_append_drop ..).symm, by rw [zlT]; omega⟩
 have lR : R.length = R1.length + R2.length := by rw [eR, zlA]
 have s1 : ∀ y ∈ R1, aheadB q y x = true := fun y hy => by
  obtain ⟨i, hi⟩ := List.getElem?_of_mem hy; have hi' := at_lt hi; have := t4 (P.length + 1 + i) (by omega) (by omega); rw [Nat.add_sub_cancel_left, zgD, eR, List.getElem?_append_left hi', hi] at this; exact this
 have s2 : ∀ y ∈ R2, aheadB q x y = true := fun y hy => by
  obtain ⟨i, hi⟩ := List.getElem?_of_mem hy; have hi' := at_lt hi; have := t5 (P.length + 1 + (R1.length + i)) (by omega) (by omega); rw [Nat.add_sub_cancel_left, zgD, eR, List.getElem?_append_right (by omega), Nat.add_sub_cancel_left, hi] at this; exact qwH (fun e => hd.app.2.2 x (by simp) y (by rw [eR]; simp [hy]) e.symm) this
 refine ⟨R1 ++ x :: R2, ?_, ?_, ?_⟩
 ·
  have := symUp (t : Int) ((w64 ((t : Int) - 1) - a).toNat + 1) R1 P (R2 ++ Q) x a (by rw [qfB (by omega)]; omega) ha (by omega) (by simp only [zlA, zlC]; omega); rw [eR]; simpa using this
 · rw [eR]; exact List.perm_middle
 ·
  rw [eR] at hR
  exact Srt.app.2 ⟨(Srt.app.1 hR).1, List.pairwise_cons.2 ⟨s2, (Srt.app.1 hR).2.1⟩, fun y hy z hz => by
   rcases List.mem_cons.1 hz with rfl | h
   · exact s1 y hy
   exact (Srt.app.1 hR).2.2 y hy z h⟩
theorem symLast (self : List Row → Int → Int → Int → Query → Option (List Row)) (q : Query) {P L Q : List Row} {x : Row} {a m b : Int} (hL0 : L.length ≠ 1) (ha : a = P.length) (hm : m = P.length + L.length) (hb' : b = P.length + L.length + 1) (hlen : (P ++ (L ++ ([x] ++ Q))).length ≤ 900) (hb : ∀ y ∈ L ++ [x], Row_b y) (hd : Dst (L ++ [x])) (hL : Srt q L) :
  ∃ M, qA.b self (P ++ (L ++ ([x] ++ Q))) a m b q = some (P ++ (M ++ Q)) ∧ M.Perm (L ++ [x]) ∧ Srt q M := by
 have hlen' := hlen; simp only [zlA, zlC, zlN] at hlen'; unfold qA.b; rw [qCD, qfB (x := m - a) (by omega), zdF (by omega), zcF, qCD, qfB (x := b - m) (by omega), zdT (by omega), zcT, qCD]; have hx : Row_b x := hb x (by simp)
 have hL' : ∀ c, P.length ≤ c → c < P.length + L.length → ∃ y, L[c - P.length]? = some y ∧ y ∈ L ∧ getO (P ++ (L ++ ([x] ++ Q))) (c : Int) = some y := by
  intro c h1 h2
  have h3 : c - P.length < L.length := by omega
  refine ⟨L[c - P.length], zgE h3, List.getElem_mem h3, ?_⟩; rw [qrO (by omega) (by omega)]; exact zgE h3
 have h0 : getO (P ++ (L ++ ([x] ++ Q))) m = some x := by
  rw [show P ++ (L ++ ([x] ++ Q)) = (P ++ L) ++ x :: Q by simp]; exact qhJ (by simp only [zlA]; omega)
 generalize hK : (fun y39 => qA.l3 y39 ((m - y39).toNat + 1) (P ++ (L ++ ([x] ++ Q))) m) = K
 obtain ⟨t, t1, t2, t3, t4, t5⟩ := bsearch (f := fun k i j => qA.l2 (P ++ (L ++ ([x] ++ Q))) m q K k i j) (K := K) (fun c => !aheadB q x (L.getD (c - P.length) default)) P.length (P.length + L.length)
  (fun c c' h1 h2 h3 h4 => by
   obtain ⟨y, e1, _, _⟩ := hL' c h1 (by omega); obtain ⟨y', e2, _, _⟩ := hL' c' (by omega) h3; rw [zgD, e1, Option.getD_some] at h4; rw [zgD, e2, Option.getD_some]
   cases hh : aheadB q x y with
   | false => rw [hh] at h4; cases h4
   | true => rw [hL.tr2 (by omega) e1 e2 hh]; rfl)
  (fun k i j h1 h2 h3 => by
   obtain ⟨y, e1, hy, e2⟩ := hL' ((i + j) / 2) (by omega) (by omega)
   show qA.l2 _ m q K (k + 1) i j = _
   rw [qA.l2, zdT (by omega), zcT, qTP (n := i + j) (by omega) (by omega), h0, zoB, e2, zoB, qSF x y q hx (hb y (by simp [hy])), zoB, zgD, e1, Option.getD_some, qv (by omega), qsC]
   cases aheadB q x y with
   | true => rw [if_pos rfl, zdT (by omega), Bool.not_true, zcF, if_neg (by simp)]
   | false => rw [if_neg (by simp), zdF (by omega), Bool.not_false, zcT, if_pos rfl])
  (fun k i => by
   show qA.l2 _ m q K (k + 1) i i = _
   rw [qA.l2, zdF (by omega), zcF])
  ((m - a).toNat + 1) P.length (P.length + L.length) (Nat.le_refl _) (by omega) (Nat.le_refl _) (by omega)
 rw [show a = ((P.length : Nat) : Int) by omega, show m = ((P.length + L.length : Nat) : Int) by omega] at *; rw [t3, ← hK]
 obtain ⟨L1, L2, eL, l1⟩ : ∃ L1 L2, L = L1 ++ L2 ∧ L1.length = t - P.length := ⟨L.take (t - P.length), L.drop (t - P.length), (List.take_append_drop ..).symm, by rw [zlT]; omega⟩
 have lL : L.length = L1.length + L2.length := by rw [eL, zlA]
 have s1 : ∀ y ∈ L1, aheadB q y x = true := fun y hy => by
  obtain ⟨i, hi⟩ := List.getElem?_of_mem hy; have hi' := at_lt hi; have := t4 (P.length + i) (by omega) (by omega); rw [Nat.add_sub_cancel_left, zgD, eL, List.getElem?_append_left hi', hi, Option.getD_some, Bool.not_eq_true'] at this; exact qwH (fun e => hd.app.2.2 y (by rw [eL]; simp [hy]) x (by simp) e.symm) this
 have s2 : ∀ y ∈ L2, aheadB q x y = true := fun y hy => by
  obtain ⟨i, hi⟩ := List.getElem?_of_mem hy; have hi' := at_lt hi; have := t5 (P.length + (L1.length + i)) (by omega) (by omega); rw [Nat.add_sub_cancel_left, zgD, eL, List.getElem?_append_right (by omega), Nat.add_sub_cancel_left, hi, Option.getD_some, Bool.not_eq_false'] at this; exact this
 refine ⟨L1 ++ x :: L2, ?_, ?_, ?_⟩
 ·
  have lpl : (P ++ L1).length = P.length + L1.length := zlA; have := symDown (t : Int) ((((P.length + L.length : Nat) : Int) - t).toNat + 1) L2.length L2 (P ++ L1) Q x ((P.length + L.length : Nat) : Int) rfl (by omega) (by omega) (by omega) (by simp only [zlA, zlC]; omega); rw [eL] at this ⊢; simpa using this
 · rw [eL]; simpa using List.Perm.append_left L1 (List.perm_append_comm (l₁ := [x]) (l₂ := L2))
 ·
  rw [eL] at hL
  exact Srt.app.2 ⟨(Srt.app.1 hL).1, List.pairwise_cons.2 ⟨s2, (Srt.app.1 hL).2.1⟩, fun y hy z hz => by
   rcases List.mem_cons.1 hz with rfl | h
   · exact s1 y hy
   exact (Srt.app.1 hL).2.2 y hy z h⟩
theorem symIf (self : List Row → Int → Int → Int → Query → Option (List Row)) (q : Query) {P L R Q : List Row} {a m b : Int} (K : List Row → Option (List Row)) (ha : a = P.length) (hm : m = P.length + L.length) (hb' : b = P.length + L.length + R.length) (hL : Srt q L) (hR : Srt q R)
  (ih : L ≠ [] → R ≠ [] → ∃ M, self (P ++ (L ++ (R ++ Q))) a m b q = some (P ++ (M ++ Q)) ∧ M.Perm (L ++ R) ∧ Srt q M) :
  ∃ M, (bif (bo3 (decide (a < m)) (decide (m < b)) false) then ((self (P ++ (L ++ (R ++ Q))) a m b q).bind fun r => K r) else K (P ++ (L ++ (R ++ Q)))) = K (P ++ (M ++ Q)) ∧ M.Perm (L ++ R) ∧ Srt q M := by
 by_cases h1 : L = []
 ·
  subst h1; simp only [zlN] at hm; rw [zdF (by omega), bo3_F, zcF]; exact ⟨R, rfl, List.Perm.refl _, hR⟩
 ·
  by_cases h2 : R = []
  ·
   subst h2; simp only [zlN] at hb'; rw [zdF (p := m < b) (by omega), qTE, Bool.and_false, zcF]; exact ⟨L, rfl, by simp, hL⟩
  have g1 : 0 < L.length := List.length_pos_iff.2 h1; have g2 : 0 < R.length := List.length_pos_iff.2 h2; obtain ⟨M, e1, e2, e3⟩ := ih h1 h2; rw [zdT (by omega), zdT (by omega), bo3_T, zcT, e1]; exact ⟨M, rfl, e2, e3⟩
theorem symRot (q : Query) {P L R Q : List Row} {a m b : Int} (K : List Row → Int → Option (List Row)) (ha : a = P.length) (hm : m = P.length + L.length) (hb' : b = P.length + L.length + R.length) (hlen : (P ++ (L ++ (R ++ Q))).length ≤ 900) :
  (bif (bo3 (decide (a < m)) (decide (m < b)) false) then ((qH.f (P ++ (L ++ (R ++ Q))) a m b q).bind fun r => K r b) else K (P ++ (L ++ (R ++ Q))) b) = K (P ++ (R ++ (L ++ Q))) b := by
 by_cases h1 : L = []
 ·
  subst h1; simp only [zlN] at hm; rw [zdF (by omega), bo3_F, zcF]; rfl
 ·
  by_cases h2 : R = []
  ·
   subst h2; simp only [zlN] at hb'; rw [zdF (p := m < b) (by omega), qTE, Bool.and_false, zcF]; rfl
  have g1 : 0 < L.length := List.length_pos_iff.2 h1; have g2 : 0 < R.length := List.length_pos_iff.2 h2; rw [zdT (by omega), zdT (by omega), bo3_T, zcT, qja q h1 h2 hlen ha hm hb', zoB]
theorem symSearch (q : Query) (K : Int → Option (List Row)) {P L R Q : List Row} (hlen : (P ++ (L ++ (R ++ Q))).length ≤ 900) (hb : ∀ y ∈ L ++ R, Row_b y) (hL : Srt q L) (hR : Srt q R) (lo hi p : Nat) (h1 : P.length ≤ lo) (h2 : hi ≤ P.length + L.length) (hle : lo ≤ hi) (h3 : ∀ c, lo ≤ c → c < hi → P.length + L.length ≤ p - c ∧ c ≤ p ∧ p - c < P.length + L.length + R.length) (k : Nat) (hk : hi - lo < k) :
  ∃ t : Nat, lo ≤ t ∧ t ≤ hi ∧ qA.l4 (P ++ (L ++ (R ++ Q))) q K k lo hi p = K t ∧
   (∀ c, lo ≤ c → c < t → ∀ x y, L[c - P.length]? = some x → R[p - c - (P.length + L.length)]? = some y → aheadB q y x = false) ∧
   (∀ c, t ≤ c → c < hi → ∀ x y, L[c - P.length]? = some x → R[p - c - (P.length + L.length)]? = some y → aheadB q y x = true) := by
 simp only [zlA] at hlen
 have hL' : ∀ c, P.length ≤ c → c < P.length + L.length → ∃ y, L[c - P.length]? = some y ∧ y ∈ L ∧ getO (P ++ (L ++ (R ++ Q))) (c : Int) = some y := by
  intro c h1 h2
  have h3 : c - P.length < L.length := by omega
  refine ⟨L[c - P.length], zgE h3, List.getElem_mem h3, ?_⟩; rw [qrO (by omega) (by omega)]; exact zgE h3
 have hR' : ∀ c, P.length + L.length ≤ c → c < P.length + L.length + R.length → ∃ y, R[c - (P.length + L.length)]? = some y ∧ y ∈ R ∧ getO (P ++ (L ++ (R ++ Q))) (c : Int) = some y := by
  intro c h1 h2
  have h3 : c - (P.length + L.length) < R.length := by omega
  refine ⟨R[c - (P.length + L.length)], zgE h3, List.getElem_mem h3, ?_⟩; rw [show P ++ (L ++ (R ++ Q)) = (P ++ L) ++ (R ++ Q) by simp, qrO (by simp only [zlA]; omega) (by simp only [zlA]; omega)]; simp only [zlA]; exact zgE h3
 obtain ⟨t, t1, t2, t3, t4, t5⟩ := bsearch (f := fun k i j => qA.l4 (P ++ (L ++ (R ++ Q))) q K k i j p) (K := K) (fun c => !aheadB q (R.getD (p - c - (P.length + L.length)) default) (L.getD (c - P.length) default)) lo hi
  (fun c c' g1 g2 g3 g4 => by
   obtain ⟨x, e1, _, _⟩ := hL' c (by omega) (by omega); obtain ⟨x', e2, _, _⟩ := hL' c' (by omega) (by omega); obtain ⟨u1, u2, u3⟩ := h3 c g1 (by omega); obtain ⟨v1, v2, v3⟩ := h3 c' (by omega) g3; obtain ⟨y, f1, _, _⟩ := hR' (p - c) u1 u3; obtain ⟨y', f2, _, _⟩ := hR' (p - c') v1 v3; rw [zgD, f1, Option.getD_some, zgD, e1, Option.getD_some] at g4; rw [zgD, f2, Option.getD_some, zgD, e2, Option.getD_some]
   cases hh : aheadB q y x with
   | false => rw [hh] at g4; cases g4
   | true => rw [hR.tr1 (by omega) f2 f1 (hL.tr2 (by omega) e1 e2 hh)]; rfl)
  (fun k i j g1 g2 g3 => by
   obtain ⟨u1, u2, u3⟩ := h3 ((i + j) / 2) (by omega) (by omega); obtain ⟨x, e1, hx, e2⟩ := hL' ((i + j) / 2) (by omega) (by omega); obtain ⟨y, f1, hy, f2⟩ := hR' (p - (i + j) / 2) u1 u3
   show qA.l4 _ q K (k + 1) i j p = _
   rw [qA.l4, zdT (by omega), zcT, qTP (n := i + j) (by omega) (by omega), qfB (x := (p : Int) - _) (by omega), show (p : Int) - ((i + j) / 2 : Nat) = ((p - (i + j) / 2 : Nat) : Int) by omega, f2, zoB, e2, zoB, qSF y x q (hb y (by simp [hy])) (hb x (by simp [hx])), zoB, zgD, f1, Option.getD_some, zgD, e1, Option.getD_some, qv (by omega), qsC]
   cases aheadB q y x with
   | true => rw [if_pos rfl, zdT (by omega), Bool.not_true, zcF, if_neg (by simp)]
   | false => rw [if_neg (by simp), zdF (by omega), Bool.not_false, zcT, if_pos rfl])
  (fun k i => by
   show qA.l4 _ q K (k + 1) i i p = _
   rw [qA.l4, zdF (by omega), zcF])
  k lo hi (Nat.le_refl _) hle (Nat.le_refl _) hk
 refine ⟨t, t1, t2, t3, fun c g1 g2 x y e f => ?_, fun c g1 g2 x y e f => ?_⟩
 ·
  have := t4 c g1 g2; rw [zgD, f, Option.getD_some, zgD, e, Option.getD_some, Bool.not_eq_true'] at this; exact this
 ·
  have := t5 c g1 g2; rw [zgD, f, Option.getD_some, zgD, e, Option.getD_some, Bool.not_eq_false'] at this; exact this
theorem qwc {R : Type} {c : Bool} {a1 a2 a3 a4 b1 b2 b3 b4 : Int} (k : Int → Int → Int → Int → Option R) : joinK k (fun K => bif c then K a1 a2 a3 a4 else K b1 b2 b3 b4) = k (bif c then a1 else b1) (bif c then a2 else b2) (bif c then a3 else b3) (bif c then a4 else b4) := by cases c <;> rfl
theorem symFin (self : List Row → Int → Int → Int → Query → Option (List Row)) (q : Query) {P L1 L2 R1 R2 Q : List Row} {a m b t mid e : Int} (ha : a = P.length) (ht : t = P.length + L1.length) (hm : m = t + L2.length) (hmid : mid = t + R1.length) (he : e = m + R1.length) (hb' : b = e + R2.length) (hlen : P.length + (L1.length + (L2.length + (R1.length + (R2.length + Q.length)))) ≤ 900)
  (hd' : Dst (L1 ++ L2 ++ (R1 ++ R2))) (hL' : Srt q (L1 ++ L2)) (hR' : Srt q (R1 ++ R2)) (i1 : ∀ x ∈ L1, ∀ y ∈ R2, aheadB q x y = true) (i2 : ∀ y ∈ R1, ∀ x ∈ L2, aheadB q y x = true)
  (ih1 : L1 ≠ [] → R1 ≠ [] → ∃ M, self (P ++ (L1 ++ (R1 ++ (L2 ++ (R2 ++ Q))))) a t mid q = some (P ++ (M ++ (L2 ++ (R2 ++ Q)))) ∧ M.Perm (L1 ++ R1) ∧ Srt q M)
  (ih2 : ∀ M1 : List Row, M1.length = L1.length + R1.length → L2 ≠ [] → R2 ≠ [] → ∃ M, self ((P ++ M1) ++ (L2 ++ (R2 ++ Q))) mid e b q = some ((P ++ M1) ++ (M ++ Q)) ∧ M.Perm (L2 ++ R2) ∧ Srt q M) :
  ∃ M, joinK (fun (y105 : List Row) (y106 : Int) => joinK (fun (y115 : List Row) =>
 bif (bo3 (decide (mid < y106)) (decide (y106 < b)) false) then (
 (self y115 mid y106 b q).bind fun r130 =>
 some r130)
 else (
 some y115)) (fun K116 =>
 bif (bo3 (decide (a < t)) (decide (t < mid)) false) then (
 (self y105 a t mid q).bind fun r123 =>
 K116 r123)
 else (
 K116 y105))) (fun K107 =>
 bif (bo3 (decide (t < m)) (decide (m < e)) false) then (
 (qH.f (P ++ L1 ++ (L2 ++ (R1 ++ (R2 ++ Q)))) t m e q).bind fun r114 =>
 K107 r114 e)
 else (
 K107 (P ++ L1 ++ (L2 ++ (R1 ++ (R2 ++ Q)))) e)) = some (P ++ (M ++ Q)) ∧ M.Perm (L1 ++ L2 ++ (R1 ++ R2)) ∧ Srt q M := by
 have sL := Srt.app.1 hL'; have sR := Srt.app.1 hR'
 have perm : (L1 ++ L2 ++ (R1 ++ R2)).Perm ((L1 ++ R1) ++ (L2 ++ R2)) := by
  simp only [List.append_assoc]; refine List.Perm.append_left L1 ?_; rw [← List.append_assoc, ← List.append_assoc]; exact List.Perm.append_right R2 List.perm_append_comm
 have lp1 : (P ++ L1).length = P.length + L1.length := zlA
 have rot := symRot q (P := P ++ L1) (L := L2) (R := R1) (Q := R2 ++ Q) (a := t) (m := m) (b := e) (fun (y105 : List Row) (y106 : Int) => joinK (fun (y115 : List Row) =>
 bif (bo3 (decide (mid < y106)) (decide (y106 < b)) false) then (
 (self y115 mid y106 b q).bind fun r130 =>
 some r130)
 else (
 some y115)) (fun K116 =>
 bif (bo3 (decide (a < t)) (decide (t < mid)) false) then (
 (self y105 a t mid q).bind fun r123 =>
 K116 r123)
 else (
 K116 y105))) (by omega) (by omega) (by omega) (by simp only [zlA]; omega)
 obtain ⟨M1, s1, p1, m1⟩ := symIf self q (P := P) (L := L1) (R := R1) (Q := L2 ++ (R2 ++ Q)) (a := a) (m := t) (b := mid) (fun y115 => bif (bo3 (decide (mid < e)) (decide (e < b)) false) then ((self y115 mid e b q).bind fun r130 => some r130) else (some y115)) ha (by omega) (by omega) sL.1 sR.1 ih1
 have lM : M1.length = L1.length + R1.length := by rw [p1.length_eq, zlA]
 have lpm : (P ++ M1).length = P.length + M1.length := zlA; obtain ⟨M2, s2, p2, m2⟩ := symIf self q (P := P ++ M1) (L := L2) (R := R2) (Q := Q) (a := mid) (m := e) (b := b) (fun r => some r) (by omega) (by omega) (by omega) sL.2.1 sR.2.1 (ih2 M1 lM); refine ⟨M1 ++ M2, ?_, ?_, Srt.app.2 ⟨m1, m2, fun x hx y hy => ?_⟩⟩
 ·
  rw [qCD]; rw [rot, qCD, List.append_assoc P L1]; rw [s1, ← List.append_assoc P M1, s2]; simp
 · exact (p1.append p2).trans perm.symm
 ·
  have hx := p1.mem_iff.1 hx; have hy := p2.mem_iff.1 hy
  rcases List.mem_append.1 hx with hx | hx <;> rcases List.mem_append.1 hy with hy | hy
  · exact sL.2.2 x hx y hy
  · exact i1 x hx y hy
  · exact i2 x hx y hy
  exact sR.2.2 x hx y hy
theorem symMid (self : List Row → Int → Int → Int → Query → Option (List Row)) (q : Query) {P L R Q : List Row} {a m b : Int} (hL1 : L.length ≠ 1) (hR1 : R.length ≠ 1) (hL0 : L ≠ []) (hR0 : R ≠ []) (ha : a = P.length) (hm : m = P.length + L.length) (hb' : b = P.length + L.length + R.length) (hlen : (P ++ (L ++ (R ++ Q))).length ≤ 900)
  (hb : ∀ y ∈ L ++ R, Row_b y) (hd : Dst (L ++ R)) (hL : Srt q L) (hR : Srt q R)
  (ih : ∀ P' L' R' Q' : List Row, L' ≠ [] → R' ≠ [] → L'.length + R'.length < L.length + R.length → (P' ++ (L' ++ (R' ++ Q'))).length ≤ 900 → (∀ y ∈ L' ++ R', y ∈ L ++ R) → Dst (L' ++ R') → Srt q L' → Srt q R' → ∀ a' m' b' : Int, a' = P'.length → m' = P'.length + L'.length → b' = P'.length + L'.length + R'.length →
   ∃ M, self (P' ++ (L' ++ (R' ++ Q'))) a' m' b' q = some (P' ++ (M ++ Q')) ∧ M.Perm (L' ++ R') ∧ Srt q M) :
  ∃ M, qA.b self (P ++ (L ++ (R ++ Q))) a m b q = some (P ++ (M ++ Q)) ∧ M.Perm (L ++ R) ∧ Srt q M := by
 have hlen' := hlen; simp only [zlA] at hlen'; have lL : 0 < L.length := List.length_pos_iff.2 hL0; have lR : 0 < R.length := List.length_pos_iff.2 hR0; unfold qA.b; rw [qCD, qfB (x := m - a) (by omega), zdF (by omega), zcF, qCD, qfB (x := b - m) (by omega), zdF (by omega), zcF]
 obtain ⟨mid, hmid⟩ : ∃ mid : Nat, mid = (P.length + (P.length + L.length + R.length)) / 2 := ⟨_, rfl⟩
 rw [qTP (x := a + b) (n := P.length + (P.length + L.length + R.length)) (by omega) (by omega), ← hmid, qfB (x := (mid : Int) + m) (by omega), qfB (x := (mid : Int) + m - b) (by omega)]
 obtain ⟨lo, hi, hlo, hhi, hcase⟩ : ∃ lo hi : Nat, (if (mid : Int) < m then (mid : Int) + m - b else a) = lo ∧ (if (mid : Int) < m then (mid : Int) else m) = hi ∧ ((mid < P.length + L.length ∧ (lo : Int) = mid + m - b ∧ hi = mid) ∨ (P.length + L.length ≤ mid ∧ lo = P.length ∧ hi = P.length + L.length)) := by
  by_cases c : (mid : Int) < m
  · exact ⟨(mid + m - b).toNat, mid, by rw [if_pos c]; omega, by rw [if_pos c], .inl ⟨by omega, by omega, rfl⟩⟩
  · exact ⟨P.length, P.length + L.length, by rw [if_neg c]; omega, by rw [if_neg c]; omega, .inr ⟨by omega, rfl, rfl⟩⟩
 have q1 : ∀ x : Int, (bif decide ((mid : Int) < m) then x else x) = x := fun x => by cases decide ((mid : Int) < m) <;> rfl
 have q2 : (bif decide ((mid : Int) < m) then (mid : Int) + m - b else a) = lo := by rw [← hlo]; by_cases c : (mid : Int) < m <;> simp [c]
 have q3 : (bif decide ((mid : Int) < m) then (mid : Int) else m) = hi := by rw [← hhi]; by_cases c : (mid : Int) < m <;> simp [c]
 rw [qwc, q1, q1, q2, q3]; rw [qCD]
 have hp : w64 (((mid : Int) + m) - 1) = ((mid + (P.length + L.length) - 1 : Nat) : Int) := by rw [qfB (by omega)]; omega
 rw [hp]; generalize hK : (fun (y77 : Int) => joinK (fun (y105 : List Row) (y106 : Int) => _) _) = K; obtain ⟨t, t1, t2, t3, t4, t5⟩ := symSearch q K (Q := Q) hlen hb hL hR lo hi (mid + (P.length + L.length) - 1) (by omega) (by omega) (by omega) (fun c c1 c2 => by omega) (((hi : Int) - lo).toNat + 1) (by omega); rw [t3, ← hK]; clear hK t3
 obtain ⟨L1, L2, eL, l1⟩ : ∃ L1 L2, L = L1 ++ L2 ∧ L1.length = t - P.length := ⟨L.take (t - P.length), L.drop (t - P.length), (List.take_append_drop ..).symm, by rw [zlT]; omega⟩
 obtain ⟨R1, R2, eR, r1⟩ : ∃ R1 R2, R = R1 ++ R2 ∧ R1.length = mid - t := ⟨R.take (mid - t), R.drop (mid - t), (List.take_append_drop ..).symm, by rw [zlT]; omega⟩
 have nL : L.length = L1.length + L2.length := by rw [eL, zlA]
 have nR : R.length = R1.length + R2.length := by rw [eR, zlA]
 obtain ⟨e, he⟩ : ∃ e : Nat, (e : Int) = mid + m - t := ⟨(mid + m - t).toNat, by omega⟩
 have aR : ∀ (i : Nat) y, R1[i]? = some y → R[i]? = some y := fun i y h => by rw [eR, List.getElem?_append_left (at_lt h)]; exact h
 have aR2 : ∀ (i : Nat) y, R2[i]? = some y → R[R1.length + i]? = some y := fun i y h => by rw [eR, List.getElem?_append_right (by omega), Nat.add_sub_cancel_left]; exact h
 have aL : ∀ (i : Nat) y, L1[i]? = some y → L[i]? = some y := fun i y h => by rw [eL, List.getElem?_append_left (at_lt h)]; exact h
 have aL2 : ∀ (i : Nat) y, L2[i]? = some y → L[L1.length + i]? = some y := fun i y h => by rw [eL, List.getElem?_append_right (by omega), Nat.add_sub_cancel_left]; exact h
 have i1 : ∀ x ∈ L1, ∀ y ∈ R2, aheadB q x y = true := fun x hx y hy => by
  obtain ⟨i, hi'⟩ := List.getElem?_of_mem hx; obtain ⟨j, hj'⟩ := List.getElem?_of_mem hy; have bi := at_lt hi'; have bj := at_lt hj'; have g1 : L[t - 1 - P.length]? = some (L[t - 1 - P.length]'(by omega)) := zgE (by omega); have g2 : R[mid + (P.length + L.length) - 1 - (t - 1) - (P.length + L.length)]? = some (R[mid + (P.length + L.length) - 1 - (t - 1) - (P.length + L.length)]'(by omega)) := zgE (by omega)
  have h := t4 (t - 1) (by omega) (by omega) _ _ g1 g2; have hne := hd.app.2.2 _ (List.mem_of_getElem? g1) _ (List.mem_of_getElem? g2); have h2 := qwH (fun e => hne e.symm) h; exact hR.tr2 (i := mid + (P.length + L.length) - 1 - (t - 1) - (P.length + L.length)) (by omega) g2 (aR2 j y hj') (hL.tr1 (by omega) (aL i x hi') g1 h2)
 have i2 : ∀ y ∈ R1, ∀ x ∈ L2, aheadB q y x = true := fun y hy x hx => by
  obtain ⟨i, hi'⟩ := List.getElem?_of_mem hx; obtain ⟨j, hj'⟩ := List.getElem?_of_mem hy; have bi := at_lt hi'; have bj := at_lt hj'; have g1 : L[t - P.length]? = some (L[t - P.length]'(by omega)) := zgE (by omega); have g2 : R[mid + (P.length + L.length) - 1 - t - (P.length + L.length)]? = some (R[mid + (P.length + L.length) - 1 - t - (P.length + L.length)]'(by omega)) := zgE (by omega); have h := t5 t (by omega) (by omega) _ _ g1 g2
  exact hR.tr1 (by omega) (aR j y hj') g2 (hL.tr2 (by omega) g1 (aL2 i x hi') h)
 have hL' := hL; rw [eL] at hL'; have hR' := hR; rw [eR] at hR'; have sL := Srt.app.1 hL'; have sR := Srt.app.1 hR'; have hd' := hd; rw [eL, eR] at hd'
 have perm : (L1 ++ L2 ++ (R1 ++ R2)).Perm ((L1 ++ R1) ++ (L2 ++ R2)) := by
  simp only [List.append_assoc]; refine List.Perm.append_left L1 ?_; rw [← List.append_assoc, ← List.append_assoc]; exact List.Perm.append_right R2 List.perm_append_comm
 have d2 := (hd'.perm perm).app
 have mem1 : ∀ y ∈ L1 ++ R1, y ∈ L ++ R := fun y hy => by rw [eL, eR]; simp at hy ⊢; rcases hy with h | h <;> simp [h]
 have mem2 : ∀ y ∈ L2 ++ R2, y ∈ L ++ R := fun y hy => by rw [eL, eR]; simp at hy ⊢; rcases hy with h | h <;> simp [h]
 have fin := symFin self q (P := P) (L1 := L1) (L2 := L2) (R1 := R1) (R2 := R2) (Q := Q) (a := a) (m := m) (b := b) (t := t) (mid := mid) (e := e) ha (by omega) (by omega) (by omega) (by omega) (by omega) (by omega) hd' hL' hR' i1 i2
  (fun h1 h2 => ih P L1 R1 (L2 ++ (R2 ++ Q)) h1 h2 (by omega) (by simp only [zlA]; omega) mem1 d2.1 sL.1 sR.1 a t mid ha (by omega) (by omega))
  (fun M1 lM h1 h2 => by
   have lpm : (P ++ M1).length = P.length + M1.length := zlA
   exact ih (P ++ M1) L2 R2 Q h1 h2 (by omega) (by simp only [zlA]; omega) mem2 d2.2.1 sL.2.1 sR.2.1 mid e b (by omega) (by omega) (by omega))
 dsimp only; rw [qfB (x := (mid : Int) + m - t) (by omega), ← he]; rw [show P ++ (L ++ (R ++ Q)) = (P ++ L1) ++ (L2 ++ (R1 ++ (R2 ++ Q))) by rw [eL, eR]; simp, eL, eR]; exact fin
theorem qsY (q : Query) : ∀ (k : Nat) (P L R Q : List Row), L ≠ [] → R ≠ [] → L.length + R.length < k → (P ++ (L ++ (R ++ Q))).length ≤ 900 → (∀ y ∈ L ++ R, Row_b y) → Dst (L ++ R) → Srt q L → Srt q R → ∀ a m b : Int, a = P.length → m = P.length + L.length → b = P.length + L.length + R.length →
  ∃ M, qA.g k (P ++ (L ++ (R ++ Q))) a m b q = some (P ++ (M ++ Q)) ∧ M.Perm (L ++ R) ∧ Srt q M := by
 intro k
 induction k with
 | zero => intro P L R Q _ _ h; omega
 | succ k ih =>
  intro P L R Q hL0 hR0 hk hlen hb hd hL hR a m b ha hm hb'; rw [qA.g]
  by_cases c1 : L.length = 1
  ·
   obtain ⟨x, rfl⟩ := List.length_eq_one_iff.1 c1; simp only [zlC, zlN] at hm hb'; exact symOne _ q ha hm hb' hlen hb hd hR
  by_cases c2 : R.length = 1
  ·
   obtain ⟨x, rfl⟩ := List.length_eq_one_iff.1 c2; simp only [zlC, zlN] at hb'; exact symLast _ q c1 ha hm hb' hlen hb hd hL
  exact symMid _ q c1 c2 hL0 hR0 ha hm hb' hlen hb hd hL hR fun P' L' R' Q' h1 h2 h3 h4 h5 h6 h7 h8 a' m' b' g1 g2 g3 => ih P' L' R' Q' h1 h2 (by omega) h4 (fun y hy => hb y (h5 y hy)) h6 h7 h8 a' m' b' g1 g2 g3
theorem qsW (q : Query) {P L R Q : List Row} (hL0 : L ≠ []) (hR0 : R ≠ []) (hlen : (P ++ (L ++ (R ++ Q))).length ≤ 900) (hb : ∀ y ∈ L ++ R, Row_b y) (hd : Dst (L ++ R)) (hL : Srt q L) (hR : Srt q R) {a m b : Int} (ha : a = P.length) (hm : m = P.length + L.length) (hb' : b = P.length + L.length + R.length) :
  ∃ M, qA.f (P ++ (L ++ (R ++ Q))) a m b q = some (P ++ (M ++ Q)) ∧ M.Perm (L ++ R) ∧ Srt q M := by
 have hlen' := hlen; simp only [zlA] at hlen'; exact qsY q 1000 P L R Q hL0 hR0 (by omega) hlen hb hd hL hR a m b ha hm hb'
theorem qka (q : Query) (l : List Row) (h : l.length ≤ 24) (hb : ∀ y ∈ l, Row_b y) (hd : Dst l) : ∃ M, qC.f l (l.length : Int) q = some M ∧ M.Perm l ∧ Srt q M := by
 unfold qC.f; rw [qCD]
 by_cases h20 : l.length < 20
 ·
  obtain ⟨S, e1, e2, e3⟩ := qYN (a1 := 0) (a2 := l.length) q (P := []) (T := l) (R := []) rfl (by simp) (by simp; omega) hb hd; rw [show ((l.length : Int) - 20).toNat + 2 = 1 + 1 by omega, qC.l0, zdF (by omega), zcF]; simp only [List.nil_append, List.append_nil] at e1; rw [e1, zoB, qC.l1, zdF (by omega), zcF]; exact ⟨S, rfl, e2, e3⟩
 obtain ⟨A, B, rfl, lA⟩ : ∃ A B, l = A ++ B ∧ A.length = 20 := ⟨l.take 20, l.drop 20, (List.take_append_drop ..).symm, by rw [zlT]; omega⟩
 rw [zlA] at h; have lAB : (A ++ B).length = A.length + B.length := zlA; obtain ⟨S, e1, e2, e3⟩ := qYN (a1 := 0) (a2 := 20) q (P := []) (T := A) (R := B) rfl (by simp only [zlN]; omega) (by simp only [zlA, zlN]; omega) (fun y hy => hb y (by simp [hy])) hd.app.1
 have lS : S.length = 20 := by rw [e2.length_eq, lA]
 obtain ⟨S', f1, f2, f3⟩ := qYN (a1 := 20) (a2 := (A ++ B).length) q (P := S) (T := B) (R := []) (by omega) (by omega) (by simp only [zlA, zlN]; omega) (fun y hy => hb y (by simp [hy])) hd.app.2.1; have lS' : S'.length = B.length := f2.length_eq; have p : (S ++ S').Perm (A ++ B) := e2.append f2; rw [qC.l0, zdT (by omega), zcT]; simp only [List.nil_append] at e1; rw [e1, zoB, qfB (by omega), show (((A ++ B).length : Int) - 20).toNat + 1 = (((A ++ B).length : Int) - 20).toNat + 1 from rfl, qC.l0, zdF (by omega), zcF]
 simp only [List.append_nil] at f1; rw [f1, zoB, qC.l1]
 by_cases hB : B = []
 ·
  subst hB; simp only [zlN] at lAB; rw [zdF (by omega), zcF]; obtain rfl := List.length_eq_zero_iff.1 lS'; exact ⟨S ++ [], rfl, p, by rw [List.append_nil]; exact e3⟩
 have gB : 0 < B.length := List.length_pos_iff.2 hB; rw [zdT (by omega), zcT, qCD, qfB (x := 2 * 20) (by omega)]; rw [show (((A ++ B).length : Int) - 2 * 20).toNat + 2 = 1 + 1 by omega, qC.l2, zdF (by omega), zcF]; obtain ⟨M, g1, g2, g3⟩ := qsW q (P := []) (L := S) (R := S') (Q := []) (by rintro rfl; simp at lS) (by rintro rfl; simp at lS'; omega) (by simp only [zlA, zlN]; omega) (fun y hy => hb y (p.mem_iff.1 hy)) (hd.perm p.symm) e3 f3 (a := 0) (m := 20) (b := (A ++ B).length) rfl (by simp only [zlN]; omega) (by simp only [zlN]; omega)
 simp only [List.nil_append, List.append_nil] at g1; rw [qfB (x := 0 + 20) (by omega), show (0 : Int) + 20 = 20 from rfl, zdT (by omega), zcT, g1, zoB, show (((A ++ B).length : Int) - 20).toNat = ((((A ++ B).length : Int) - 20).toNat - 1) + 1 by omega, qC.l1, qfB (x := 20 * 2) (by omega), zdF (by omega), zcF]; exact ⟨M, rfl, g2.trans p, g3⟩
theorem qZT (q : Query) (l : List Row) (h : l.length ≤ 24) (hb : ∀ y ∈ l, Row_b y) (hd : Dst l) : ∃ M, qIB.f l q = some M ∧ M.Perm l ∧ Srt q M := by
 unfold qIB.f; obtain ⟨M, e1, e2, e3⟩ := qka q l h hb hd; rw [qF, e1]; exact ⟨M, rfl, e2, e3⟩
def rowAtF : List Row → Int → Int → Int
 | [], _, _ => -1
 | r :: l, id, i => if r.Id = id then i else rowAtF l id (i + 1)
def isId (id : Int) (r : Row) : Bool := decide (r.Id = id)
def isGt (id : Int) (r : Row) : Bool := decide (id < r.Id)
def idxI (p : Row → Bool) (l : List Row) : Int := if l.findIdx p < l.length then (l.findIdx p : Int) else -1
def rowDropF (l : List Row) (id : Int) : List Row := l.eraseIdx (l.findIdx (isId id))
def rowPutF (l : List Row) (r : Row) : List Row := if l.findIdx (isId r.Id) < l.length then l.set (l.findIdx (isId r.Id)) r else l.take (l.findIdx (isGt r.Id)) ++ [r] ++ l.drop (l.findIdx (isGt r.Id))
theorem qYS : ∀ (l : List Row) (id i : Int), rowAtF l id i = if l.findIdx (isId id) < l.length then i + (l.findIdx (isId id) : Int) else -1
 | [], _, _ => rfl
 | r :: l, id, i => by
  rw [rowAtF, qYS l id (i + 1), List.findIdx_cons]
  by_cases e : r.Id = id
  · rw [if_pos e, isId, zdT e]; simp
  rw [if_neg e, isId, zdF e]; simp only [zcF, zlC]
  by_cases h : l.findIdx (isId id) < l.length
  · rw [if_pos h, if_pos (by omega)]; omega
  rw [if_neg h, if_neg (by omega)]
theorem qtW (l : List Row) (id : Int) : rowAtF l id 0 = idxI (isId id) l := by
 rw [qYS, idxI]
 split
 · omega
 rfl
theorem qaT {p : Row → Bool} {l : List Row} (h : l.findIdx p < l.length) : idxI p l = (l.findIdx p : Int) := if_pos h
theorem qxc {p : Row → Bool} {l : List Row} (h : ¬ l.findIdx p < l.length) : idxI p l = -1 := if_neg h
theorem sum_append {α : Type} (s : α → Int) (a b : List α) : ((a ++ b).map s).sum = (a.map s).sum + (b.map s).sum := by rw [List.map_append, List.sum_append]
theorem qXM {α : Type} (s : α → Int) (l : List α) (k : Nat) : (l.map s).sum = ((l.take k).map s).sum + ((l.drop k).map s).sum := by rw [← sum_append, List.take_append_drop]
theorem quW {α : Type} {s : α → Int} (hs : ∀ x, 0 ≤ s x) (x : α) : ∀ (l : List α) (i : Nat), ((l.set i x).map s).sum ≤ (l.map s).sum + s x
 | [], i => by simp [hs x]
 | a :: l, 0 => by simp only [List.set_cons_zero, List.map_cons, List.sum_cons]; have := hs a; omega
 | a :: l, i + 1 => by simp only [List.set_cons_succ, List.map_cons, List.sum_cons]; have := quW hs x l i; omega
theorem qVV {α : Type} {s : α → Int} (hs : ∀ x, 0 ≤ s x) : ∀ (l : List α) (i : Nat), ((l.eraseIdx i).map s).sum ≤ (l.map s).sum
 | [], i => by simp
 | a :: l, 0 => by simp only [List.eraseIdx_cons_zero, List.map_cons, List.sum_cons]; have := hs a; omega
 | a :: l, i + 1 => by simp only [List.eraseIdx_cons_succ, List.map_cons, List.sum_cons]; have := qVV hs l i; omega
theorem qZP (l : List Row) (id : Int) : (rowDropF l id).length ≤ l.length := by unfold rowDropF; rw [List.length_eraseIdx]; split <;> omega
theorem qtY (l : List Row) (id : Int) : qUC (rowDropF l id) ≤ qUC l := by
 have h1 := qZP l id; have h2 := qVV qeE l (l.findIdx (isId id)); unfold qUC; unfold rowDropF at *; omega
theorem quY (l : List Row) (r : Row) : (rowPutF l r).length ≤ l.length + 1 := by
 unfold rowPutF
 split
 · rw [List.length_set]; omega
 simp; omega
theorem qvY {l : List Row} {r x : Row} (h : x ∈ rowPutF l r) : x = r ∨ x ∈ l := by
 unfold rowPutF at h
 split at h
 ·
  rcases List.mem_or_eq_of_mem_set h with h | h
  · exact .inr h
  exact .inl h
 rcases List.mem_append.1 h with h | h
 ·
  rcases List.mem_append.1 h with h | h
  · exact .inr (List.mem_of_mem_take h)
  exact .inl (List.mem_singleton.1 h)
 exact .inr (List.mem_of_mem_drop h)
theorem qWV {α : Type} (p : α → Bool) (l : List α) {i : Nat} {x : α} (hx : l[i]? = some x) : (l.take (i + 1)).findIdx p = if (l.take i).findIdx p < i then (l.take i).findIdx p else if p x then i else i + 1 := by
 have hi := at_lt hx
 have hl : (l.take i).length = i := by rw [zlT]; omega
 rw [qDG hx, List.findIdx_append, hl]
 by_cases h : (l.take i).findIdx p < i
 · rw [if_pos h, if_pos h]
 rw [if_neg h, if_neg h]
 cases hp : p x <;> simp [List.findIdx_cons, hp] <;> omega
theorem qPO {rows : List Row} {id : Int} (h : rows.findIdx (isId id) < rows.length) : (rows[rows.findIdx (isId id)]).Id = id := by
 have := List.findIdx_getElem (w := h); exact of_decide_eq_true this
theorem qtX {α : Type} {s : α → Int} {B : Int} : ∀ {l : List α}, (∀ x ∈ l, s x ≤ B) → (l.map s).sum ≤ l.length * B
 | [], _ => by simp
 | x :: l, h => by
  have h1 := h x (List.mem_cons_self ..); have h2 := qtX (l := l) fun y hy => h y (List.mem_cons_of_mem _ hy); simp only [List.map_cons, List.sum_cons, zlC]; rw [show ((l.length + 1 : Nat) : Int) * B = l.length * B + B by rw [Int.natCast_add, Int.add_mul]; simp]; omega
def noStore : Store := ⟨⟨[]⟩, 0, []⟩
def tableB (s : Schema) (t : Int) : Bool := decide (0 ≤ t ∧ t ≤ (s.Cols.length : Int) - 1)
def tableOf (s : Store) (t : Int) : List Row := s.Tables.getD t.toNat []
def setTable (s : Store) (t : Int) (rows : List Row) : Store := ⟨s.Schema, s.Version, s.Tables.set t.toNat rows⟩
theorem qwF {s : Store} (hs : storeB s = true) {t : Nat} (ht : t < s.Tables.length) : rowsB s.Schema t (tableOf s t) = true := by
 unfold tableOf; rw [Int.toNat_natCast, zgD, zgE ht, Option.getD_some]; exact qjJ hs (zgE ht)
theorem qlJ {α : Type} (p : α → Bool) (l : List α) {i : Nat} {x : α} (hx : l[i]? = some x) (hn : ¬ (l.take i).findIdx p < i) : (p x = true → l.findIdx p = i) ∧ (p x = false → ¬ (l.take (i + 1)).findIdx p < i + 1) := by
 have hi := at_lt hx
 have hl : (l.take i).length = i := by rw [zlT]; omega
 constructor
 ·
  intro hp
  have e : l = l.take i ++ x :: l.drop (i + 1) := by
   conv => lhs; rw [← List.take_append_drop i l, List.drop_eq_getElem_cons hi]
   rw [zgE hi] at hx; rw [Option.some.inj hx]
  rw [e, List.findIdx_append, hl, if_neg hn, List.findIdx_cons, hp]; simp
 intro hp; rw [qDG hx, List.findIdx_append, hl, if_neg hn, List.findIdx_cons, hp]; simp; omega
def putF (q : Query) (l : List Row) (r : Row) : List Row := l.take (l.findIdx (aheadB q r)) ++ [r] ++ l.drop (l.findIdx (aheadB q r))
theorem qvW (q : Query) (l : List Row) (r : Row) : (putF q l r).length = l.length + 1 := by
 have hle := List.findIdx_le_length (xs := l) (p := aheadB q r); simp [putF]; omega
theorem qsf (q : Query) (l : List Row) (r : Row) : qUC (putF q l r) = qUC l + 1 + qbD r := by
 have h1 := qvW q l r; unfold qUC
 have h2 : ((putF q l r).map qbD).sum = (l.map qbD).sum + qbD r := by
  unfold putF; rw [sum_append, sum_append, qXM qbD l (l.findIdx (aheadB q r))]; simp; omega
 omega
theorem qla {q : Query} {l : List Row} {r x : Row} (h : x ∈ putF q l r) : x = r ∨ x ∈ l := by
 unfold putF at h
 rcases List.mem_append.1 h with h | h
 ·
  rcases List.mem_append.1 h with h | h
  · exact .inr (List.mem_of_mem_take h)
  exact .inl (List.mem_singleton.1 h)
 exact .inr (List.mem_of_mem_drop h)
def rowsFold (q : Query) (rows acc : List Row) : List Row := rows.foldl (fun acc r => if matchesB q r = true then putF q acc r else acc) acc
def rowsForF (s : Store) (q : Query) : List Row := if (storeB s && queryB s.Schema q) = true then rowsFold q (tableOf s q.Table) [] else []
theorem qQO {q : Query} : ∀ {rows acc : List Row} {x : Row}, x ∈ rowsFold q rows acc → x ∈ rows ∨ x ∈ acc
 | [], acc, x, h => .inr h
 | r :: rows, acc, x, h => by
  have h : x ∈ rowsFold q rows (if matchesB q r = true then putF q acc r else acc) := h
  rcases qQO h with h | h
  · exact .inl (List.mem_cons_of_mem _ h)
  split at h
  ·
   rcases qla h with rfl | h
   · exact .inl (List.mem_cons_self ..)
   exact .inr h
  exact .inr h
theorem qRO {q : Query} : ∀ (rows acc : List Row), (rowsFold q rows acc).length ≤ rows.length + acc.length
 | [], acc => by simp [rowsFold]
 | r :: rows, acc => by
  have e : rowsFold q (r :: rows) acc = rowsFold q rows (if matchesB q r = true then putF q acc r else acc) := rfl; have := qRO (q := q) rows (if matchesB q r = true then putF q acc r else acc); rw [e]; simp only [zlC]
  split at this
  · rename_i h; rw [qvW] at this; rw [if_pos h]; omega
  rename_i h; rw [if_neg h]; omega
theorem qaP {q : Query} : ∀ (rows acc : List Row), qUC (rowsFold q rows acc) ≤ qUC rows + qUC acc
 | [], acc => by have := qGG ([] : List Row); simp only [rowsFold, List.foldl_nil]; omega
 | r :: rows, acc => by
  have e : rowsFold q (r :: rows) acc = rowsFold q rows (if matchesB q r = true then putF q acc r else acc) := rfl; have := qaP (q := q) rows (if matchesB q r = true then putF q acc r else acc)
  have h1 : qUC (r :: rows) = qUC rows + 1 + qbD r := by unfold qUC; simp only [zlC, List.map_cons, List.sum_cons]; omega
  have h0 := qeE r; rw [e, h1]
  split at this
  · rename_i h; rw [qsf] at this; rw [if_pos h]; omega
  rename_i h; rw [if_neg h]; omega
theorem qxH {s : Schema} {q : Query} (h : queryB s q = true) : 0 ≤ q.Table ∧ q.Table ≤ (s.Cols.length : Int) - 1 := by
 unfold queryB at h; simp only [Bool.and_eq_true, decide_eq_true_eq] at h; exact h.1.2
theorem qbT {s : Schema} {t : Int} {rows : List Row} (h : rowsB s t rows = true) : rows.Pairwise fun a b => a.Id < b.Id := by
 unfold rowsB at h; rw [Bool.and_eq_true] at h
 have h1 : ∀ i, ∀ (hi : i + 1 < rows.length), rows[i].Id < rows[i + 1].Id := fun i hi => by
  have := qbE.1 h.1 (i + 1) rows[i + 1] (zgE hi); rw [Bool.and_eq_true] at this; have h2 := this.2; rw [zdT (by omega), Bool.true_and, Bool.not_eq_true', decide_eq_false_iff_not, zgD, Nat.add_sub_cancel, zgE (by omega), Option.getD_some] at h2; omega
 refine List.pairwise_iff_getElem.2 fun i j hi hj hij => ?_
 have : ∀ d, ∀ (hd : i + d + 1 < rows.length), rows[i].Id < rows[i + d + 1].Id := fun d => by
  induction d with
  | zero => intro hd; exact h1 i hd
  | succ d ih => intro hd; have a := ih (by omega); have b := h1 (i + d + 1) hd; exact Int.lt_trans a b
 have e : i + (j - i - 1) + 1 = j := by omega
 have := this (j - i - 1) (by omega); simpa only [e] using this
theorem qyc (q : Query) (l : List Row) (r : Row) : (putF q l r).Perm (l ++ [r]) := by
 unfold putF
 have : ((l.take (l.findIdx (aheadB q r)) ++ [r]) ++ l.drop (l.findIdx (aheadB q r))).Perm (l.take (l.findIdx (aheadB q r)) ++ (l.drop (l.findIdx (aheadB q r)) ++ [r])) := by
  rw [List.append_assoc]; exact List.Perm.append_left _ List.perm_append_comm
 rwa [← List.append_assoc, List.take_append_drop] at this
theorem qke {q : Query} {l : List Row} {r : Row} (h : Srt q l) (hd : ∀ x ∈ l, x.Id ≠ r.Id) : Srt q (putF q l r) := by
 unfold putF; have h' := h; rw [← List.take_append_drop (l.findIdx (aheadB q r)) l] at h'; obtain ⟨h1, h2, h3⟩ := Srt.app.1 h'
 have a1 : ∀ x ∈ l.take (l.findIdx (aheadB q r)), aheadB q x r = true := fun x hx => by
  obtain ⟨i, hi⟩ := List.getElem?_of_mem hx; have hl := at_lt hi; rw [zlT] at hl
  have hi2 : i < l.length := by omega
  rw [List.getElem?_take, if_pos (by omega), zgE hi2] at hi; have := List.not_of_lt_findIdx (xs := l) (p := aheadB q r) (i := i) (by omega)
  cases hi
  exact qwH (fun e => hd _ (List.getElem_mem hi2) e.symm) (by simpa using this)
 have a2 : ∀ x ∈ l.drop (l.findIdx (aheadB q r)), aheadB q r x = true := fun x hx => by
  obtain ⟨i, hi⟩ := List.getElem?_of_mem hx; rw [List.getElem?_drop] at hi; have hl := at_lt hi; have g := List.findIdx_getElem (xs := l) (p := aheadB q r) (w := by omega); exact h.tr2 (Nat.le_add_right _ i) (zgE (by omega)) hi g
 rw [List.append_assoc]
 exact Srt.app.2 ⟨h1, List.pairwise_cons.2 ⟨a2, h2⟩, fun x hx y hy => by
  rcases List.mem_cons.1 hy with rfl | hy
  · exact a1 x hx
  exact h3 x hx y hy⟩
theorem qsO {q : Query} : ∀ (rows acc : List Row), Srt q acc → Dst (acc ++ rows) → Srt q (rowsFold q rows acc) ∧ (rowsFold q rows acc).Perm (acc ++ rows.filter (matchesB q))
 | [], acc, h, _ => ⟨h, by simp [rowsFold]⟩
 | r :: rows, acc, h, hd => by
  have hd' : Dst (acc ++ [r] ++ rows) := by simpa using hd
  have e : rowsFold q (r :: rows) acc = rowsFold q rows (if matchesB q r = true then putF q acc r else acc) := rfl; rw [e]
  by_cases hm : matchesB q r = true
  ·
   rw [if_pos hm, List.filter_cons_of_pos hm]; have p := qyc q acc r; obtain ⟨g1, g2⟩ := qsO rows (putF q acc r) (qke h fun x hx => (hd'.app.1).app.2.2 x hx r (by simp)) (hd'.perm (p.symm.append_right rows)); exact ⟨g1, g2.trans (by simpa using p.append_right (rows.filter (matchesB q)))⟩
  rw [if_neg hm, List.filter_cons_of_neg hm]
  have : Dst (acc ++ rows) := by
   refine List.Pairwise.sublist ?_ hd; exact List.Sublist.append_left (List.sublist_cons_self r rows) acc
  exact qsO rows acc h this
theorem qwY {l : List Row} (h : qUC l ≤ 9223372036854775807) : qWP l := by
 unfold qUC at h; have p := qUE qeE l
 exact ⟨by omega, fun x hx => by
  have := qfJ qeE hx
  have h2 : qbD x ≤ 9223372036854775807 := by omega
  unfold qbD qkD at h2; unfold Row_b IntS_b
  omega⟩
theorem qbP {s : Store} (h : qnG s ≤ 9223372036854775807) : qvH s := by
 unfold qnG qiJ at h; have p1 := qqL s.Schema; have p2 := qUE qGG s.Tables; refine ⟨?_, by omega, fun x hx => qwY (by have := qfJ qGG hx; omega)⟩
 have h2 : qDF s.Schema ≤ 9223372036854775807 := by omega
 unfold qDF qkD at h2; unfold qFE IntS_b; omega
theorem qcT {s : Schema} {t : Int} {r : Row} (h : rowB s t r = true) : qbD r ≤ 4 := by
 have hc := qUM h; unfold rowB at h; simp only [Bool.and_eq_true, decide_eq_true_eq] at h; obtain ⟨⟨⟨⟨hs, ht⟩, _⟩, _⟩, _⟩ := h; unfold schemaB at hs; rw [Bool.and_eq_true, List.all_eq_true] at hs
 have hlt : t.toNat < s.Cols.length := by omega
 have := of_decide_eq_true (hs.1 _ (List.getElem_mem hlt)); rw [zgD, zgE hlt, Option.getD_some] at hc; unfold qbD qkD; omega
theorem quX {s : Schema} {t : Int} {rows : List Row} (h : rowsB s t rows = true) : qUC rows ≤ 120 := by
 have hl := qmG h
 have := qtX (s := qbD) (B := 4) (l := rows) fun x hx => by
  obtain ⟨i, hi⟩ := List.getElem?_of_mem hx; exact qcT (qYH h hi)
 unfold qUC; omega
theorem qcP {s : Store} (h : storeB s = true) : qvH s ∧ qnG s ≤ 1000 := by
 have hz : qnG s ≤ 1000 := by
  obtain ⟨hl, hs⟩ := qKE h; have h3 := qQJ hs
  have := qtX (s := qUC) (B := 120) (l := s.Tables) fun x hx => by
   obtain ⟨i, hi⟩ := List.getElem?_of_mem hx; exact quX (qjJ h hi)
  unfold qnG qiJ qDF qkD; omega
 exact ⟨qbP (by omega), hz⟩
theorem qJG (s : Store) (q : Query) : (rowsForF s q).length ≤ 24 ∧ qUC (rowsForF s q) ≤ 120 ∧ ∀ x ∈ rowsForF s q, Row_b x := by
 unfold rowsForF
 split
 ·
  rename_i h
  rw [Bool.and_eq_true] at h; obtain ⟨t1, t2⟩ := qxH h.2; have hl := (qKE h.1).1; have hrows := qwF h.1 (t := q.Table.toNat) (by omega); rw [Int.toNat_of_nonneg t1] at hrows; have hlen := qmG hrows; have hz := quX hrows
  have z0 : qUC ([] : List Row) = 0 := by simp [qUC]
  have s1 := qRO (q := q) (tableOf s q.Table) []; have s2 := qaP (q := q) (tableOf s q.Table) []; refine ⟨by simp only [zlN] at s1; omega, by omega, fun x hx => ?_⟩
  rcases qQO hx with hx | hx
  ·
   obtain ⟨i, hi⟩ := List.getElem?_of_mem hx; have z := qcT (qYH hrows hi); unfold Row_b IntS_b; unfold qbD qkD at z; omega
  simp at hx
 simp [qUC]
theorem qdP (q : Query) (hq : qWG q.Where) (rows : List Row) (hl : rows.length ≤ 24) (hr : ∀ r ∈ rows, Row_b r ∧ qbD r ≤ 4) (K : List Row → Option (List Row)) : ∀ (k i : Nat) (acc : List Row), i ≤ rows.length → rows.length < i + k → acc.length ≤ i → qyC.l0 q rows K k acc i = K (acc ++ (rows.drop i).filter (matchesB q)) := by
 intro k
 induction k with
 | zero => intro i acc h h'; omega
 | succ k ih =>
  intro i acc h h' ha; rw [qyC.l0, qF]
  by_cases hi : i < rows.length
  ·
   obtain ⟨b1, z1⟩ := hr _ (List.getElem_mem hi); rw [zdT (by omega), zcT, qd, zgE hi, zoB, qGB (qQK q _ hq b1), List.drop_eq_getElem_cons hi, qv (by omega)]
   cases hm : matchesB q rows[i] with
   | true =>
    rw [zcT, qGB (qYP _ (by omega)), zoB, qWC (by simp only [zlC, zlN]; omega), zoB, List.filter_cons_of_pos hm, ih (i + 1) _ (by omega) (by omega) (by simp only [zlA, zlC, zlN]; omega)]; simp
   | false =>
    rw [zcF, List.filter_cons_of_neg (by simp [hm])]; exact ih (i + 1) _ (by omega) (by omega) (by omega)
  rw [zdF (by omega), zcF, List.drop_eq_nil_of_le (by omega)]; simp
theorem qTK (s : Store) (q : Query) (hs : qvH s) (hq : qWF q) : qyC.f s q = some (rowsForF s q) := by
 unfold qyC.f rowsForF; rw [qIG _ hs, zoB, qEF _ _ hs.1 hq]
 cases h1 : storeB s with
 | false => rfl
 | true =>
  cases h2 : queryB s.Schema q with
  | false => rfl
  | true =>
   simp only [qsC, Bool.not_true, Bool.not_false, bo3_F, bo3_T, qTC, zoB, zcF, Bool.true_and, if_true]; obtain ⟨t1, t2⟩ := qxH h2; have hl := (qKE h1).1
   have ht : q.Table.toNat < s.Tables.length := by omega
   have hrows := qwF h1 ht; have hlen := qmG hrows; rw [qCD, show getO s.Tables q.Table = some (tableOf s q.Table) from qoL (by omega), zoB]; rw [Int.toNat_of_nonneg t1] at hrows hlen
   have hr : ∀ r ∈ tableOf s q.Table, Row_b r ∧ qbD r ≤ 4 := fun r hr => by
    obtain ⟨i, hi⟩ := List.getElem?_of_mem hr; have z := qcT (qYH hrows hi); exact ⟨by unfold Row_b IntS_b; unfold qbD qkD at z; omega, z⟩
   have hd : Dst (tableOf s q.Table) := (qbT hrows).imp fun h e => by omega
   have e := qdP q hq.1 (tableOf s q.Table) hlen hr (fun y11 => (qIB.f y11 q).bind fun r36 => some r36) (((lenI (tableOf s q.Table)) - 0).toNat + 1) 0 [] (by omega) (by rw [qF]; omega) (by simp); rw [List.drop_zero, List.nil_append] at e; have hfd : Dst ((tableOf s q.Table).filter (matchesB q)) := List.Pairwise.sublist List.filter_sublist hd; obtain ⟨M, m1, m2, m3⟩ := qZT q ((tableOf s q.Table).filter (matchesB q)) (Nat.le_trans (List.length_filter_le ..) hlen) (fun y hy => (hr y (List.mem_filter.1 hy).1).1) hfd
   obtain ⟨g1, g2⟩ := qsO (q := q) (tableOf s q.Table) [] List.Pairwise.nil (by simpa using hd); rw [List.nil_append] at g2; have : M = rowsFold q (tableOf s q.Table) [] := m3.unique g1 (m2.trans g2.symm); refine e.trans ?_; rw [m1, zoB, this]
def countC (col : Nat) (id : Int) : List Row → Int → Int
 | [], n => n
 | r :: l, n => countC col id l (if r.Cells.getD col 0 = id then n + 1 else n)
def kidsOfF (s : Store) (q : Query) (id : Int) : Int :=
 if (storeB s && queryB s.Schema q && q.Kids) = true then countC q.KidCol.toNat id (s.Tables.getD q.KidTable.toNat []) 0 else 0
theorem qRJ {s : Schema} {q : Query} (h : queryB s q = true) (hk : q.Kids = true) : (0 ≤ q.KidTable ∧ q.KidTable ≤ (s.Cols.length : Int) - 1) ∧ (0 ≤ q.KidCol ∧ q.KidCol ≤ w64 (s.Cols.getD q.KidTable.toNat 0 - 1)) := by
 unfold queryB kidsB at h; simp only [Bool.and_eq_true, decide_eq_true_eq, hk, if_true] at h; exact h.2.2.2
theorem qZN {s : Schema} (h : schemaB s = true) {i : Int} (hi : 0 ≤ i ∧ i ≤ (s.Cols.length : Int) - 1) : 1 ≤ s.Cols.getD i.toNat 0 ∧ s.Cols.getD i.toNat 0 ≤ 4 := by
 unfold schemaB at h; rw [Bool.and_eq_true, List.all_eq_true] at h
 have hl : i.toNat < s.Cols.length := by omega
 rw [zgD, zgE hl]; exact of_decide_eq_true (h.1 _ (List.getElem_mem hl))
theorem qwQ (s : Store) (q : Query) (id : Int) (hs : qvH s) (hq : qWF q) : qSD.f s q id = some (kidsOfF s q id) := by
 unfold qSD.f kidsOfF; rw [qIG _ hs, zoB, qEF _ _ hs.1 hq]
 cases h1 : storeB s with
 | false => rfl
 | true =>
  cases h2 : queryB s.Schema q with
  | false => rfl
  | true =>
   cases h3 : q.Kids with
   | false => rfl
   | true =>
    simp only [bo3_F, bo3_T, qTC, zoB, zcF, Bool.true_and, if_true]; obtain ⟨hk1, hk2⟩ := qRJ h2 h3; obtain ⟨hl1, hl2⟩ := qKE h1; have hcol := qZN hl2 hk1; rw [qfB (by omega)] at hk2; rw [show getO s.Tables q.KidTable = some (s.Tables.getD q.KidTable.toNat []) from qoL (by omega), zoB]
    have hat : s.Tables[q.KidTable.toNat]? = some (s.Tables.getD q.KidTable.toNat []) := by
     rw [zgD, zgE (by omega)]; rfl
    have hrows := qjJ h1 hat; have hlen := qmG hrows; generalize s.Tables.getD q.KidTable.toNat [] = rows at *
    have key2 : ∀ (k i : Nat) (n : Int), i ≤ rows.length → rows.length < i + k → 0 ≤ n → n ≤ i → qSD.l0 q id rows k n i = some (countC q.KidCol.toNat id (rows.drop i) n) := by
     intro k
     induction k with
     | zero => intro i n h h'; omega
     | succ k ih =>
      intro i n h h' hn hni
      by_cases hi : i < rows.length
      ·
       have hx : rows[i]? = some rows[i] := zgE hi; have hc := qUM (qYH hrows hx); rw [show ((q.KidTable.toNat : Nat) : Int) = q.KidTable from by omega] at hc; rw [qSD.l0, qF, zdT (by omega), zcT, qd, hx, zoB, qPF (by omega), zoB, List.drop_eq_getElem_cons hi, countC, qv (by omega)]
       by_cases e : (rows[i]).Cells.getD q.KidCol.toNat 0 = id
       ·
        rw [zdT e, zcT, if_pos e, qfB (by omega)]; exact ih (i + 1) (n + 1) (by omega) (by omega) (by omega) (by omega)
       rw [zdF e, zcF, if_neg e]; exact ih (i + 1) n (by omega) (by omega) hn (by omega)
      rw [qSD.l0, qF, zdF (by omega), zcF, List.drop_eq_nil_of_le (by omega), countC]
    have := key2 (((lenI rows) - 0).toNat + 1) 0 0 (by omega) (by simp only [qF]; omega) (by omega) (by omega); rw [List.drop_zero] at this; exact this
theorem qeP (q : Query) (n : Nat) : qyG.f q (n : Int) = some (firstF q n : Int) := by
 unfold qyG.f firstF
 by_cases c : q.First = 0
 · rw [zdT c, zcT, if_pos c]
 rw [zdF c, zcF, if_neg c, zoB, zoB]; congr 1; unfold minO maxO
 split <;> split <;> (try split) <;> omega
theorem qrL (l : List Int) (x : Int) (hl : l.length ≤ 9223372036854775806) : ∀ (k i : Nat), i ≤ l.length → l.length < i + k → ∃ r : Int, qoC.l0 l x k i = some r ∧ (0 ≤ r ↔ x ∈ l.drop i) := by
 intro k
 induction k with
 | zero => intro i h h'; omega
 | succ k ih =>
  intro i h h'; rw [qoC.l0, qF]
  by_cases hi : i < l.length
  ·
   rw [zdT (by omega), zcT, qd, zgE hi, zoB, List.drop_eq_getElem_cons hi, qv (by omega)]
   by_cases c : x = l[i]
   ·
    rw [zdT c, zcT]; exact ⟨i, rfl, ⟨fun _ => by rw [List.mem_cons]; exact .inl c, fun _ => by omega⟩⟩
   rw [zdF c, zcF]; obtain ⟨r, h1, h2⟩ := ih (i + 1) (by omega) (by omega); exact ⟨r, h1, h2.trans ⟨fun h => by rw [List.mem_cons]; exact .inr h, fun h => by rw [List.mem_cons] at h; exact h.elim (fun e => absurd e c) id⟩⟩
  rw [zdF (by omega), zcF, List.drop_eq_nil_of_le (by omega)]; exact ⟨-1, rfl, by simp⟩
theorem qDK (l : List Int) (x : Int) (hl : l.length ≤ 9223372036854775806) : qAE.f l x = some (decide (x ∈ l)) := by
 unfold qAE.f qoC.f; obtain ⟨r, h1, h2⟩ := qrL l x hl (((lenI l) - 0).toNat + 1) 0 (by omega) (by rw [qF]; omega); refine (congrArg (fun o => Option.bind o _) h1).trans ?_; rw [zoB]; congr 1; rw [List.drop_zero] at h2; exact decide_eq_decide.2 h2
theorem qfP (n : Int) (h : -9223372036854775808 ≤ n ∧ n ≤ 9223372036854775807) : strconv_Itoa.f n = some (bl (Lib.itoa n)) := by
 unfold strconv_Itoa.f itoaO; rw [if_pos h]; rfl
theorem qxQ (n : Int) (h : -9223372036854775808 ≤ n ∧ n ≤ 9223372036854775807) : qqH.f n = some (bl (Lib.itoa n)) := by
 unfold qqH.f; rw [qfP n h]; rfl
theorem qle (x y : ByteArray) : qAF.f x y = some (nlt x y) := by
 unfold qAF.f qiE.f; rw [qrW, zdF (by simp), zoB, qxE, zoB, bo3_F]; rfl
theorem qXV (pl : List NV) (n : ByteArray) (hs : Sn pl) (hn : ∀ x ∈ pl, x.1 ≠ n) (hlen : pl.length ≤ 10000000) :
  ∃ (t : Nat) (b : Bool), t ≤ pl.length ∧ qm.f (pl.map (·.1)) n = some ((t : Int), b) ∧ pl.filter (fun x => nlt x.1 n) = pl.take t ∧ pl.filter (fun x => nlt n x.1) = pl.drop t := by
 unfold qm.f; rw [qCD, qF, List.length_map]
 generalize hK : (fun (y1 : Int) =>
 (gd (decide (y1 < (pl.length : Int))) (getO (pl.map (·.1)) y1)).bind fun x14 =>
 (gd (bo3 (decide (y1 < (pl.length : Int))) (bo3 (Ls.sc .eql x14 n) false true) false) (getO (pl.map (·.1)) y1)).bind fun x15 =>
 (gd (bo3 (decide (y1 < (pl.length : Int))) (bo3 (Ls.sc .eql x14 n) false true) false) (qwC.f x15)).bind fun r16 =>
 (gd (bo3 (bo3 (decide (y1 < (pl.length : Int))) (bo3 (Ls.sc .eql x14 n) false true) false) r16 false) (qwC.f n)).bind fun r17 =>
 some (y1, (bo3 (decide (y1 < (pl.length : Int))) (bo3 (Ls.sc .eql x14 n) true (bo3 r16 r17 false)) false))) = K
 have hat : ∀ c, c < pl.length → ∃ x, pl[c]? = some x := fun c h => ⟨pl[c], zgE h⟩
 have hmono : ∀ (c c' : Nat) (x y : NV), c ≤ c' → pl[c]? = some x → pl[c']? = some y → nlt x.1 n = false → nlt y.1 n = false := fun c c' x y h1 h2 h3 h4 => by
  rcases Nat.lt_or_ge c c' with h | h
  ·
   have : nlt x.1 y.1 = true := by
    obtain ⟨a1, rfl⟩ := List.getElem?_eq_some_iff.1 h2; obtain ⟨a2, rfl⟩ := List.getElem?_eq_some_iff.1 h3; exact List.pairwise_iff_getElem.1 hs c c' a1 a2 h
   cases e : nlt y.1 n with
   | false => rfl
   | true => rw [qUP this e] at h4; cases h4
  ·
   obtain rfl : c = c' := by omega
   rw [h2] at h3; cases h3; exact h4
 obtain ⟨t, t1, t2, t3, t4, t5⟩ := bsearch (f := fun k i j => qm.l0 (pl.map (·.1)) n K k i j) (K := K) (fun c => nlt (pl.getD c default).1 n) 0 pl.length
  (fun c c' h1 h2 h3 h4 => by
   obtain ⟨x, hx⟩ := hat c (by omega); obtain ⟨y, hy⟩ := hat c' h3; rw [zgD, hx, Option.getD_some] at h4; rw [zgD, hy, Option.getD_some]
   exact hmono c c' x y h2 hx hy h4)
  (fun k i j h1 h2 h3 => by
   obtain ⟨x, hx⟩ := hat ((i + j) / 2) (by omega)
   show qm.l0 _ n K (k + 1) i j = _
   rw [qm.l0, zdT (by omega), zcT, qTP (n := i + j) (by omega) (by omega), qd, List.getElem?_map, hx, Option.map_some, zoB, qle, zoB, zgD, hx, Option.getD_some, qv (by omega)]
   cases nlt x.1 n with
   | true => rw [zcT, if_pos rfl]
   | false => rw [zcF, if_neg (by simp)])
  (fun k i => by
   show qm.l0 _ n K (k + 1) i i = _
   rw [qm.l0, zdF (by omega), zcF])
  (((pl.length : Int) - 0).toNat + 1) 0 pl.length (Nat.le_refl _) (by omega) (Nat.le_refl _) (by omega)
 have hlo : ∀ x ∈ pl.take t, nlt x.1 n = true := fun x hx => by
  obtain ⟨i, hi⟩ := List.getElem?_of_mem hx; have hl := at_lt hi; rw [zlT] at hl; rw [List.getElem?_take, if_pos (by omega)] at hi; have := t4 i (by omega) (by omega); rw [zgD, hi, Option.getD_some] at this; exact this
 have hhi : ∀ x ∈ pl.drop t, nlt x.1 n = false := fun x hx => by
  obtain ⟨i, hi⟩ := List.getElem?_of_mem hx; rw [List.getElem?_drop] at hi; have hl := at_lt hi; have := t5 (t + i) (by omega) (by omega); rw [zgD, hi, Option.getD_some] at this; exact this
 have hKt : ∃ b, K (t : Int) = some ((t : Int), b) := by
  rw [← hK]; dsimp only
  by_cases c : t < pl.length
  ·
   rw [zdT (by omega), qTC, qd, List.getElem?_map, zgE c, Option.map_some, zoB]; unfold qwC.f; rw [gd_of, zoB, gd_of, zoB, gd_of, zoB]; exact ⟨_, rfl⟩
  ·
   rw [zdF (by omega)]; exact ⟨_, rfl⟩
 obtain ⟨b, hb⟩ := hKt; refine ⟨t, b, t2, t3.trans hb, ?_, ?_⟩
 ·
  conv => lhs; rw [← List.take_append_drop t pl]
  rw [List.filter_append, List.filter_eq_self.2 hlo, List.filter_eq_nil_iff.2 (fun x hx => by rw [hhi x hx]; simp), List.append_nil]
 ·
  conv => lhs; rw [← List.take_append_drop t pl]
  rw [List.filter_append, List.filter_eq_nil_iff.2 (fun x hx => by rw [qVT (hlo x hx)]; simp), List.filter_eq_self.2 (fun x hx => qda (hn x (List.mem_of_mem_drop hx)) (hhi x hx)), List.nil_append]
theorem qma {α : Type} {b : Nat} {l m : List α} {i : Nat} {x : α} (hm : m = [x]) (hi : i ≤ l.length) (hb : ((l.length : Int) + 1) * b ≤ 140737488355328 ∧ (l.length : Int) + 1 ≤ 140737488355328) : insO b l (i : Int) m = some (l.take i ++ x :: l.drop i) := by
 subst hm; unfold insO; rw [if_pos ⟨rfl, by omega, by omega, by simpa using hb.1, by simpa using hb.2⟩, Int.toNat_natCast]; simp
theorem qzc (P : List NV) (hd : P.Pairwise fun a b => a.1 ≠ b.1) (hf : Fn1 P) (hlen : P.length ≤ 10000000) : ∀ (k i : Nat), i ≤ P.length → P.length < i + k →
  qwD.l0 (P.map (·.1)) (P.map (·.2)) k ((foldP (P.take i)).map fun p => numJ p.2) ((foldP (P.take i)).map (·.1)) i = some (objJ (foldP P)) := by
 intro k
 induction k with
 | zero => intro i h h'; omega
 | succ k ih =>
  intro i h h'; rw [qwD.l0, qF, List.length_map]
  by_cases hi : i < P.length
  ·
   have hx : P[i]? = some P[i] := zgE hi; have hl := qOV (P.take i)
   have ht : (P.take i).length = i := by rw [zlT]; omega
   have hfT : Fn1 (P.take i) := fun a ha b hb => hf a (List.mem_of_mem_take ha) b (List.mem_of_mem_take hb)
   obtain ⟨t, b, t1, t2, t3, t4⟩ := qXV (foldP (P.take i)) (P[i]).1 (qWT _) (fun x hx' => by
    rw [qVP _ hfT] at hx'; obtain ⟨m, hm⟩ := List.getElem?_of_mem hx'; have hml := at_lt hm; rw [List.getElem?_take, if_pos (by omega)] at hm; obtain ⟨a1, rfl⟩ := List.getElem?_eq_some_iff.1 hm
    exact List.pairwise_iff_getElem.1 hd m i a1 hi (by omega)) (by omega)
   have e : foldP (P.take (i + 1)) = (foldP (P.take i)).take t ++ P[i] :: (foldP (P.take i)).drop t := by
    rw [qDG hx, qUS]; unfold putP; rw [t3, t4]
   rw [zdT (by omega), zcT, qd, List.getElem?_map, hx, Option.map_some, zoB, t2, zoB, zoB]; unfold qRE.f qjD.f; rw [qma rfl (by rw [List.length_map]; exact t1) (by rw [List.length_map]; omega), zoB, qd, List.getElem?_map, hx, Option.map_some, zoB, zoB, qma rfl (by rw [List.length_map]; exact t1) (by rw [List.length_map]; omega), zoB, qv (by omega), ← ih (i + 1) (by omega) (by omega), e]; simp only [List.map_append, List.map_cons, List.map_take, List.map_drop]
   rfl
  have : i = P.length := by omega
  subst this; rw [zdF (by omega), zcF, List.take_length]; rfl
theorem qdT (P : List NV) (hd : P.Pairwise fun a b => a.1 ≠ b.1) (hf : Fn1 P) (hlen : P.length ≤ 10000000) : qwD.f (P.map (·.1)) (P.map (·.2)) = some (objJ (foldP P)) := by
 unfold qwD.f; exact qzc P hd hf hlen (((lenI (P.map (·.1))) - 0).toNat + 1) 0 (by omega) (by rw [qF, List.length_map]; omega)
def dd (l : List Int) : Nat → List Int
 | 0 => []
 | i + 1 => if l.getD i 0 ∈ l.take i then dd l i else dd l i ++ [l.getD i 0]
theorem qvX (l : List Int) : ∀ i, (dd l i).length ≤ i
 | 0 => by simp [dd]
 | i + 1 => by have := qvX l i; rw [dd]; split <;> simp <;> omega
theorem qwX (l : List Int) (x : Int) : ∀ i, i ≤ l.length → (x ∈ dd l i ↔ x ∈ l.take i)
 | 0, _ => by simp [dd]
 | i + 1, h => by
  have ih := qwX l x i (by omega)
  have e : l.take (i + 1) = l.take i ++ [l.getD i 0] := by
   rw [qDG (x := l[i]'(by omega)) (zgE (by omega)), zgD, zgE (by omega)]; rfl
  rw [dd, e]
  split
  ·
   rename_i c
   rw [ih, List.mem_append, List.mem_singleton]; exact ⟨.inl, fun h => h.elim id fun e => e ▸ c⟩
  rw [List.mem_append, ih, List.mem_append]
theorem dd_nd (l : List Int) : ∀ i, i ≤ l.length → (dd l i).Pairwise (· ≠ ·)
 | 0, _ => List.Pairwise.nil
 | i + 1, h => by
  have ih := dd_nd l i (by omega); rw [dd]
  split
  · exact ih
  rename_i c
  refine List.pairwise_append.2 ⟨ih, List.pairwise_singleton .., fun a ha b hb => ?_⟩; rw [List.mem_singleton.1 hb]; rintro rfl; exact c ((qwX l _ i (by omega)).1 ha)
def implPs (q : Query) (r : Row) (n : Int) : List NV := [idP r] ++ (dd q.Show q.Show.length).map (colP r) ++ kidsL q n
theorem qyQ (q : Query) (r : Row) (hr : Row_b r) (hc : In64 q.Show) (hl : q.Show.length ≤ 2097152) (K : List ByteArray → List Int → Option Json) : ∀ (k i : Nat), i ≤ q.Show.length → q.Show.length < i + k →
  qTD.l0 q r K k (([idP r] ++ (dd q.Show i).map (colP r)).map (·.1)) (([idP r] ++ (dd q.Show i).map (colP r)).map (·.2)) i = K (([idP r] ++ (dd q.Show q.Show.length).map (colP r)).map (·.1)) (([idP r] ++ (dd q.Show q.Show.length).map (colP r)).map (·.2)) := by
 intro k
 induction k with
 | zero => intro i h h'; omega
 | succ k ih =>
  intro i h h'; rw [qTD.l0, qF]
  by_cases hi : i < q.Show.length
  ·
   have hx : q.Show[i]? = some q.Show[i] := zgE hi
   have hg : q.Show.getD i 0 = q.Show[i] := by rw [zgD, hx]; rfl
   have h64 := hc _ (List.getElem_mem hi); have hdl := qvX q.Show i
   have hcut : cutO q.Show 0 (i : Int) = some (q.Show.take i) := by rw [qQP (by omega)]; simp
   rw [zdT (by omega), zcT, qd, hx, zoB, hcut, zoB, qDK _ _ (by rw [zlT]; omega), zoB, qv (by omega), ← ih (i + 1) (by omega) (by omega), dd, hg]
   by_cases c : q.Show[i] ∈ q.Show.take i
   · rw [zdT c, zcT, if_pos c]
   rw [zdF c, zcF, if_neg c, qxQ _ h64, zoB, put_c _ h64, zoB, zoB, qWC (by simp only [zlA, List.length_map, zlC, zlN]; omega), zoB, qwI r _ hr, zoB, zoB, qWC (by simp only [zlA, List.length_map, zlC, zlN]; omega), zoB]; simp only [List.map_append, List.map_cons, List.map_nil, List.append_assoc]; rfl
  have : i = q.Show.length := by omega
  subst this; rw [zdF (by omega), zcF]
theorem qna {q : Query} {r : Row} {n : Int} (hc : In64 q.Show) : (implPs q r n).Pairwise fun a b => a.1 ≠ b.1 := by
 unfold implPs; have hm : ∀ x ∈ dd q.Show q.Show.length, -9223372036854775808 ≤ x ∧ x ≤ 9223372036854775807 := fun x hx => hc x (by simpa using (qwX q.Show x _ (Nat.le_refl _)).1 hx)
 have hk : ∀ b ∈ kidsL q n, b = kidsP n := fun b hb => by
  unfold kidsL at hb
  split at hb
  · exact List.mem_singleton.1 hb
  simp at hb
 refine List.pairwise_append.2 ⟨List.pairwise_append.2 ⟨List.pairwise_singleton .., ?_, fun a ha b hb => ?_⟩, ?_, fun a ha b hb => ?_⟩
 ·
  refine List.pairwise_map.2 ?_; have := dd_nd q.Show q.Show.length (Nat.le_refl _); refine List.Pairwise.imp_of_mem (fun {a b} ha hb hne e => ?_) this; have e : colN a = colN b := e; rw [qpL, qpL] at e; exact hne (qpX (hm a ha) (hm b hb) (List.cons.inj (qPV e)).2)
 ·
  rw [List.mem_singleton.1 ha]; obtain ⟨c, _, rfl⟩ := List.mem_map.1 hb; exact fun e => qVN c e.symm
 ·
  unfold kidsL; split
  · exact List.pairwise_singleton ..
  exact List.Pairwise.nil
 rw [hk b hb]
 rcases List.mem_append.1 ha with ha | ha
 · rw [List.mem_singleton.1 ha]; exact qWN
 obtain ⟨c, _, rfl⟩ := List.mem_map.1 ha; exact qPK c
theorem qgP {q : Query} {r : Row} {n : Int} (hc : In64 q.Show) : Fn1 (implPs q r n) ∧ foldP (implPs q r n) = foldP (q.Show.map (colP r) ++ [idP r] ++ kidsL q n) := by
 have hk : ∀ b ∈ kidsL q n, b = kidsP n := fun b hb => by
  unfold kidsL at hb
  split at hb
  · exact List.mem_singleton.1 hb
  simp at hb
 have hdm : ∀ x, x ∈ dd q.Show q.Show.length ↔ x ∈ q.Show := fun x => by rw [qwX q.Show x _ (Nat.le_refl _), List.take_length]
 have f1 : Fn1 (implPs q r n) := qid (r := r) (n := n) (q := q) hc fun x hx => by
  unfold implPs at hx; simp only [List.mem_append, List.mem_map, List.mem_singleton] at hx
  rcases hx with (rfl | ⟨c, h1, rfl⟩) | h
  · exact .inr (.inl rfl)
  · exact .inl ⟨c, (hdm c).1 h1, rfl⟩
  exact .inr (.inr (hk _ h))
 have f2 : Fn1 (q.Show.map (colP r) ++ [idP r] ++ kidsL q n) := qid (r := r) (n := n) (q := q) hc fun x hx => by
  simp only [List.mem_append, List.mem_map, List.mem_singleton] at hx
  rcases hx with (⟨c, h1, rfl⟩ | rfl) | h
  · exact .inl ⟨c, h1, rfl⟩
  · exact .inr (.inl rfl)
  exact .inr (.inr (hk _ h))
 refine ⟨f1, qlY f1 f2 fun x => ?_⟩; unfold implPs; simp only [List.mem_append, List.mem_map, List.mem_singleton]; constructor
 ·
  rintro ((h | ⟨c, h1, h2⟩) | h)
  · exact .inl (.inr h)
  · exact .inl (.inl ⟨c, (hdm c).1 h1, h2⟩)
  exact .inr h
 rintro ((⟨c, h1, h2⟩ | h) | h)
 · exact .inl (.inr ⟨c, (hdm c).2 h1, h2⟩)
 · exact .inl (.inl h)
 exact .inr h
theorem qhP (q : Query) (r : Row) (hr : Row_b r) (hc : In64 q.Show) (hl : q.Show.length ≤ 2097152) (K : List ByteArray → List Int → Option Json) : qTD.l0 q r K (((lenI q.Show) - 0).toNat + 1) [ByteArray.mk #[105, 100]] [r.Id] 0 = K (([idP r] ++ (dd q.Show q.Show.length).map (colP r)).map (·.1)) (([idP r] ++ (dd q.Show q.Show.length).map (colP r)).map (·.2)) := by
 have h := qyQ q r hr hc hl K (((lenI q.Show) - 0).toNat + 1) 0 (by omega) (by rw [qF]; omega); rw [dd, List.map_nil, List.append_nil] at h; exact h
theorem qiP (q : Query) (r : Row) (n : Int) (hc : In64 q.Show) (hl : q.Show.length ≤ 2097152) : ((qwD.f ((implPs q r n).map (·.1)) ((implPs q r n).map (·.2))).bind fun r49 => (qkF.f r49).bind fun r50 => some r50) = some (orJ (rowObj q r n)) := by
 have hdl := qvX q.Show q.Show.length
 have hkl : (kidsL q n).length ≤ 1 := by unfold kidsL; split <;> simp
 have hobj : qwD.f ((implPs q r n).map (·.1)) ((implPs q r n).map (·.2)) = some (rowObj q r n) := by
  rw [qdT _ (qna hc) (qgP hc).1 (by unfold implPs; simp only [zlA, List.length_map, List.length_singleton]; omega), (qgP hc).2]; rfl
 rw [hobj, zoB, qPL _ (qXT hc hl).1]; rfl
theorem qzQ (q : Query) (r : Row) (n : Int) (hr : Row_b r) (hc : In64 q.Show) (hl : q.Show.length ≤ 2097152) : qTD.f q r n = some (orJ (rowObj q r n)) := by
 have hdl := qvX q.Show q.Show.length; have fin := qiP q r n hc hl; unfold qTD.f; rw [zoB, zoB, qCD, qhP q r hr hc hl]; generalize hN : ([idP r] ++ (dd q.Show q.Show.length).map (colP r)) = N at *
 have hNl : N.length ≤ 2097153 := by rw [← hN]; simp only [zlA, List.length_map, List.length_singleton]; omega
 have e : implPs q r n = N ++ kidsL q n := by unfold implPs; rw [hN]
 rw [e] at fin; clear hN e; rw [← fin, qCD]; unfold kidsL
 cases hk : q.Kids with
 | false =>
  rw [zcF, if_neg (by simp), List.append_nil]
 | true =>
  rw [zcT, zoB, qWC (by simp only [List.length_map, zlC, zlN]; omega), zoB, zoB, qWC (by simp only [List.length_map, zlC, zlN]; omega), zoB, if_pos rfl, List.map_append, List.map_append]; rfl
theorem qtf (kids : List Int) (i : Nat) (hk : (kids.length : Int) ≤ 9223372036854775807) {R : Type} (K : Int → Option R) : (bif (decide ((i : Int) < (lenI kids))) then ((getO kids (i : Int)).bind fun x => K x) else K 0) = K (kids.getD i 0) := by
 rw [qF]
 by_cases c : i < kids.length
 · rw [zdT (by omega), zcT, qd, zgE c, zoB, zgD, zgE c]; rfl
 rw [zdF (by omega), zcF, zgD, List.getElem?_eq_none (by omega)]; rfl
theorem qjP (q : Query) (kids : List Int) (l : List Row) (hc : In64 q.Show) (hl : q.Show.length ≤ 2097152) (hr : ∀ r ∈ l, Row_b r) (hn : l.length ≤ 2097152) (hk : (kids.length : Int) ≤ 9223372036854775807) : ∀ (k i : Nat), i ≤ l.length → l.length < i + k →
  qXD.l0 q kids l k ((docsF q kids (l.take i) 0).map orJ) i = some ((docsF q kids l 0).map orJ) := by
 intro k
 induction k with
 | zero => intro i h h'; omega
 | succ k ih =>
  intro i h h'; rw [qXD.l0, qF]
  by_cases hi : i < l.length
  ·
   have hx : l[i]? = some l[i] := zgE hi
   have ht : (l.take i).length = i := by rw [zlT]; omega
   rw [zdT (by omega), zcT, qd, hx, zoB, qCD, qtf kids i hk, qzQ q _ _ (hr _ (List.getElem_mem hi)) hc hl, zoB, zoB, qWC (by simp only [List.length_map, qSM, ht, zlC, zlN]; omega), zoB, qv (by omega), ← ih (i + 1) (by omega) (by omega), qDG hx, qXS, ht, List.map_append, Nat.zero_add]; rfl
  have : i = l.length := by omega
  subst this; rw [zdF (by omega), zcF, List.take_length]
theorem qkP (q : Query) (rows : List Row) (kids : List Int) (hc : In64 q.Show) (hl : q.Show.length ≤ 2097152) (hr : ∀ r ∈ rows, Row_b r) (hn : rows.length ≤ 2097152) (hk : (kids.length : Int) ≤ 9223372036854775807) : qXD.f q rows kids = some ((docsF q kids (rows.take (firstF q rows.length)) 0).map orJ) := by
 unfold qXD.f; have hf := qRV q rows.length; rw [qF, qeP, zoB, qQP (by omega), zoB, Int.toNat_natCast]
 have e : (rows.take (firstF q rows.length)).drop (0 : Int).toNat = rows.take (firstF q rows.length) := by simp
 rw [e]; exact qjP q kids _ hc hl (fun r h => hr r (List.mem_of_mem_take h)) (by rw [zlT]; omega) hk (((lenI (rows.take (firstF q rows.length))) - 0).toNat + 1) 0 (by omega) (by rw [qF]; omega)
theorem qYV (l : List Json) (hn : l.length ≤ 9223372036854775806) : ∀ (k i : Nat), i ≤ l.length → l.length < i + k → ∃ r : Int, qg.l0 l k i = some r ∧ (0 ≤ r ↔ ∃ x ∈ l.drop i, x.Kind = 0) := by
 intro k
 induction k with
 | zero => intro i h h'; omega
 | succ k ih =>
  intro i h h'; rw [qg.l0, qF]
  by_cases hi : i < l.length
  ·
   rw [zdT (by omega), zcT, qd, zgE hi, zoB, qhI.f, zoB, List.drop_eq_getElem_cons hi, qv (by omega)]
   by_cases c : l[i].Kind = 0
   ·
    rw [zdT c, zcT]; exact ⟨i, rfl, ⟨fun _ => ⟨l[i], List.mem_cons_self .., c⟩, fun _ => by omega⟩⟩
   rw [zdF c, zcF]; obtain ⟨r, h1, h2⟩ := ih (i + 1) (by omega) (by omega); refine ⟨r, h1, h2.trans ⟨fun ⟨x, hx, e⟩ => ⟨x, List.mem_cons_of_mem _ hx, e⟩, fun ⟨x, hx, e⟩ => ?_⟩⟩
   rcases List.mem_cons.1 hx with rfl | hx
   · exact absurd e c
   exact ⟨x, hx, e⟩
  rw [zdF (by omega), zcF, List.drop_eq_nil_of_le (by omega)]; exact ⟨-1, rfl, by simp⟩
theorem qlP (l : List Json) (hn : l.length ≤ 9223372036854775806) : ∃ b, qdB.f l = some b ∧ (b = true ↔ ∃ x ∈ l, x.Kind = 0) := by
 unfold qdB.f qg.f; obtain ⟨r, h1, h2⟩ := qYV l hn (((lenI l) - 0).toNat + 1) 0 (by omega) (by rw [qF]; omega); refine ⟨decide (0 ≤ r), ?_, by rw [decide_eq_true_eq, h2, List.drop_zero]⟩; refine (congrArg (fun o => Option.bind o _) h1).trans ?_; rfl
theorem qYM (q : Query) (rows : List Row) (kids : List Int) (hc : In64 q.Show) (hl : q.Show.length ≤ 2097152) (hr : ∀ r ∈ rows, Row_b r) (hn : rows.length ≤ 2097152) (hk : (kids.length : Int) ≤ 9223372036854775807) : qvF.f q rows kids = some (docOfF q rows kids) := by
 unfold qvF.f docOfF; have hf := qRV q rows.length; rw [qkP q rows kids hc hl hr hn hk, zoB]; generalize hD : docsF q kids (rows.take (firstF q rows.length)) 0 = D
 have hDl : D.length ≤ 2097152 := by rw [← hD, qSM, zlT]; omega
 obtain ⟨b, h1, h2⟩ := qlP (D.map orJ) (by rw [List.length_map]; omega); rw [h1, zoB]
 by_cases hb : ∀ x ∈ D, jsonB x = true
 ·
  have e : D.map orJ = D := (List.map_congr_left (g := id) fun x hx => by unfold orJ; rw [if_pos (hb x hx)]; rfl).trans (List.map_id D)
  have hbf : b = false := by
   rw [← Bool.not_eq_true, h2]; rintro ⟨x, hx, k0⟩; rw [e, ← hD] at hx; obtain ⟨r, n, rfl⟩ := qTM hx; simp [rowObj, objJ] at k0
  rw [hbf, zcF, zoB, zoB, qF, e]; have := qPL (docObj q rows kids) (qsX hc hl hn); unfold docObj at this ⊢; rw [hD] at this ⊢; refine (congrArg (fun o => Option.bind o _) this).trans ?_; rfl
 have : ∃ x ∈ D, jsonB x = false := by
  apply Classical.byContradiction; intro h
  exact hb fun x hx => by
   cases c : jsonB x with
   | true => rfl
   | false => exact absurd ⟨x, hx, c⟩ h
 obtain ⟨x, hx, hxb⟩ := this; have hbt : b = true := h2.2 ⟨orJ x, List.mem_map.2 ⟨x, hx, rfl⟩, by unfold orJ; rw [hxb, if_neg (by simp)]; rfl⟩; rw [hbt, zcT]; rw [← hD] at hx; have := qoY hc hl (rows := rows) hx hxb; unfold orJ; rw [this, if_neg (by simp)]; rfl
def evalF (s : Store) (q : Query) : Json := if storeB s && queryB s.Schema q then docOfF q (rowsForF s q) ((rowsForF s q).map fun r => kidsOfF s q r.Id) else nullJ
theorem qeT {R α : Type} {f : Nat → List Int → Int → Option R} {l : List α} (g : α → Int) (K : List Int → Option R) (h0 : ∀ k (i : Nat) acc x, l[i]? = some x → acc.length ≤ i → f (k + 1) acc i = f k (acc ++ [g x]) ((i + 1 : Nat) : Int)) (h1 : ∀ k (i : Nat) acc, i = l.length → f (k + 1) acc i = K acc) :
  ∀ (k i : Nat) (acc : List Int), i ≤ l.length → l.length < i + k → acc.length ≤ i → f k acc i = K (acc ++ (l.drop i).map g)
 | 0, i, acc, h, h', _ => by omega
 | k + 1, i, acc, h, h', ha => by
  by_cases hi : i < l.length
  ·
   rw [List.drop_eq_getElem_cons hi, List.map_cons, h0 k i acc _ (zgE hi) ha, qeT g K h0 h1 k (i + 1) _ (by omega) (by omega) (by simp only [zlA, zlC, zlN]; omega), List.append_assoc]; rfl
  rw [h1 k i acc (by omega), List.drop_eq_nil_of_le (by omega), List.map_nil, List.append_nil]
theorem qZV (s : Store) (q : Query) (hs : qvH s) (hq : qWF q) (hc : In64 q.Show) (hl : q.Show.length ≤ 2097152) : qjE.f s q = some (evalF s q) := by
 unfold qjE.f evalF; rw [qIG _ hs, zoB, qEF _ _ hs.1 hq]
 cases h1 : storeB s with
 | false => rfl
 | true =>
  cases h2 : queryB s.Schema q with
  | false => rfl
  | true =>
   simp only [qsC, Bool.not_true, Bool.not_false, bo3_F, bo3_T, qTC, zoB, zcF, Bool.true_and, if_true]; obtain ⟨g1, _, g3⟩ := qJG s q; rw [qTK s q hs hq, zoB, qCD]; generalize rowsForF s q = R at *; have hD := qYM q R (R.map fun r => kidsOfF s q r.Id) hc hl g3 (by omega) (by rw [List.length_map]; omega); have e := qeT (f := qjE.l0 s q R (fun y => (qvF.f q R y).bind fun r => some r)) (l := R) (fun r => kidsOfF s q r.Id) (fun y => (qvF.f q R y).bind fun r => some r) (fun k i acc x hx ha => ?_) (fun k i acc hi => ?_) (((lenI R) - 0).toNat + 1) 0 [] (by omega) (by rw [qF]; omega) (by simp)
   ·
    rw [List.drop_zero, List.nil_append, hD] at e; exact e
   ·
    have hi := at_lt hx; rw [qjE.l0, qF, zdT (by omega), zcT, qd, hx, zoB, qwQ s q _ hs hq, zoB, zoB, qWC (by simp only [zlC, zlN]; omega), zoB, qv (by omega)]
   rw [qjE.l0, qF, zdF (by omega), zcF]
def CI (b : List Int) (i : Int) : Prop := 0 ≤ i ∧ i ≤ b.length ∧ (b.length : Int) ≤ 1048576
theorem qld (x : Int) (m : Nat) (hm : m < 9223372036854775808) : 0 ≤ Ls.ar .and .i64 x m ∧ Ls.ar .and .i64 x m ≤ m := by
 show 0 ≤ IntKind.i64.wrap _ ∧ IntKind.i64.wrap _ ≤ _
 have h : (BitVec.ofInt IntKind.i64.bits x &&& BitVec.ofInt IntKind.i64.bits m).toNat ≤ m := by
  rw [BitVec.toNat_and]; refine Nat.le_trans Nat.and_le_right ?_; rw [BitVec.toNat_ofInt]
  have : ((m : Int) % (2 ^ IntKind.i64.bits : Nat)).toNat = m := by
   rw [Int.emod_eq_of_lt (by omega) (by show (m : Int) < ((2 ^ 64 : Nat) : Int); omega)]; omega
  omega
 rw [IntKind.wrap_i64]; omega
theorem qZM {b : List Int} {i : Int} (h : Int) (hc : CI b i) : ∃ i' h' x, qcE.f (l1Cur.mk b i h) = some (l1Cur.mk b i' h', x) ∧ CI b i' ∧ 0 ≤ x ∧ x ≤ 255 := by
 obtain ⟨h0, h1, h2⟩ := hc; unfold qcE.f; dsimp only
 by_cases hi : i < (b.length : Int)
 ·
  rw [qF, zdT hi, zcT, qPM h0, zgE (by omega), zoB]; exact ⟨_, _, _, rfl, ⟨by rw [qfB (by omega)]; omega, by rw [qfB (by omega)]; omega, h2⟩, qld _ 255 (by omega)⟩
 rw [qF, zdF hi, zcF]; exact ⟨_, _, _, rfl, ⟨h0, h1, h2⟩, qld _ 255 (by omega)⟩
theorem qoa {x n : Int} (hx : 0 ≤ x) (hn : 0 < n) : 0 ≤ Int.tmod x n ∧ Int.tmod x n < n := ⟨Int.tmod_nonneg _ hx, Int.tmod_lt_of_pos _ hn⟩
theorem qxB {b : List Int} {i : Int} (h n : Int) (hc : CI b i) : ∃ i' h' x, ql.f (l1Cur.mk b i h) n = some (l1Cur.mk b i' h', x) ∧ CI b i' ∧ 0 ≤ x ∧ (0 < n → x < n) ∧ (n ≤ 0 → x = 0) := by
 unfold ql.f
 by_cases h0 : n ≤ 0
 ·
  rw [zdT h0, zcT]; exact ⟨_, _, _, rfl, hc, by omega, fun _ => by omega, fun _ => rfl⟩
 have hz : nzO n = some () := by unfold nzO; rw [if_pos (by omega)]
 rw [zdF h0, zcF]; obtain ⟨i1, h1, x1, e1, k1, l1, u1⟩ := qZM h hc
 by_cases hn : n ≤ 256
 ·
  rw [zdT hn, zcT, e1, zoB, hz, zoB]; have := qoa (n := n) l1 (by omega); exact ⟨_, _, _, rfl, k1, this.1, fun _ => this.2, fun _ => by omega⟩
 obtain ⟨i2, h2, x2, e2, k2, l2, u2⟩ := qZM h1 k1; obtain ⟨i3, h3, x3, e3, k3, l3, u3⟩ := qZM h2 k2; obtain ⟨i4, h4, x4, e4, k4, l4, u4⟩ := qZM h3 k3; rw [zdF hn, zcF, e1, zoB]; dsimp only; rw [e2, zoB]; dsimp only; rw [e3, zoB]; dsimp only; rw [e4, zoB, hz, zoB]; dsimp only; rw [qfB (x := x1 * 16777216) (by omega), qfB (x := x2 * 65536) (by omega), qfB (x := x3 * 256) (by omega), qfB (x := x1 * 16777216 + x2 * 65536) (by omega), qfB (x := x1 * 16777216 + x2 * 65536 + x3 * 256) (by omega), qfB (by omega)]
 have := qoa (n := n) (show 0 ≤ x1 * 16777216 + x2 * 65536 + x3 * 256 + x4 by omega) (by omega); exact ⟨_, _, _, rfl, k4, this.1, fun _ => this.2, fun _ => by omega⟩
theorem qfT (l : List Int) (hl : (l.length : Int) ≤ 1048576) : ∃ h, qxD.f l = some (l1Cur.mk l 0 h) ∧ CI l 0 := by
 have key : ∀ (k i : Nat) (h : Int), i ≤ l.length → l.length < i + k → ∃ h', qxD.l0 l k h i = some (l1Cur.mk l 0 h') := by
  intro k
  induction k with
  | zero => intro i h h1 h2; omega
  | succ k ih =>
   intro i h h1 h2; rw [qxD.l0]
   by_cases c : bo3 (decide ((i : Int) < lenI l)) (decide ((i : Int) < 4000)) false = true
   ·
    have hi : i < l.length := by
     rw [qTE, Bool.and_eq_true] at c; have := of_decide_eq_true c.1; rw [qF] at this; omega
    rw [c, zcT, qd, zgE hi, zoB, qv (by omega)]; exact ih (i + 1) _ (by omega) (by omega)
   rw [Bool.not_eq_true] at c; rw [c, zcF]; exact ⟨_, rfl⟩
 unfold qxD.f; obtain ⟨h, e⟩ := key (((lenI l) - 0).toNat + 1) 0 (w64 (17333 + lenI l)) (by omega) (by rw [qF]; omega); exact ⟨h, e, by omega, by omega, hl⟩
def SB (s : Schema) : Prop := s.Cols.length ≤ 6 ∧ ∀ x ∈ s.Cols, -1 ≤ x ∧ x ≤ 5
theorem SB.b {s : Schema} (h : SB s) : qFE s := by unfold qFE IntS_b; have := h.1; omega
theorem qEL {α : Type} {p : α → Prop} {l : List α} {x : α} (h : ∀ y ∈ l, p y) (hx : p x) : ∀ y ∈ l ++ [x], p y := fun y hy => by
 rcases List.mem_append.1 hy with hy | hy
 · exact h y hy
 rw [List.mem_singleton.1 hy]; exact hx
theorem qmP (a : l1Cur) : ∀ (k i : Nat) (ci h : Int) (l : List Int), CI a.b ci → l.length = i → i ≤ 3 → 4 ≤ i + k → (∀ x ∈ l, 1 ≤ x ∧ x ≤ 4) →
  ∃ ci' h' l', qQC.l0 a k ci h l i = some (l1Cur.mk a.b ci' h', Schema.mk l') ∧ CI a.b ci' ∧ (i < 1 ∨ 1 ≤ i) ∧ l'.length ≤ 3 ∧ i ≤ l'.length ∧ 1 ≤ l'.length ∧ ∀ x ∈ l', 1 ≤ x ∧ x ≤ 4 := by
 intro k
 induction k with
 | zero => intro i ci h l hc hl h1 h2; omega
 | succ k ih =>
  intro i ci h l hc hl h1 h2 hx; obtain ⟨c1, h1', x1, e1, k1, l1, u1, _⟩ := qxB h 3 hc; have hx3 := u1 (by omega); rw [qQC.l0, e1, zoB]; dsimp only; rw [qfB (by omega)]
  by_cases c : (i : Int) < 1 + x1
  ·
   obtain ⟨c2, h2', x2, e2, k2, l2, u2, _⟩ := qxB h1' 4 k1; have hx4 := u2 (by omega); rw [zdT c, zcT, e2, zoB]; dsimp only; rw [qfB (by omega), zoB, qWC (by simp only [zlC, zlN]; omega), zoB, qv (by omega)]; obtain ⟨ci', h', l', q1, q2, q3, q4, q5, q6, q7⟩ := ih (i + 1) c2 h2' (l ++ [1 + x2]) k2 (by simp [hl]) (by omega) (by omega) (qEL hx (by omega)); exact ⟨ci', h', l', q1, q2, by omega, q4, by omega, q6, q7⟩
  rw [zdF c, zcF]; exact ⟨_, _, _, rfl, k1, by omega, by omega, by omega, by omega, hx⟩
theorem qUK {b : List Int} {i : Int} (h : Int) (hc : CI b i) : ∃ i' h' s, qQC.f (l1Cur.mk b i h) = some (l1Cur.mk b i' h', s) ∧ CI b i' ∧ s.Cols.length ≤ 3 ∧ 1 ≤ s.Cols.length ∧ ∀ x ∈ s.Cols, 1 ≤ x ∧ x ≤ 4 := by
 unfold qQC.f; obtain ⟨ci', h', l', q1, q2, q3, q4, q5, q6, q7⟩ := qmP (l1Cur.mk b i h) 1000 0 i h [] hc rfl (by omega) (by omega) (by simp); exact ⟨_, _, _, q1, q2, q4, q6, q7⟩
theorem qEH {b : List Int} {i : Int} (h : Int) {l : List Int} (hl : l ≠ []) (hc : CI b i) : ∃ i' h' x, qvC.f (l1Cur.mk b i h) l = some (l1Cur.mk b i' h', x) ∧ CI b i' ∧ x ∈ l := by
 unfold qvC.f; obtain ⟨i1, h1, x1, e1, k1, l1, u1, _⟩ := qxB h (lenI l) hc
 have hp : 0 < l.length := by cases l with | nil => exact absurd rfl hl | cons x l => simp
 rw [qF] at u1; have hx := u1 (by omega)
 have hlt : x1.toNat < l.length := by omega
 rw [e1, zoB, qPM l1, zgE hlt, zoB]; exact ⟨_, _, _, rfl, k1, List.getElem_mem hlt⟩
theorem qaV {b : List Int} {i : Int} (h : Int) (hc : CI b i) : ∃ i' h' s, qXF.f (l1Cur.mk b i h) = some (l1Cur.mk b i' h', s) ∧ CI b i' ∧ SB s := by
 unfold qXF.f; obtain ⟨i1, h1, s, e1, k1, s1, s2, s3⟩ := qUK h hc; obtain ⟨i2, h2, x2, e2, k2, _⟩ := qxB h1 12 k1; rw [e1, zoB]; dsimp only; rw [e2, zoB]; dsimp only
 by_cases c0 : x2 = 0
 ·
  rw [zdT c0, zcT, zoB, qWC (by simp only [zlC, zlN]; omega), zoB]; refine ⟨_, _, _, rfl, k2, by simp; omega, fun x hx => ?_⟩
  rcases List.mem_append.1 hx with hx | hx
  · have := s3 x hx; omega
  simp at hx; omega
 rw [zdF c0, zcF]
 by_cases c1 : x2 = 1
 ·
  obtain ⟨i3, h3, x3, e3, k3, m3⟩ := qEH (l := [0, 5, -1]) h2 (by simp) k2; rw [zdT c1, zcT, zoB, e3, zoB]
  have hg : getO s.Cols 0 = some s.Cols[0] := by rw [qPP, zgE (by omega)]
  rw [hg, zoB, zoB]; refine ⟨_, _, _, rfl, k3, by unfold setI; rw [List.length_set]; omega, fun x hx => ?_⟩
  rcases List.mem_or_eq_of_mem_set hx with hx | rfl
  · have := s3 x hx; omega
  simp at m3; omega
 rw [zdF c1, zcF]
 by_cases c2 : x2 = 2
 ·
  rw [zdT c2, zcT]; exact ⟨_, _, _, rfl, k2, by simp, by simp⟩
 rw [zdF c2, zcF]; exact ⟨_, _, _, rfl, k2, by omega, fun x hx => by have := s3 x hx; omega⟩
theorem qXO (s : Schema) (h : qDF s ≤ 1099511627776) : qEG.f s = some s := by
 have : (s.Cols.length : Int) ≤ 1099511627776 := by unfold qDF qkD at h; exact h
 unfold qEG.f; rw [qWC (by simp only [zlN]; omega), zoB, List.nil_append]
theorem qNC (x y z : Int) : qiC.f x y z = some (decide (y ≤ x ∧ x ≤ z)) := by
 unfold qiC.f; rw [qTE, Bool.decide_and]
theorem qlE (s : Schema) (h : qFE s) : qZC.f s = some (schemaB s) := by
 have hl : s.Cols.length ≤ 9223372036854775807 := h; unfold qZC.f joinK; refine (qOD (f := qZC.l0 s _) (l := s.Cols) (fun _ n => decide (1 ≤ n ∧ n ≤ 4)) (some false) (some (decide (1 ≤ (s.Cols.length : Int) ∧ (s.Cols.length : Int) ≤ 3))) (fun k i x hx => ?_) (fun k i hi => ?_) _ 0 (by omega) (by (try simp only [qF]); omega)).trans ?_
 ·
  have hi := at_lt hx; rw [qZC.l0, qF, zdT (by omega), zcT, qd, hx, zoB, qNC, zoB, qsC, qv (by omega)]
  cases decide (1 ≤ x ∧ x ≤ 4) <;> rfl
 · rw [qZC.l0, qF, zdF (by omega), zcF, qNC, zoB]
 rw [qIE, schemaB]
 cases s.Cols.all fun n => decide (1 ≤ n ∧ n ≤ 4) <;> rfl
theorem qYO (s : Schema) (hb : qFE s) (hz : qDF s ≤ 1099511627776) : qFG.f s = some (if schemaB s = true then (⟨s, 0, List.replicate s.Cols.length []⟩, true) else (noStore, false)) := by
 unfold qFG.f; rw [qlE _ hb, zoB]
 cases hs : schemaB s with
 | false => rfl
 | true =>
  have := qQJ hs; rw [show bo3 true false true = false from rfl, zcF, if_pos rfl, qXO _ hz, zoB, qF, qmf (by omega), zoB, Int.toNat_natCast]
theorem qbF (r : Row) (h : qbD r ≤ 1099511627776) : qBE.f r = some r := by
 have := qha h; unfold qBE.f; rw [qWC (by simp only [zlN]; omega), zoB, List.nil_append]
theorem qmJ (l : List Row) (id : Int) (h : l.length ≤ 9223372036854775807) : qZD.f l id = some (rowAtF l id 0) := by
 have key : ∀ (k i : Nat), i ≤ l.length → l.length < i + k → qZD.l0 l id k i = some (rowAtF (l.drop i) id i) := by
  intro k
  induction k with
  | zero => intro i h h'; omega
  | succ k ih =>
   intro i h h'
   by_cases hi : i < l.length
   ·
    have hx : l[i]? = some l[i] := zgE hi; rw [qZD.l0, qF, zdT (by omega), zcT, qd, hx, zoB, List.drop_eq_getElem_cons hi, rowAtF, qv (by omega)]
    by_cases e : (l[i]).Id = id
    · rw [zdT e, zcT, if_pos e]
    rw [zdF e, zcF, if_neg e]; exact ih (i + 1) (by omega) (by omega)
   rw [qZD.l0, qF, zdF (by omega), zcF, List.drop_eq_nil_of_le (by omega), rowAtF]
 have := key (((lenI l) - 0).toNat + 1) 0 (by omega) (by simp only [qF]; omega); rw [List.drop_zero] at this; exact this
theorem qnP (l : List Row) (id : Int) (h : qUC l ≤ 1099511627776) : qzC.f l id = some (rowDropF l id) := by
 unfold qUC at h; have p := qUE qeE l; unfold qzC.f; rw [qmJ _ _ (by omega), zoB, qtW]; generalize hd : l.findIdx (isId id) = d
 have key : ∀ (k i : Nat), i ≤ l.length → l.length < i + k → qzC.l0 l (idxI (isId id) l) k ((l.take i).eraseIdx d) i = some (rowDropF l id) := by
  intro k
  induction k with
  | zero => intro i h h'; omega
  | succ k ih =>
   intro i h0 h'
   by_cases hi : i < l.length
   ·
    have hx : l[i]? = some l[i] := zgE hi; have hm := qfJ qeE (List.mem_of_getElem? hx)
    have ht : (l.take i).length = i := by rw [zlT]; omega
    rw [qzC.l0, qF, zdT (by omega), zcT]; have hs := ih (i + 1) (by omega) (by omega); rw [qDG hx] at hs
    by_cases e : d = i
    ·
     have ei : idxI (isId id) l = (i : Int) := by rw [qaT (by omega), hd, e]
     rw [ei] at hs ⊢; rw [zdF (by omega), zcF, qv (by omega)]; rw [e] at hs ⊢; rw [List.eraseIdx_of_length_le (by omega)]; rw [List.eraseIdx_append_of_length_le (by omega), ht] at hs; simpa using hs
    have ei : ¬ (i : Int) = idxI (isId id) l := by
     unfold idxI; split <;> omega
    rw [zdT ei, zcT, qd, hx, zoB, qbF _ (by omega), zoB, zoB, qWC (by
     have : ((l.take i).eraseIdx d).length ≤ i := by rw [List.length_eraseIdx]; split <;> omega
     simp only [zlC, zlN]; omega), zoB, qv (by omega)]
    by_cases e2 : d < i
    ·
     rw [List.eraseIdx_append_of_lt_length (by omega)] at hs; exact hs
    rw [List.eraseIdx_of_length_le (by simp; omega)] at hs; rw [List.eraseIdx_of_length_le (by omega)]; exact hs
   rw [qzC.l0, qF, zdF (by omega), zcF, List.take_of_length_le (by omega), ← hd]; rfl
 have := key (((lenI l) - 0).toNat + 1) 0 (by omega) (by simp only [qF]; omega); rw [List.take_zero, List.eraseIdx_nil] at this; exact this
theorem qAR (r : Row) (l : List Row) (K : Int → Option (List Row)) (hl : l.length < 9223372036854775807) : ∀ (k i : Nat) (at_ : Int), i ≤ l.length → i < k → qUD.l0 r l K k at_ ((i : Int) - 1) = K (if (l.take i).findIdx (isGt r.Id) < i then ((l.take i).findIdx (isGt r.Id) : Int) else at_) := by
 intro k
 induction k with
 | zero => intro i at_ h h'; omega
 | succ k ih =>
  intro i at_ h h'
  cases i with
  | zero => rw [qUD.l0, zdF (by omega), zcF, if_neg (by omega)]
  | succ i =>
   have hx : l[i]? = some l[i] := zgE (by omega)
   have e1 : ((i + 1 : Nat) : Int) - 1 = (i : Int) := by omega
   rw [qUD.l0, e1, zdT (by omega), zcT, qd, hx, zoB, qfB (by omega), ih i _ (by omega) (by omega), ih i _ (by omega) (by omega), qWV _ _ hx]
   by_cases c : (l.take i).findIdx (isGt r.Id) < i
   ·
    simp only [if_pos c]; rw [if_pos (by omega)]
    cases decide (r.Id < l[i].Id) <;> rfl
   simp only [if_neg c]; rw [isGt]
   cases hc : decide (r.Id < l[i].Id)
   · simp
   simp
theorem qBR (l : List Row) (r : Row) (h : qUC l ≤ 1099511627776) (hr : qbD r ≤ 1099511627776) : qUD.f l r = some (rowPutF l r) := by
 have hz := qtY l r.Id; have hdl := qZP l r.Id; have h' := h; unfold qUC at h'; have p := qUE qeE l
 have cut : ∀ (y : Nat), y ≤ (rowDropF l r.Id).length → ((cutO (rowDropF l r.Id) 0 (y : Int)).bind fun l17 => (appO 32 [] l17).bind fun l18 => (qBE.f r).bind fun r19 => (some [r19]).bind fun l20 => (appO 32 l18 l20).bind fun l21 => (cutO (rowDropF l r.Id) (y : Int) (lenI (rowDropF l r.Id))).bind fun l22 => (appO 32 l21 l22).bind fun l23 => some l23) = some ((rowDropF l r.Id).take y ++ [r] ++ (rowDropF l r.Id).drop y) := by
  intro y hy; rw [qQP ⟨by omega, by omega, by omega⟩, zoB, qWC (by simp; omega), zoB, qbF _ hr, zoB, zoB, qWC (by simp; omega), zoB, qF, qQP ⟨by omega, by omega, by omega⟩, zoB, qWC (by simp; omega), zoB]; simp
 unfold qUD.f; rw [qnP _ _ h, zoB]; simp only [joinK]; rw [qmJ _ _ (by omega), zoB, qtW]; unfold rowPutF
 by_cases c : l.findIdx (isId r.Id) < l.length
 ·
  rw [if_pos c, qaT c, zdT (by omega), zcT, zoB]; rw [cut _ (by unfold rowDropF; rw [List.length_eraseIdx]; split <;> omega)]; rw [List.set_eq_take_append_cons_drop, if_pos c]; unfold rowDropF; rw [List.eraseIdx_eq_take_drop_succ]
  have hl : (l.take (l.findIdx (isId r.Id))).length = l.findIdx (isId r.Id) := by rw [zlT]; omega
  rw [List.take_left' hl, List.drop_left' hl]; simp
 have hd : rowDropF l r.Id = l := by unfold rowDropF; exact List.eraseIdx_of_length_le (by omega)
 rw [hd] at cut; rw [if_neg c, qxc c, zdF (by omega), zcF, hd, qF, qfB (by omega), qAR r l _ (by omega) _ _ _ (Nat.le_refl _) (by omega), List.take_length]; have hle := List.findIdx_le_length (xs := l) (p := isGt r.Id)
 split
 ·
  rw [qF] at cut; exact cut _ hle
 rename_i hn
 rw [qF] at cut
 have e : l.findIdx (isGt r.Id) = l.length := by omega
 rw [e]; exact cut _ (Nat.le_refl _)
theorem qbV (a : l1Cur) (n : Int) (hn : n ≤ 5) (id : Int) : ∀ (k i : Nat) (ci h : Int) (l : List Int), CI a.b ci → l.length = i → (i : Int) ≤ n ∨ i = 0 → 0 < k → n < i + k → (∀ x ∈ l, 0 ≤ x ∧ x ≤ 5) →
  ∃ ci' h' l', qpC.l0 a n k ci h id l i = some (l1Cur.mk a.b ci' h', Row.mk id l') ∧ CI a.b ci' ∧ ((l'.length : Int) = n ∨ n < 0 ∧ l'.length = 0) ∧ ∀ x ∈ l', 0 ≤ x ∧ x ≤ 5 := by
 intro k
 induction k with
 | zero => intro i ci h l hc hl h0 h1 h2; omega
 | succ k ih =>
  intro i ci h l hc hl h0 h1 h2 hx; rw [qpC.l0]
  by_cases c : (i : Int) < n
  ·
   obtain ⟨c2, h2', x2, e2, k2, l2, u2, _⟩ := qxB h 6 hc; have hx4 := u2 (by omega); rw [zdT c, zcT, e2, zoB]; dsimp only; rw [zoB, qWC (by simp only [zlC, zlN]; omega), zoB, qv (by omega)]; exact ih (i + 1) c2 h2' (l ++ [x2]) k2 (by simp [hl]) (by omega) (by omega) (by omega) (qEL hx (by omega))
  rw [zdF c, zcF]; exact ⟨_, _, _, rfl, hc, by omega, hx⟩
theorem qSO {b : List Int} {i : Int} (h n : Int) (hn : n ≤ 5) (hc : CI b i) : ∃ i' h' r, qpC.f (l1Cur.mk b i h) n = some (l1Cur.mk b i' h', r) ∧ CI b i' ∧ 1 ≤ r.Id ∧ r.Id ≤ 12 ∧ ((r.Cells.length : Int) = n ∨ n < 0 ∧ r.Cells.length = 0) ∧ ∀ x ∈ r.Cells, 0 ≤ x ∧ x ≤ 5 := by
 unfold qpC.f; obtain ⟨i1, h1, x1, e1, k1, l1, u1, _⟩ := qxB h 12 hc; have := u1 (by omega); rw [e1, zoB]; dsimp only; rw [qfB (by omega)]; obtain ⟨ci', h', l', q1, q2, q3, q4⟩ := qbV (l1Cur.mk b i h) n hn (1 + x1) ((n - 0).toNat + 1) 0 i1 h1 [] k1 rfl (by omega) (by omega) (by omega) (by simp); exact ⟨_, _, _, q1, q2, by dsimp only; omega, by dsimp only; omega, q3, q4⟩
def UpR (l : List Row) : Prop := l.Pairwise fun a b => a.Id < b.Id
theorem qpa {l : List Row} : UpR l ↔ (l.map Row.Id).Pairwise (· < ·) := by
 unfold UpR; rw [List.pairwise_map]
theorem qqa {l : List Row} {i : Nat} {x : Row} (p : Row → Bool) (hx : l[i]? = some x) (h : p x = true) : l.findIdx p ≤ i := by
 rcases Nat.lt_or_ge i (l.findIdx p) with hlt | hge
 ·
  have := List.not_of_lt_findIdx hlt; have e := (List.getElem?_eq_some_iff.1 hx).2; rw [e, h] at this
  cases this
 exact hge
theorem quf {l : List Row} (h : UpR l) (r : Row) : UpR (rowPutF l r) := by
 unfold rowPutF
 split
 ·
  rename_i hi
  rw [qpa, List.map_set]; have e := qPO hi; generalize l.findIdx (isId r.Id) = k at hi e
  have hl : k < (l.map Row.Id).length := by rw [List.length_map]; exact hi
  have e2 : (l.map Row.Id)[k] = r.Id := by rw [List.getElem_map]; exact e
  rw [← e2, List.set_getElem_self]; exact qpa.1 h
 rename_i hi
 have hle := List.findIdx_le_length (xs := l) (p := isGt r.Id)
 have hne : ∀ x ∈ l, x.Id ≠ r.Id := fun x hx e => by
  obtain ⟨i, hi'⟩ := List.getElem?_of_mem hx; have := qqa (isId r.Id) hi' (by unfold isId; exact zdT e); have := at_lt hi'; omega
 have h1 : ∀ x ∈ l.take (l.findIdx (isGt r.Id)), x.Id < r.Id := fun x hx => by
  obtain ⟨i, hi'⟩ := List.getElem?_of_mem hx; rw [List.getElem?_take] at hi'
  split at hi'
  ·
   rename_i hlt
   have := List.not_of_lt_findIdx hlt; rw [(List.getElem?_eq_some_iff.1 hi').2] at this; have := of_decide_eq_false this; have := hne x (List.mem_of_getElem? hi'); omega
  cases hi'
 have h2 : ∀ x ∈ l.drop (l.findIdx (isGt r.Id)), r.Id < x.Id := fun x hx => by
  obtain ⟨i, hi'⟩ := List.getElem?_of_mem hx; rw [List.getElem?_drop] at hi'; have hlt := at_lt hi'
  have hk : l.findIdx (isGt r.Id) < l.length := by omega
  have hg : r.Id < (l[l.findIdx (isGt r.Id)]).Id := of_decide_eq_true (List.findIdx_getElem (w := hk))
  rcases Nat.eq_zero_or_pos i with rfl | hp
  ·
   have e := (List.getElem?_eq_some_iff.1 hi').2; rw [← e]; simpa using hg
  have := List.pairwise_iff_getElem.1 h (l.findIdx (isGt r.Id)) (l.findIdx (isGt r.Id) + i) hk hlt (by omega); rw [(List.getElem?_eq_some_iff.1 hi').2] at this; omega
 unfold UpR at *; rw [List.append_assoc, List.pairwise_append, List.pairwise_append]; refine ⟨h.sublist (List.take_sublist _ _), ⟨List.pairwise_singleton _ _, h.sublist (List.drop_sublist _ _), fun a ha b hb => ?_⟩, fun a ha b hb => ?_⟩
 · rw [List.mem_singleton.1 ha]; exact h2 b hb
 rcases List.mem_append.1 hb with hb | hb
 · rw [List.mem_singleton.1 hb]; exact h1 a ha
 have := h1 a ha; have := h2 b hb; omega
def DRw (n : Int) (r : Row) : Prop := 1 ≤ r.Id ∧ r.Id ≤ 12 ∧ (r.Cells.length : Int) = n ∧ ∀ x ∈ r.Cells, 0 ≤ x ∧ x ≤ 5
def DRs (n : Int) (l : List Row) : Prop := UpR l ∧ ∀ r ∈ l, DRw n r
theorem DRs.put {n : Int} {l : List Row} (h : DRs n l) {r : Row} (hr : DRw n r) : DRs n (rowPutF l r) := ⟨quf h.1 r, fun x hx => by
 rcases qvY hx with rfl | hx
 · exact hr
 exact h.2 x hx⟩
theorem DRs.sz {n : Int} {l : List Row} (hn : n ≤ 5) (h : DRs n l) {k : Nat} (hk : l.length ≤ k) : qUC l ≤ k * 6 := by
 have := qtX (s := qbD) (B := 5) (l := l) fun x hx => by
  have := (h.2 x hx).2.2.1; unfold qbD qkD; omega
 unfold qUC; omega
theorem DRw.sz {n : Int} {r : Row} (hn : n ≤ 5) (h : DRw n r) : qbD r ≤ 5 := by
 have := h.2.2.1; unfold qbD qkD; omega
theorem qgT (a : l1Cur) (n : Int) (hn : 0 ≤ n ∧ n ≤ 5) : ∀ (k i : Nat) (ci h : Int) (l : List Row), CI a.b ci → l.length ≤ i → i ≤ 8 → 9 ≤ i + k → DRs n l →
  ∃ ci' h' l', qmC.l0 a n k ci h l i = some (l1Cur.mk a.b ci' h', l') ∧ CI a.b ci' ∧ l'.length ≤ 8 ∧ DRs n l' := by
 intro k
 induction k with
 | zero => intro i ci h l hc hl h1 h2; omega
 | succ k ih =>
  intro i ci h l hc hl h1 h2 hd; obtain ⟨c1, h1', x1, e1, k1, l1, u1, _⟩ := qxB h 9 hc; have hx3 := u1 (by omega); rw [qmC.l0, e1, zoB]; dsimp only
  by_cases c : (i : Int) < x1
  ·
   obtain ⟨c2, h2', r, e2, k2, r1, r2, r3, r4⟩ := qSO h1' n hn.2 k1
   have hr : DRw n r := ⟨r1, r2, by omega, r4⟩
   have := hd.sz hn.2 (k := 8) (by omega); have := hr.sz hn.2; rw [zdT c, zcT, e2, zoB]; dsimp only; rw [qBR _ _ (by omega) (by omega), zoB, qv (by omega)]; have := quY l r; exact ih (i + 1) c2 h2' _ k2 (by omega) (by omega) (by omega) (hd.put hr)
  rw [zdF c, zcF]; exact ⟨_, _, _, rfl, k1, by omega, hd⟩
theorem qhT {b : List Int} {i : Int} (h n : Int) (hn : 0 ≤ n ∧ n ≤ 5) (hc : CI b i) : ∃ i' h' l, qmC.f (l1Cur.mk b i h) n = some (l1Cur.mk b i' h', l) ∧ CI b i' ∧ l.length ≤ 8 ∧ DRs n l := by
 unfold qmC.f; exact qgT (l1Cur.mk b i h) n hn 1000 0 i h [] hc (by simp) (by omega) (by omega) ⟨List.Pairwise.nil, by simp⟩
theorem qAd {s : Schema} {t : Int} {l : List Row} (hs : schemaB s = true) (ht : 0 ≤ t ∧ t ≤ (s.Cols.length : Int) - 1) (hl : l.length ≤ 24) (hu : UpR l) (hr : ∀ r ∈ l, rowB s t r = true) : rowsB s t l = true := by
 unfold rowsB; rw [hs, zdT ht, zdT hl]; simp only [Bool.and_true]; rw [qbE]; intro i x hx; rw [hr x (List.mem_of_getElem? hx), Bool.true_and, Bool.not_eq_true', ← Bool.not_eq_true]; intro h; simp only [Bool.and_eq_true, decide_eq_true_eq] at h; obtain ⟨h0, h1⟩ := h; have hlt := at_lt hx; have := List.pairwise_iff_getElem.1 hu (i - 1) i (by omega) hlt (by omega); rw [(List.getElem?_eq_some_iff.1 hx).2] at this
 rw [zgD, zgE (by omega), Option.getD_some] at h1; omega
theorem DRw.rowB {s : Schema} {t : Nat} {r : Row} (hs : schemaB s = true) (ht : t < s.Cols.length) (h : DRw (s.Cols.getD t 0) r) : rowB s t r = true := by
 unfold Go.Proofs.YtbhleignjmcdiaaGreatDoor.L.rowB; rw [hs, zdT (by omega), zdT (by have := h.1; have := h.2.1; omega), zdT (by rw [Int.toNat_natCast]; exact h.2.2.1)]; simp only [Bool.true_and]; rw [List.all_eq_true]; intro x hx; exact zdT (by have := h.2.2.2 x hx; omega)
structure DSt (s : Store) : Prop where
 ok : storeB s = true
 v : 0 ≤ s.Version ∧ s.Version ≤ 4
 rows : ∀ t rows, s.Tables[t]? = some rows → rows.length ≤ 8 ∧ DRs (s.Schema.Cols.getD t 0) rows
theorem qra {s : Schema} (h : schemaB s = true) : SB s := by
 unfold schemaB at h; rw [Bool.and_eq_true, List.all_eq_true, decide_eq_true_eq] at h; exact ⟨by omega, fun x hx => by have := of_decide_eq_true (h.1 x hx); omega⟩
theorem DSt.SB {s : Store} (h : DSt s) : SB s.Schema := qra (qKE h.ok).2
theorem qCR (a : l1Cur) (s : Schema) (v : Int) (ts : List (List Row)) (ok : Bool) (hs : schemaB s = true) : ∀ (k i : Nat) (ci h : Int) (l : List (List Row)), CI a.b ci → l.length = s.Cols.length → i ≤ l.length → l.length < i + k → (∀ t rows, t < i → l[t]? = some rows → rows.length ≤ 8 ∧ DRs (s.Cols.getD t 0) rows) →
  ∃ ci' h' l', (∀ K, qRC.l0 a (⟨s, v, ts⟩, ok) K k ci h l i = K ci' h' l') ∧ CI a.b ci' ∧ l'.length = s.Cols.length ∧ ∀ t rows, l'[t]? = some rows → rows.length ≤ 8 ∧ DRs (s.Cols.getD t 0) rows := by
 intro k
 induction k with
 | zero => intro i ci h l hc hl h1 h2; omega
 | succ k ih =>
  intro i ci h l hc hl h1 h2 hd; have h3 := qQJ hs
  by_cases c : i < l.length
  ·
   have hi : i < s.Cols.length := by omega
   have hcol : 1 ≤ s.Cols[i] ∧ s.Cols[i] ≤ 4 := by
    unfold schemaB at hs; rw [Bool.and_eq_true, List.all_eq_true] at hs; exact of_decide_eq_true (hs.1 _ (List.getElem_mem hi))
   have hg : s.Cols.getD i 0 = s.Cols[i] := by rw [zgD, zgE hi]; rfl
   obtain ⟨c1, h1', rows, e1, k1, r1, r2⟩ := qhT h s.Cols[i] (by omega) hc
   obtain ⟨ci', h', l', q1, q2, q3, q4⟩ := ih (i + 1) c1 h1' (l.set i rows) k1 (by rw [List.length_set]; exact hl) (by rw [List.length_set]; omega) (by rw [List.length_set]; omega) (fun t q ht hq => by
    by_cases e : t = i
    ·
     subst e; rw [List.getElem?_set_self (by omega)] at hq
     cases hq
     rw [hg]; exact ⟨r1, r2⟩
    rw [List.getElem?_set_ne (fun e' => e e'.symm)] at hq
    exact hd t q (by omega) hq)
   refine ⟨ci', h', l', fun K => ?_, q2, q3, q4⟩; rw [qRC.l0, qF, zdT (by omega), zcT]; dsimp only; rw [qd, zgE hi, zoB, e1, zoB, qd, zgE c, zoB, zoB, qoO, qv (by omega)]; exact q1 K
  refine ⟨ci, h, l, fun K => ?_, hc, hl, fun t rows hq => hd t rows (by have := at_lt hq; omega) hq⟩; rw [qRC.l0, qF, zdF (by omega), zcF]
theorem qQL {b : List Int} {i : Int} (h : Int) (hc : CI b i) : ∃ i' h' s, qRC.f (l1Cur.mk b i h) = some (l1Cur.mk b i' h', s) ∧ CI b i' ∧ DSt s := by
 unfold qRC.f; obtain ⟨c1, h1, s, e1, k1, l1, l2, l3⟩ := qUK h hc
 have hs : schemaB s = true := by
  unfold schemaB; rw [zdT (by omega), Bool.and_true, List.all_eq_true]; exact fun x hx => zdT (l3 x hx)
 rw [e1, zoB]; dsimp only; rw [qYO s (by unfold qFE IntS_b; omega) (by unfold qDF qkD; omega), if_pos hs, zoB, qCD]; dsimp only; obtain ⟨c2, h2, l, e2, k2, m1, m2⟩ := qCR (l1Cur.mk b i h) s 0 (List.replicate s.Cols.length []) true hs (((lenI (List.replicate s.Cols.length ([] : List Row))) - 0).toNat + 1) 0 c1 h1 (List.replicate s.Cols.length []) k1 (by simp) (by omega) (by rw [qF]; simp) (fun t rows ht => by omega)
 rw [show ((0 : Nat) : Int) = 0 from rfl] at e2; rw [e2]; obtain ⟨c3, h3, x3, e3, k3, l3', u3, _⟩ := qxB h2 5 k2; have := u3 (by omega); dsimp only at e3 ⊢; rw [e3, zoB]; refine ⟨_, _, _, rfl, k3, ?_, ⟨l3', by dsimp only; omega⟩, m2⟩; unfold storeB; dsimp only; rw [hs, zdT (by omega), zdT m1]; simp only [Bool.true_and]; rw [qbE]; intro t rows ht; obtain ⟨p1, p2⟩ := m2 t rows ht; have hlt := at_lt ht
 exact qAd hs (by omega) (by omega) p2.1 fun r hr => (p2.2 r hr).rowB hs (by omega)
structure DSx (s : Store) : Prop where
 sb : SB s.Schema
 sz : qnG s ≤ 2100
 v : (0 ≤ s.Version ∧ s.Version ≤ 4) ∨ s.Version = -1 ∨ s.Version = 100000 ∨ s.Version = 100001
theorem DSx.b {s : Store} (h : DSx s) : qvH s := qbP (by have := h.sz; omega)
theorem qme (l : List (List Row)) (n : Nat) : qiJ (l.drop n) ≤ qiJ l := by
 have h := qXM qUC l n; have p := qUE qGG (l.take n); unfold qiJ; rw [List.length_drop]; omega
theorem qsa {b : List Int} {i : Int} (h : Int) (hc : CI b i) : ∃ i' h' s, qrH.f (l1Cur.mk b i h) = some (l1Cur.mk b i' h', s) ∧ CI b i' ∧ DSx s := by
 unfold qrH.f; obtain ⟨c1, h1, s, e1, k1, d1⟩ := qQL h hc; obtain ⟨s1, s2⟩ := qcP d1.ok; have hlen := (qKE d1.ok).1
 have hpos : 0 < s.Tables.length := by
  have := (qKE d1.ok).2; unfold schemaB at this; rw [Bool.and_eq_true, decide_eq_true_eq] at this; omega
 rw [qGB e1]; dsimp only; obtain ⟨c2, h2, x2, e2, k2, _⟩ := qxB h1 25 k1; rw [qGB e2]; dsimp only
 by_cases q0 : x2 = 0
 ·
  obtain ⟨c3, h3, x3, e3, k3, m3⟩ := qEH (l := [-1, 100000, 100001]) h2 (by simp) k2; rw [zdT q0, zcT, zoB, qGB e3]; simp only [List.mem_cons, List.not_mem_nil, or_false] at m3; exact ⟨_, _, _, rfl, k3, d1.SB, by unfold qnG at *; dsimp only; omega, .inr m3⟩
 rw [zdF q0, zcF]
 by_cases q1 : x2 = 1
 ·
  have := qme s.Tables 1; rw [zdT q1, zcT, qF, qQP ⟨by omega, by omega, by omega⟩, zoB, show (s.Tables.take ((s.Tables.length : Int)).toNat).drop (1 : Int).toNat = s.Tables.drop 1 by rw [Int.toNat_natCast, List.take_length]; rfl]; exact ⟨_, _, _, rfl, k2, d1.SB, by unfold qnG at *; dsimp only; omega, .inl d1.v⟩
 rw [zdF q1, zcF]
 by_cases q2 : x2 = 2
 ·
  obtain ⟨c3, h3, r, e3, k3, _, _, r3, _⟩ := qSO h2 2 (by omega) k2
  have hz : qUC (s.Tables[0] ++ [r]) ≤ qUC s.Tables[0] + 3 := by
   unfold qUC; rw [sum_append]; simp only [zlA, zlC, zlN, List.map_cons, List.map_nil, List.sum_cons, List.sum_nil]; unfold qbD qkD; omega
  have hr0 := (d1.rows 0 _ (zgE hpos)).1; have hm := qfJ qGG (List.getElem_mem hpos); have hset := quW qGG (s.Tables[0] ++ [r]) s.Tables 0; rw [zdT q2, zcT, show (0 : Int) = ((0 : Nat) : Int) from rfl, qd, zgE hpos, zoB, qGB e3]; dsimp only; rw [zoB, qWC (by simp only [zlC, zlN]; omega), zoB, zoB, qoO]; refine ⟨_, _, _, rfl, k3, d1.SB, ?_, .inl d1.v⟩; unfold qnG qiJ at *; dsimp only; rw [List.length_set]
  have n0 := qGG s.Tables[0]; have n1 := qqL s.Schema; omega
 rw [zdF q2, zcF]
 by_cases q3 : x2 = 3
 ·
  obtain ⟨c3, h3, s', e3, k3, b3⟩ := qaV h2 k2; rw [zdT q3, zcT, qGB e3]; refine ⟨_, _, _, rfl, k3, b3, ?_, .inl d1.v⟩; have := b3.1; have := qqL s.Schema; unfold qnG at *; unfold qDF qkD at *; dsimp only; omega
 rw [zdF q3, zcF]; exact ⟨_, _, _, rfl, k2, d1.SB, by omega, .inl d1.v⟩
theorem qaM {b : List Int} {i : Int} (h n : Int) (hc : CI b i) : ∃ i' h' x, qHD.f (l1Cur.mk b i h) n = some (l1Cur.mk b i' h', x) ∧ CI b i' := by
 unfold qHD.f; obtain ⟨i1, h1, x1, e1, k1, _⟩ := qxB h n hc; rw [e1, zoB]; exact ⟨_, _, _, rfl, k1⟩
theorem qZH (x y : Int) : qaD.f x y = some (max x y) := by
 unfold qaD.f
 by_cases h : y < x
 · rw [zdT h, zcT, show max x y = x by omega]
 rw [zdF h, zcF, show max x y = y by omega]
def QB (q : Query) : Prop := q.Where.length ≤ 4 ∧ q.Show.length ≤ 6 ∧ ∀ x ∈ q.Show, 0 ≤ x ∧ x ≤ 5
def Qr3 (q : Query) : Prop := q.Where.length ≤ 3 ∧ q.Show.length ≤ 5 ∧ ∀ x ∈ q.Show, 0 ≤ x ∧ x ≤ 5
theorem Qr3.qb {q : Query} (h : Qr3 q) : QB q := ⟨by have := h.1; omega, by have := h.2.1; omega, h.2.2⟩
theorem QB.b {q : Query} (h : QB q) : qWF q := by
 have h1 := h.1; have h2 := h.2.1; exact ⟨by unfold qWG; omega, by unfold IntS_b; omega⟩
def QNo (s : Schema) (t : Int) (w : List Cond) (o f : Int) (d : Bool) (l : List Int) : Prop := (0 ≤ t ∧ t ≤ (s.Cols.length : Int) - 1) ∧ (∀ c ∈ w, condB (s.Cols.getD t.toNat 0) c = true) ∧ showB (s.Cols.getD t.toNat 0) l = true ∧ w.length ≤ 3 ∧ (0 ≤ o ∧ o ≤ s.Cols.getD t.toNat 0) ∧ (d = true → 0 < o) ∧ (0 ≤ f ∧ f ≤ 24)
theorem QNo.query {s : Schema} {t : Int} {w : List Cond} {o f : Int} {d : Bool} {l : List Int} (hs : schemaB s = true) (h : QNo s t w o f d l) {k : Bool} {kt kc : Int} (hk : kidsB s ⟨t, w, o, d, f, l, k, kt, kc⟩ = true) : queryB s ⟨t, w, o, d, f, l, k, kt, kc⟩ = true := by
 obtain ⟨h1, h2, h3, h4, h5, h6, h7⟩ := h; unfold queryB; dsimp only; rw [hs, hk, h3, zdT h1, zdT h4, zdT h5, zdT h7, List.all_eq_true.2 h2]
 cases d with
 | false => rfl
 | true => rw [zdT (h6 rfl)]; rfl
theorem qne {y : Int} (hy : y ≤ 5) {l : List Int} (hp : l.Pairwise (· < ·)) (h : ∀ x ∈ l, 0 ≤ x ∧ x < y) : showB y l = true := by
 unfold showB; rw [qbE]; intro i x hx; have hi := at_lt hx; have h1 := h x (List.mem_of_getElem? hx); rw [qfB (by omega), zdT (by omega), Bool.true_and]
 by_cases c : 0 < i
 ·
  have := List.pairwise_iff_getElem.1 hp (i - 1) i (by omega) hi (by omega); rw [(List.getElem?_eq_some_iff.1 hx).2] at this; rw [zgD, zgE (by omega), Option.getD_some, zdF (p := x ≤ _) (by omega)]; simp
 rw [zdF c]; rfl
theorem qDR (a : l1Cur) (y : Int) (hy : 1 ≤ y ∧ y ≤ 5) : ∀ (k i : Nat) (ci h : Int) (l : List Cond), CI a.b ci → l.length = i → i ≤ 2 → 3 ≤ i + k → (∀ c ∈ l, condB y c = true) →
  ∃ ci' h' l', (∀ K, qAB.l0 a y K k ci h l i = K ci' h' l') ∧ CI a.b ci' ∧ l'.length ≤ 3 ∧ ∀ c ∈ l', condB y c = true := by
 intro k
 induction k with
 | zero => intro i ci h l hc hl h1 h2 hx; omega
 | succ k ih =>
  intro i ci h l hc hl h1 h2 hx; obtain ⟨c1, h1', x1, e1, k1, l1, u1, _⟩ := qxB h 3 hc; have hx3 := u1 (by omega)
  by_cases c : (i : Int) < x1
  ·
   obtain ⟨c2, h2', x2, e2, k2, l2, u2, _⟩ := qxB h1' y k1; obtain ⟨c3, h3', x3, e3, k3, l3, u3, _⟩ := qxB h2' 4 k2; obtain ⟨c4, h4', x4, e4, k4, l4, u4, _⟩ := qxB h3' 6 k3
   obtain ⟨ci', h', l', q1, q2, q3⟩ := ih (i + 1) c4 h4' (l ++ [Cond.mk x2 (w64 (1 + x3)) x4]) k4 (by simp [hl]) (by omega) (by omega) (qEL hx (by
    have := u2 (by omega); have := u3 (by omega); have := u4 (by omega); unfold condB; dsimp only; rw [qfB (x := 1 + x3) (by omega), qfB (x := y - 1) (by omega), zdT (by omega), zdT (by omega), zdT (by omega)]
    rfl))
   refine ⟨ci', h', l', fun K => ?_, q2, q3⟩; rw [qAB.l0, e1, zoB]; dsimp only; rw [zdT c, zcT, e2, zoB]; dsimp only; rw [e3, zoB]; dsimp only; rw [e4, zoB]; dsimp only; rw [zoB, qWC (by simp only [zlC, zlN]; omega), zoB, qv (by omega)]; exact q1 K
  refine ⟨c1, h1', l, fun K => ?_, k1, by omega, hx⟩; rw [qAB.l0, e1, zoB]; dsimp only; rw [zdF c, zcF]
theorem qER (a : l1Cur) (y : Int) (hy : y ≤ 5) (d : Bool) : ∀ (k i : Nat) (ci h : Int) (l : List Int), CI a.b ci → l.length ≤ i → (i : Int) ≤ y ∨ i = 0 → 0 < k → y < i + k → (l.Pairwise (· < ·) ∧ ∀ x ∈ l, 0 ≤ x ∧ x < (i : Int)) → 1 ≤ y →
  ∃ ci' h' l', (∀ K, qAB.l1 a y K k ci h d l i = K ci' h' d l') ∧ CI a.b ci' ∧ l'.length ≤ 5 ∧ l'.Pairwise (· < ·) ∧ ∀ x ∈ l', 0 ≤ x ∧ x < y := by
 intro k
 induction k with
 | zero => intro i ci h l hc hl h0 h1 h2 hx hy1; omega
 | succ k ih =>
  intro i ci h l hc hl h0 h1 h2 hx hy1
  by_cases c : (i : Int) < y
  ·
   obtain ⟨c2, h2', x2, e2, k2⟩ := qaM h 2 hc
   cases x2 with
   | true =>
    obtain ⟨ci', h', l', q1, q2, q3⟩ := ih (i + 1) c2 h2' (l ++ [(i : Int)]) k2 (by simp only [zlA, zlC, zlN]; omega) (by omega) (by omega) (by omega) ⟨List.pairwise_append.2 ⟨hx.1, List.pairwise_singleton .., fun a ha b hb => by rw [List.mem_singleton.1 hb]; exact (hx.2 a ha).2⟩, qEL (fun x h => by have := hx.2 x h; omega) (by omega)⟩ hy1; refine ⟨ci', h', l', fun K => ?_, q2, q3⟩; rw [qAB.l1, zdT c, zcT, e2, zoB, qv (by omega)]
    dsimp only; rw [zcT, zoB, qWC (by simp only [zlC, zlN]; omega), zoB]; exact q1 K
   | false =>
    obtain ⟨ci', h', l', q1, q2, q3⟩ := ih (i + 1) c2 h2' l k2 (by omega) (by omega) (by omega) (by omega) ⟨hx.1, fun x h => by have := hx.2 x h; omega⟩ hy1; refine ⟨ci', h', l', fun K => ?_, q2, q3⟩; rw [qAB.l1, zdT c, zcT, e2, zoB, qv (by omega)]; dsimp only; rw [zcF]; exact q1 K
  refine ⟨ci, h, l, fun K => ?_, hc, by omega, hx.1, fun x h => by have := hx.2 x h; omega⟩; rw [qAB.l1, zdF c, zcF]
theorem qoP (a : l1Cur) (s : Schema) (q1 : Int) (w : List Cond) (o f : Int) (hs : SB s) (hw : w.length ≤ 3) : ∀ (ci h : Int) (d : Bool) (l : List Int), CI a.b ci → l.length ≤ 5 → (∀ x ∈ l, 0 ≤ x ∧ x ≤ 5) → (schemaB s = true → QNo s q1 w o f d l) →
  ∃ ci' h' q, ((qHD.f (l1Cur.mk a.b ci h) 2).bind fun r130 =>
   bif r130.2 then (
   (qaD.f (lenI s.Cols) 1).bind fun r132 =>
   (ql.f (l1Cur.mk a.b r130.1.i r130.1.h) r132).bind fun r133 =>
   bif (decide (r133.2 < (lenI s.Cols))) then (
   (getO s.Cols r133.2).bind fun x135 =>
   (qaD.f x135 1).bind fun r136 =>
   (ql.f (l1Cur.mk a.b r133.1.i r133.1.h) r136).bind fun r137 =>
   some ((l1Cur.mk a.b r137.1.i r137.1.h), (Query.mk q1 w o d f l true r133.2 r137.2)))
   else (
   some ((l1Cur.mk a.b r133.1.i r133.1.h), (Query.mk q1 w o d f l true r133.2 0))))
   else (
   some ((l1Cur.mk a.b r130.1.i r130.1.h), (Query.mk q1 w o d f l false 0 0)))) = some (l1Cur.mk a.b ci' h', q) ∧ CI a.b ci' ∧ Qr3 q ∧ (schemaB s = true → queryB s q = true) := by
 intro ci h d l hc hl hx hN; obtain ⟨c2, h2, x2, e2, k2⟩ := qaM h 2 hc; rw [e2, zoB]; dsimp only
 cases x2 with
 | false => rw [zcF]; exact ⟨_, _, _, rfl, k2, by dsimp only [Qr3]; exact ⟨by omega, by omega, hx⟩, fun h => (hN h).query h (by unfold kidsB; simp)⟩
 | true =>
  rw [zcT, qZH, zoB]; obtain ⟨c3, h3, x3, e3, k3, l3, u3, _⟩ := qxB h2 (max (lenI s.Cols) 1) k2; rw [e3, zoB]; dsimp only
  by_cases c : x3 < lenI s.Cols
  ·
   rw [zdT c, zcT, qPM l3, zgE (by rw [qF] at c; omega), zoB, qZH, zoB]
   have hlt : x3.toNat < s.Cols.length := by rw [qF] at c; omega
   obtain ⟨c4, h4, x4, e4, k4, l4, u4, _⟩ := qxB h3 (max (s.Cols[x3.toNat]'(by rw [qF] at c; omega)) 1) k3; rw [e4, zoB]; refine ⟨_, _, _, rfl, k4, by dsimp only [Qr3]; exact ⟨by omega, by omega, hx⟩, fun h => (hN h).query h ?_⟩; rw [qF] at c
   have hc1 : 1 ≤ s.Cols[x3.toNat] ∧ s.Cols[x3.toNat] ≤ 4 := by
    unfold schemaB at h; rw [Bool.and_eq_true, List.all_eq_true] at h; exact of_decide_eq_true (h.1 _ (List.getElem_mem hlt))
   have := u4 (by omega); unfold kidsB; rw [if_pos rfl, Bool.and_eq_true, decide_eq_true_eq, decide_eq_true_eq]; dsimp only; rw [zgD, zgE hlt, Option.getD_some, qfB (by omega)]; omega
  rw [zdF c, zcF]; refine ⟨_, _, _, rfl, k3, by dsimp only [Qr3]; exact ⟨by omega, by omega, hx⟩, fun h => ?_⟩; rw [qF] at c u3; unfold schemaB at h; rw [Bool.and_eq_true, decide_eq_true_eq] at h; have := u3 (by omega); omega
theorem qbM (a : l1Cur) (s : Schema) (hs : SB s) (q1 c0 h0 : Int) (hc : CI a.b c0) (y3 : Int) (hy : 1 ≤ y3 ∧ y3 ≤ 5) (hcol : schemaB s = true → s.Cols.getD q1.toNat 0 = y3 ∧ 0 ≤ q1 ∧ q1 ≤ (s.Cols.length : Int) - 1) : ∃ i' h' q, (joinK (fun (y8 : Int) (y9 : Int) (y10 : List Cond) =>
 (ql.f (l1Cur.mk a.b y8 y9) (w64 (y3 + 1))).bind fun r64 =>
 (gd (decide (0 < r64.2)) (qHD.f (l1Cur.mk a.b r64.1.i r64.1.h) 2)).bind fun r65 =>
 (some [0, 0, 1, 2, 3, 5]).bind fun l70 =>
 (qvC.f (l1Cur.mk a.b (ci3 (decide (0 < r64.2)) r65.1.i r64.1.i) (ci3 (decide (0 < r64.2)) r65.1.h r64.1.h)) l70).bind fun r71 =>
 joinK (fun (y72 : Int) (y73 : Int) (y74 : Bool) (y75 : List Int) =>
 (qHD.f (l1Cur.mk a.b y72 y73) 2).bind fun r130 =>
 bif r130.2 then (
 (qaD.f (lenI s.Cols) 1).bind fun r132 =>
 (ql.f (l1Cur.mk a.b r130.1.i r130.1.h) r132).bind fun r133 =>
 bif (decide (r133.2 < (lenI s.Cols))) then (
 (getO s.Cols r133.2).bind fun x135 =>
 (qaD.f x135 1).bind fun r136 =>
 (ql.f (l1Cur.mk a.b r133.1.i r133.1.h) r136).bind fun r137 =>
 some ((l1Cur.mk a.b r137.1.i r137.1.h), (Query.mk q1 y10 r64.2 y74 r71.2 y75 true r133.2 r137.2)))
 else (
 some ((l1Cur.mk a.b r133.1.i r133.1.h), (Query.mk q1 y10 r64.2 y74 r71.2 y75 true r133.2 0))))
 else (
 some ((l1Cur.mk a.b r130.1.i r130.1.h), (Query.mk q1 y10 r64.2 y74 r71.2 y75 false 0 0)))) (fun K76 =>
 qAB.l1 a y3 K76 ((y3 - 0).toNat + 1) r71.1.i r71.1.h (bo3 (decide (0 < r64.2)) r65.2 false) [] 0)) (fun K11 =>
 qAB.l0 a y3 K11 1000 c0 h0 [] 0)) = some (l1Cur.mk a.b i' h', q) ∧ CI a.b i' ∧ Qr3 q ∧ (schemaB s = true → queryB s q = true) := by
 rw [qCD]; obtain ⟨c1, h1, w, e1, k1, w1, w2⟩ := qDR a y3 hy 1000 0 c0 h0 [] hc rfl (by omega) (by omega) (by simp); rw [show ((0 : Nat) : Int) = 0 from rfl] at e1; rw [e1]; obtain ⟨c2, h2, x2, e2, k2, l2, u2, _⟩ := qxB h1 (w64 (y3 + 1)) k1; rw [qfB (x := y3 + 1) (by omega)] at u2; have u2 := u2 (by omega); rw [e2, zoB]; dsimp only
 have hmid : ∃ c3 h3 d3, (gd (decide (0 < x2)) (qHD.f (l1Cur.mk a.b c2 h2) 2)).bind (fun r65 => some (ci3 (decide (0 < x2)) r65.1.i c2, ci3 (decide (0 < x2)) r65.1.h h2, bo3 (decide (0 < x2)) r65.2 false)) = some (c3, h3, d3) ∧ CI a.b c3 ∧ (d3 = true → 0 < x2) := by
  by_cases c : 0 < x2
  ·
   obtain ⟨c3, h3, x3, e3, k3⟩ := qaM h2 2 k2; rw [zdT c, qTC, e3, zoB]; exact ⟨_, _, _, rfl, k3, fun _ => c⟩
  rw [zdF c, qxE, zoB]; exact ⟨_, _, _, rfl, k2, fun h => by cases h⟩
 obtain ⟨c3, h3, d3, e3, k3, m3⟩ := hmid
 have hm2 : ∀ {β : Type} (G : Int → Int → Bool → Option β), (gd (decide (0 < x2)) (qHD.f (l1Cur.mk a.b c2 h2) 2)).bind (fun r65 => G (ci3 (decide (0 < x2)) r65.1.i c2) (ci3 (decide (0 < x2)) r65.1.h h2) (bo3 (decide (0 < x2)) r65.2 false)) = G c3 h3 d3 := fun G => by
  have := congrArg (fun o => o.bind fun t => G t.1 t.2.1 t.2.2) e3; simpa only [Option.bind_assoc, zoB] using this
 obtain ⟨c4, h4, x4, e4, k4, m4⟩ := qEH (l := [0, 0, 1, 2, 3, 5]) h3 (by simp) k3; simp only [zoB]; refine (?_ : ∃ i' h' q, _ = some (l1Cur.mk a.b i' h', q) ∧ CI a.b i' ∧ Qr3 q ∧ (schemaB s = true → queryB s q = true))
 have hm3 := hm2 (fun ci hh dd => (qvC.f (l1Cur.mk a.b ci hh) [0, 0, 1, 2, 3, 5]).bind fun r71 =>
  joinK (fun (y72 : Int) (y73 : Int) (y74 : Bool) (y75 : List Int) =>
  (qHD.f (l1Cur.mk a.b y72 y73) 2).bind fun r130 =>
  bif r130.2 then (
  (qaD.f (lenI s.Cols) 1).bind fun r132 =>
  (ql.f (l1Cur.mk a.b r130.1.i r130.1.h) r132).bind fun r133 =>
  bif (decide (r133.2 < (lenI s.Cols))) then (
  (getO s.Cols r133.2).bind fun x135 =>
  (qaD.f x135 1).bind fun r136 =>
  (ql.f (l1Cur.mk a.b r133.1.i r133.1.h) r136).bind fun r137 =>
  some ((l1Cur.mk a.b r137.1.i r137.1.h), (Query.mk q1 w x2 y74 r71.2 y75 true r133.2 r137.2)))
  else (
  some ((l1Cur.mk a.b r133.1.i r133.1.h), (Query.mk q1 w x2 y74 r71.2 y75 true r133.2 0))))
  else (
  some ((l1Cur.mk a.b r130.1.i r130.1.h), (Query.mk q1 w x2 y74 r71.2 y75 false 0 0)))) (fun K76 =>
  qAB.l1 a y3 K76 ((y3 - 0).toNat + 1) r71.1.i r71.1.h dd [] 0))
 rw [hm3, e4, zoB, qCD]; obtain ⟨c5, h5, sh, e5, k5, l5⟩ := qER a y3 hy.2 d3 ((y3 - 0).toNat + 1) 0 c4 h4 [] k4 (by simp) (by omega) (by omega) (by omega) (by simp) hy.1; rw [show ((0 : Nat) : Int) = 0 from rfl] at e5; dsimp only at e5 ⊢; rw [e5]
 exact qoP a s q1 w x2 x4 hs w1 c5 h5 d3 sh k5 l5.1 (fun x hx => by have := l5.2.2 x hx; omega) fun h => by
  obtain ⟨g1, g2⟩ := hcol h; simp only [List.mem_cons, List.not_mem_nil, or_false] at m4; exact ⟨g2, by rw [g1]; exact w2, by rw [g1]; exact qne hy.2 l5.2.1 l5.2.2, w1, by rw [g1]; omega, m3, by omega⟩
theorem qRL {b : List Int} {i : Int} (h : Int) (s : Schema) (hs : SB s) (hc : CI b i) : ∃ i' h' q, qAB.f (l1Cur.mk b i h) s = some (l1Cur.mk b i' h', q) ∧ CI b i' ∧ Qr3 q ∧ (schemaB s = true → queryB s q = true) := by
 unfold qAB.f; rw [qGB (qZH _ _)]; obtain ⟨c1, h1, x1, e1, k1, l1, u1, _⟩ := qxB h (max (lenI s.Cols) 1) hc; rw [e1, zoB]; dsimp only; rw [qCD]
 by_cases c : x1 < lenI s.Cols
 ·
  have hlt : x1.toNat < s.Cols.length := by rw [qF] at c; omega
  rw [zdT c, zcT, qPM l1, zgE hlt, zoB, qGB (qZH _ _)]; have := hs.2 _ (List.getElem_mem hlt)
  have k := qbM (l1Cur.mk b i h) s hs x1 c1 h1 k1 (max s.Cols[x1.toNat] 1) (by omega) (fun h => by
   have hc1 : 1 ≤ s.Cols[x1.toNat] ∧ s.Cols[x1.toNat] ≤ 4 := by
    unfold schemaB at h; rw [Bool.and_eq_true, List.all_eq_true] at h; exact of_decide_eq_true (h.1 _ (List.getElem_mem hlt))
   rw [zgD, zgE hlt, Option.getD_some]
   omega)
  exact k
 rw [zdF c, zcF]
 exact qbM (l1Cur.mk b i h) s hs x1 c1 h1 k1 1 (by omega) (fun h => by
  rw [qF] at c u1; unfold schemaB at h; rw [Bool.and_eq_true, decide_eq_true_eq] at h; have := u1 (by omega)
  omega)
theorem qcV {b : List Int} {i : Int} (h : Int) (s : Schema) (hs : SB s) (hc : CI b i) : ∃ i' h' q, qTG.f (l1Cur.mk b i h) s = some (l1Cur.mk b i' h', q) ∧ CI b i' ∧ QB q := by
 unfold qTG.f; obtain ⟨i1, h1, q, e1, k1, ⟨q1, q2, q3⟩, _⟩ := qRL h s hs hc; obtain ⟨i2, h2, x2, e2, k2, _⟩ := qxB h1 25 k1; rw [qGB e1]; dsimp only; rw [qGB e2]; dsimp only
 by_cases c0 : x2 = 0
 ·
  obtain ⟨i3, h3, x3, e3, k3, _⟩ := qxB h2 5 k2; rw [zdT c0, zcT, qGB e3]; exact ⟨_, _, _, rfl, k3, by dsimp only; omega, by dsimp only; omega, q3⟩
 rw [zdF c0, zcF]
 by_cases c1 : x2 = 1
 ·
  obtain ⟨i3, h3, x3, e3, k3, _⟩ := qxB h2 6 k2; obtain ⟨i4, h4, x4, e4, k4, _⟩ := qxB h3 6 k3; obtain ⟨i5, h5, x5, e5, k5, _⟩ := qEH (l := [0, 1000000001]) h4 (by simp) k4; rw [zdT c1, zcT, qGB e3]; dsimp only; rw [qGB e4, zoB]; dsimp only; rw [qGB e5, zoB, qWC (by simp only [zlC, zlN]; omega), zoB]; exact ⟨_, _, _, rfl, k5, by simp only [zlA, zlC, zlN]; omega, by dsimp only; omega, q3⟩
 rw [zdF c1, zcF]
 by_cases c2 : x2 = 2
 ·
  obtain ⟨i3, h3, x3, e3, k3, _⟩ := qxB h2 7 k2; rw [zdT c2, zcT, qGB e3]; exact ⟨_, _, _, rfl, k3, by dsimp only; omega, by dsimp only; omega, q3⟩
 rw [zdF c2, zcF]
 by_cases c3 : x2 = 3
 ·
  obtain ⟨i3, h3, x3, e3, k3, _⟩ := qEH (l := [-1, 24, 25]) h2 (by simp) k2; rw [zdT c3, zcT, zoB, qGB e3]; exact ⟨_, _, _, rfl, k3, by dsimp only; omega, by dsimp only; omega, q3⟩
 rw [zdF c3, zcF]
 by_cases c4 : x2 = 4
 ·
  obtain ⟨i3, h3, x3, e3, k3, y1, y2, _⟩ := qxB h2 5 k2; have y3 := y2 (by omega); rw [zdT c4, zcT, qGB e3, zoB, qWC (by simp only [zlC, zlN]; omega), zoB]; exact ⟨_, _, _, rfl, k3, by dsimp only; omega, by simp only [zlA, zlC, zlN]; omega, qEL q3 ⟨y1, by omega⟩⟩
 rw [zdF c4, zcF]
 by_cases c5 : x2 = 5
 ·
  obtain ⟨i3, h3, x3, e3, k3, _⟩ := qxB h2 6 k2; rw [zdT c5, zcT, qGB e3]; exact ⟨_, _, _, rfl, k3, by dsimp only; omega, by dsimp only; omega, q3⟩
 rw [zdF c5, zcF]; exact ⟨_, _, _, rfl, k2, by omega, by omega, q3⟩
theorem qxY (code : List Int) (hl : (code.length : Int) ≤ 1048576) : ∃ s q, qzG.f code = some (s, q) ∧ DSx s ∧ QB q := by
 unfold qzG.f; obtain ⟨h0, e0, k0⟩ := qfT code hl; rw [qGB e0]; obtain ⟨i1, h1, s, e1, k1, d1⟩ := qsa h0 k0; rw [qGB e1]; obtain ⟨i2, h2, q, e2, k2, q2⟩ := qcV h1 s.Schema d1.sb k1; dsimp only; rw [qGB e2]; exact ⟨_, _, rfl, d1, q2⟩
theorem qiT (code : List Int) (hl : (code.length : Int) ≤ 1048576) : ∃ s q, qBF.f code = some (s, q) ∧ DSx s ∧ QB q := by
 unfold qBF.f; obtain ⟨s, q, e1, d1, q1⟩ := qxY code hl; rw [qGB e1]; exact ⟨_, _, rfl, d1, q1⟩
theorem qaN (q : Query) (h : qSE q ≤ 1099511627776) : qYF.f q = some q := by
 have p1 := qUN q.Where; have p2 := qOK q.Show; unfold qSE at h; unfold qkI at p1 h; unfold qkD at p2 h; unfold qYF.f; rw [qWC (by simp only [zlN]; omega), zoB, qxJ _ (by omega), zoB]; rfl
def Kid_r (x : Kid) : Prop := (-9223372036854775808 ≤ x.Id ∧ x.Id ≤ 9223372036854775807) ∧ (-9223372036854775808 ≤ x.N ∧ x.N ≤ 9223372036854775807)
def qyH (l : List Kid) : Int := l.length
def qZS (l : List Kid) : Prop := l.length ≤ 9223372036854775807
theorem qpP (l : List Kid) : 0 ≤ qyH l := by unfold qyH; omega
def qvf (l : List Kid) : Prop := ∀ x ∈ l, Kid_r x
def isKid (id : Int) (k : Kid) : Bool := decide (id ≤ k.Id)
def kidPutF (l : List Kid) (id by_ : Int) : List Kid :=
 match l[l.findIdx (isKid id)]? with
 | some k => if k.Id = id then (if 0 < w64 (k.N + by_) then l.set (l.findIdx (isKid id)) ⟨id, w64 (k.N + by_)⟩ else l.eraseIdx (l.findIdx (isKid id)))
  else (if 0 < by_ then l.take (l.findIdx (isKid id)) ++ [⟨id, by_⟩] ++ l.drop (l.findIdx (isKid id)) else l)
 | none => if 0 < by_ then l ++ [⟨id, by_⟩] else l
def kidMid (l : List Kid) (id by_ : Int) : List Kid :=
 match l[l.findIdx (isKid id)]? with
 | some k => if k.Id = id then (if 0 < w64 (k.N + by_) then l.set (l.findIdx (isKid id)) ⟨id, w64 (k.N + by_)⟩ else l.eraseIdx (l.findIdx (isKid id)))
  else (if 0 < by_ then l.take (l.findIdx (isKid id)) ++ [⟨id, by_⟩] ++ l.drop (l.findIdx (isKid id)) else l)
 | none => l
theorem qoe {l : List Kid} {id by_ : Int} (h : l.findIdx (isKid id) < l.length) : kidMid l id by_ = kidPutF l id by_ := by
 unfold kidMid kidPutF; rw [zgE h]
theorem qbN (l : List Kid) (id by_ : Int) : (kidPutF l id by_).length ≤ l.length + 1 := by
 unfold kidPutF
 split
 ·
  split
  ·
   split
   · rw [List.length_set]; omega
   rw [List.length_eraseIdx]; split <;> omega
  split
  · simp; omega
  omega
 split
 · simp
 omega
theorem qFR (l : List Kid) (id : Int) (K : Int → Option (List Kid)) (hl : (l.length : Int) ≤ 1099511627776) : ∀ (k i : Nat), i ≤ l.length → l.length < i + k → ¬ (l.take i).findIdx (isKid id) < i →
  qeD.l0 id l K k i = K (l.findIdx (isKid id) : Int) := by
 intro k
 induction k with
 | zero => intro i h h'; omega
 | succ k ih =>
  intro i h h' hn
  by_cases hi : i < l.length
  ·
   have hx : l[i]? = some l[i] := zgE hi; obtain ⟨f1, f2⟩ := qlJ (isKid id) l hx hn; rw [qeD.l0, qF, zdT (by omega), qTC, qd, hx, zoB, bo3_T, qv (by omega)]
   by_cases c : l[i].Id < id
   ·
    rw [zdT c, zcT]; exact ih (i + 1) (by omega) (by omega) (f2 (zdF (by omega)))
   rw [zdF c, zcF, f1 (zdT (by omega))]
  rw [List.take_of_length_le (by omega)] at hn; have hle := List.findIdx_le_length (xs := l) (p := isKid id); rw [qeD.l0, qF, zdF (by omega), qxE, zoB, bo3_F, zcF]; congr 1; omega
theorem qGR (l : List Kid) (id by_ : Int) (h : (l.length : Int) ≤ 1099511627776) : qeD.f l id by_ = some (kidPutF l id by_) := by
 unfold qeD.f; rw [qWC (by simp; omega), zoB, List.nil_append]; simp only [joinK]; refine (qFR l id _ h (((lenI l) - 0).toNat + 1) 0 (by omega) (by rw [qF]; omega) (by omega)).trans ?_; have hle := List.findIdx_le_length (xs := l) (p := isKid id); unfold kidPutF
 by_cases c : l.findIdx (isKid id) < l.length
 ·
  have hx : l[l.findIdx (isKid id)]? = some l[l.findIdx (isKid id)] := zgE c; rw [qF, zdF (by omega), bo3_F, qTC, qd, hx, zoB, bo3_F]; dsimp only; generalize hk : l[l.findIdx (isKid id)] = x at *; generalize hn : l.findIdx (isKid id) = n at *
  by_cases e : x.Id = id
  ·
   rw [zdF (show ¬ x.Id ≠ id from fun h => h e), zcF, if_pos e, zoB, zoB, qoO, qd, List.getElem?_set_self c, zoB, e]; dsimp only
   by_cases n0 : 0 < w64 (x.N + by_)
   · rw [zdF (by omega), zcF, if_pos n0]
   rw [zdT (by omega), zcT, if_neg n0, qEE.f, delO, qv (by omega), if_pos ⟨by omega, by omega, by rw [List.length_set]; omega⟩, zoB, Int.toNat_natCast, Int.toNat_natCast, List.eraseIdx_eq_take_drop_succ, List.take_set_of_le (Nat.le_refl _), List.drop_set_of_lt (by omega)]
  rw [zdT (show x.Id ≠ id from e), zcT, if_neg e]
  by_cases n0 : 0 < by_
  · rw [zdF (by omega), zcF, if_pos n0, zoB, qPD.f, insO, if_pos ⟨rfl, by omega, by omega, by simp; omega, by simp; omega⟩, zoB, Int.toNat_natCast]
  rw [zdT (by omega), zcT, if_neg n0]
 have e : l.findIdx (isKid id) = l.length := by omega
 rw [qF, e, zdT rfl, bo3_T, qxE, zoB, bo3_T, zcT, List.getElem?_eq_none (by omega)]; dsimp only
 by_cases n0 : 0 < by_
 · rw [zdF (by omega), zcF, if_pos n0, zoB, qPD.f, insO, if_pos ⟨rfl, by omega, by omega, by simp; omega, by simp; omega⟩, zoB, Int.toNat_natCast, List.take_length, List.drop_length, List.append_nil]
 rw [zdT (by omega), zcT, if_neg n0]
theorem qcM (s : Schema) (t : Int) (r : Row) (hs : qFE s) (hr : Row_b r) : qyD.f s t r = some (rowB s t r) := by
 have hl : s.Cols.length ≤ 9223372036854775807 := hs; have hrl : r.Cells.length ≤ 9223372036854775807 := hr; unfold qyD.f rowB; rw [qlE _ hs, zoB, qF, qfB (by omega), qNC, qNC]
 cases schemaB s with
 | false => rfl
 | true =>
  by_cases d : 0 ≤ t ∧ t ≤ (s.Cols.length : Int) - 1
  case neg => rw [zdF d]; rfl
  rw [zdT d, qPF d]
  by_cases d2 : 1 ≤ r.Id ∧ r.Id ≤ 999
  case neg => rw [zdF d2]; rfl
  rw [zdT d2]; simp only [bo3_F, bo3_T, qTC, zoB, Bool.true_and]
  by_cases d3 : (r.Cells.length : Int) = s.Cols.getD t.toNat 0
  case neg => rw [show decide (lenI r.Cells ≠ s.Cols.getD t.toNat 0) = true from zdT d3, zdF d3]; rfl
  rw [show decide (lenI r.Cells ≠ s.Cols.getD t.toNat 0) = false from zdF (fun h => h d3), zdT d3, zcF, Bool.true_and]; refine (qOD (f := qyD.l0 r) (l := r.Cells) (fun _ n => decide (-1000000000 ≤ n ∧ n ≤ 1000000000)) (some false) (some true) (fun k i x hx => ?_) (fun k i hi => ?_) _ 0 (by omega) (by (try simp only [qF]); omega)).trans ?_
  ·
   have hi := at_lt hx; rw [qyD.l0, qF, zdT (by omega), zcT, qd, hx, zoB, qNC, zoB, qsC, qv (by omega)]
   cases decide (-1000000000 ≤ x ∧ x ≤ 1000000000) <;> rfl
  · rw [qyD.l0, qF, zdF (by omega), zcF]
  rw [qIE]
  cases r.Cells.all fun n => decide (-1000000000 ≤ n ∧ n ≤ 1000000000) <;> rfl
theorem qHR (s : Schema) (t : Int) (rows : List Row) (hs : qFE s) (hr : qWP rows) : qfD.f s t rows = some (rowsB s t rows) := by
 have hl : s.Cols.length ≤ 9223372036854775807 := hs; obtain ⟨hrl, hr2⟩ := hr; unfold qfD.f rowsB; simp only [joinK]; refine (qOD (f := qfD.l0 s t rows _) (l := rows) (fun i r => rowB s t r && !(decide (0 < i) && decide (r.Id ≤ (rows.getD (i - 1) default).Id))) (some false) (some (schemaB s && decide (0 ≤ t ∧ t ≤ (s.Cols.length : Int) - 1) && decide (rows.length ≤ 24))) (fun k i x hx => ?_) (fun k i hi => ?_) _ 0 (by omega) (by (try simp only [qF]); omega)).trans ?_
 ·
  have hi := at_lt hx; rw [qfD.l0, qF, zdT (by omega), zcT, qd, hx, zoB, qcM _ _ _ hs (hr2 x (List.mem_of_getElem? hx)), zoB, qQM hx (by omega), zoB, qv (by omega)]; rw [show decide (0 < (i : Int)) = decide (0 < i) from by simp]
  cases rowB s t x <;> cases decide (0 < i) <;> (try rfl)
  simp only [bo3_F, bo3_T, Bool.true_and, zcT]
  by_cases e : x.Id ≤ (rows.getD (i - 1) default).Id
  · simp [e]
  simp [e]
 ·
  rw [qfD.l0, qF, zdF (by omega), zcF, qlE _ hs, zoB]
  first | rw [qkE _ _ hs] | rw [qF s.Cols, qfB (by omega), qNC]
  have e24 : decide ((rows.length : Int) ≤ 24) = decide (rows.length ≤ 24) := by rw [decide_eq_decide]; omega
  simp only [qF, e24]; generalize decide (0 ≤ t ∧ t ≤ (s.Cols.length : Int) - 1) = b1; generalize decide (rows.length ≤ 24) = b2
  cases schemaB s <;> cases b1 <;> cases b2 <;> rfl
 cases allFrom (fun i r => rowB s t r && !(decide (0 < i) && decide (r.Id ≤ (rows.getD (i - 1) default).Id))) rows 0 <;> rfl
theorem qdV (v : Int) : qiC.f v 0 100000 = some (decide (0 ≤ v ∧ v ≤ 100000)) := qNC _ _ _
theorem qVK (s : Store) (hb : qvH s) : qAD.f s = some (storeB s) := by
 obtain ⟨hs, ht, ht2⟩ := hb; have hl : s.Schema.Cols.length ≤ 9223372036854775807 := hs; unfold qAD.f storeB; rw [qlE _ hs, zoB, qdV]
 cases schemaB s.Schema with
 | false => rfl
 | true =>
  by_cases d : 0 ≤ s.Version ∧ s.Version ≤ 100000
  case neg => rw [zdF d]; rfl
  rw [zdT d]
  by_cases d2 : s.Tables.length = s.Schema.Cols.length
  case neg =>
   rw [show decide (lenI s.Tables ≠ lenI s.Schema.Cols) = true from zdT (by simp only [qF]; omega), zdF d2]; rfl
  rw [show decide (lenI s.Tables ≠ lenI s.Schema.Cols) = false from zdF (by simp only [qF]; omega), zdT d2]; simp only [bo3_F, bo3_T, qTC, zoB, Bool.true_and, zcF]; refine (qOD (f := qAD.l0 s) (l := s.Tables) (fun i rows => rowsB s.Schema (i : Int) rows) (some false) (some true) (fun k i x hx => ?_) (fun k i hi => ?_) _ 0 (by omega) (by (try simp only [qF]); omega)).trans ?_
  ·
   have hi := at_lt hx; rw [qAD.l0, qF, zdT (by omega), zcT, qd, hx, zoB, qHR _ _ _ hs (ht2 x (List.mem_of_getElem? hx)), zoB, qsC, qv (by omega)]
   cases rowsB s.Schema i x <;> rfl
  · rw [qAD.l0, qF, zdF (by omega), zcF]
  cases allFrom (fun i rows => rowsB s.Schema (i : Int) rows) s.Tables 0 <;> rfl
theorem qzH (s : Schema) (q : Query) (h : qFE s) (hq : qWF q) : qFC.f s q = some (queryB s q) := by
 have hcl : s.Cols.length ≤ 9223372036854775807 := h; obtain ⟨hw, hs⟩ := hq; have hwl : q.Where.length ≤ 9223372036854775807 := hw; have hsl : q.Show.length ≤ 9223372036854775807 := hs; unfold qFC.f queryB; rw [qlE _ h, zoB]
 cases schemaB s with
 | false => rfl
 | true =>
  rw [show bo3 (bo3 true false true) false true = true from rfl, qTC, qF, qfB (by omega), qNC, zoB]
  by_cases d : 0 ≤ q.Table ∧ q.Table ≤ (s.Cols.length : Int) - 1
  case neg => rw [zdF d]; rfl
  rw [zdT d, qPF d]; generalize s.Cols.getD q.Table.toNat 0 = cols
  by_cases d3 : q.Where.length ≤ 3
  case neg =>
   rw [qF, zdT (by omega), show bo3 (bo3 (bo3 true false true) true (bo3 true false true)) true true = true from rfl, zcT, zdF d3]; simp
  rw [qF, zdF (by omega), show bo3 (bo3 (bo3 true false true) true (bo3 true false true)) true false = false from rfl, zcF, zdT d3, zoB]; simp only [joinK, Bool.true_and]; refine (qOD (f := qFC.l0 q cols _) (l := q.Where) (fun _ c => condB cols c) (some false) (some (showB cols q.Show && (decide (0 ≤ q.Order ∧ q.Order ≤ cols) && (!q.Down || decide (0 < q.Order)) && decide (0 ≤ q.First ∧ q.First ≤ 24) && kidsB s q))) (fun k i x hx => ?_) (fun k i hi => ?_) _ 0 (by omega) (by (try simp only [qF]); omega)).trans ?_
  ·
   have hi := at_lt hx; rw [qFC.l0, qF, zdT (by omega), zcT, qd, hx, zoB, qNC, zoB, qNC, qNC, qv (by omega)]; unfold condB
   cases decide (0 ≤ x.Col ∧ x.Col ≤ w64 (cols - 1)) <;> cases decide (1 ≤ x.Op ∧ x.Op ≤ 4) <;> cases decide (-1000000000 ≤ x.V ∧ x.V ≤ 1000000000) <;> rfl
  ·
   rw [qFC.l0, qF, zdF (by omega), zcF]; refine (qOD (f := qFC.l1 q cols _) (l := q.Show) (fun i x => decide (0 ≤ x ∧ x ≤ w64 (cols - 1)) && !(decide (0 < i) && decide (x ≤ q.Show.getD (i - 1) 0))) (some false) (some (decide (0 ≤ q.Order ∧ q.Order ≤ cols) && (!q.Down || decide (0 < q.Order)) && decide (0 ≤ q.First ∧ q.First ≤ 24) && kidsB s q)) (fun k i x hx => ?_) (fun k i hi => ?_) _ 0 (by omega) (by (try simp only [qF]); omega)).trans ?_
   ·
    have hi := at_lt hx; rw [qFC.l1, qF, zdT (by omega), zcT, qd, hx, zoB, qNC, zoB, qTV hx (by omega), zoB, qv (by omega)]; rw [show decide (0 < (i : Int)) = decide (0 < i) from by simp]
    cases decide (0 ≤ x ∧ x ≤ w64 (cols - 1)) <;> cases decide (0 < i) <;> (try rfl)
    simp only [qTE, qsC, qRS, Bool.not_true, Bool.not_false, Bool.true_and, zcT]
    cases decide (x ≤ q.Show.getD (i - 1) 0) <;> rfl
   ·
    rw [qFC.l1, qF, zdF (by omega), zcF, qNC, zoB, qNC]
    by_cases e0 : 0 ≤ q.Order ∧ q.Order ≤ cols
    case neg => rw [zdF e0]; rfl
    rw [zdT e0, show bo3 (bo3 true false true) false true = true from rfl, qTC, zoB]
    by_cases e1 : 0 ≤ q.First ∧ q.First ≤ 24
    case neg => rw [zdF e1]; simp [bo3]
    rw [zdT e1]
    have e2 : (bo3 (decide (q.Order = 0)) q.Down false) = !(!q.Down || decide (0 < q.Order)) := by
     cases q.Down with
     | false => cases decide (q.Order = 0) <;> rfl
     | true =>
      by_cases e3 : q.Order = 0
      · simp [e3, bo3]
      have : 0 < q.Order := by omega
      simp [e3, bo3, this]
    rw [e2]
    cases hd : (!q.Down || decide (0 < q.Order)) with
    | false => simp [bo3]
    | true =>
     rw [show bo3 (bo3 (bo3 true false true) true (bo3 true false true)) true (!true) = false from rfl, zcF, qsC]; unfold kidsB
     cases q.Kids with
     | false => simp [qTE]
     | true =>
      rw [Bool.not_true, zcF, qNC, zoB, if_pos rfl]
      by_cases d : 0 ≤ q.KidTable ∧ q.KidTable ≤ (s.Cols.length : Int) - 1
      ·
       rw [zdT d, qTC, qPF d, zoB, qTC, qNC, zoB, qTE]; simp
      rw [zdF d, qxE, zoB, qxE, zoB, qTE]; simp
   unfold showB
   cases allFrom (fun i x => decide (0 ≤ x ∧ x ≤ w64 (cols - 1)) && !(decide (0 < i) && decide (x ≤ q.Show.getD (i - 1) 0))) q.Show 0 <;> rfl
  rw [qIE]
  cases q.Where.all fun c => condB cols c <;> simp
theorem qqP (c : Cond) (r : Row) (h : Row_b r) : qAH.f c r = some (holdsB c r) := by
 have hl : r.Cells.length ≤ 9223372036854775807 := h; unfold qAH.f holdsB; rw [qF, qfB (by omega), qNC, zoB, qsC]
 by_cases d : 0 ≤ c.Col ∧ c.Col ≤ (r.Cells.length : Int) - 1
 ·
  rw [zdT d, Bool.not_true, zcF, qPF d, zoB, Bool.true_and]; simp only [qnO, decide_eq_true_eq, qPT, qTE, cmpB]
  all_goals ((repeat' split) <;> simp_all)
 rw [zdF d, Bool.not_false, zcT, Bool.false_and]
theorem qWK (q : Query) (r : Row) (hq : qWG q.Where) (h : Row_b r) : qBD.f q r = some (matchesB q r) := by
 have hl : q.Where.length ≤ 9223372036854775807 := hq; unfold qBD.f; refine (qOD (f := qBD.l0 q r) (l := q.Where) (fun _ c => holdsB c r) (some false) (some true) (fun k i x hx => ?_) (fun k i hi => ?_) _ 0 (by omega) (by (try simp only [qF]); omega)).trans ?_
 ·
  have hi := at_lt hx; rw [qBD.l0, qF, zdT (by omega), zcT, qd, hx, zoB, qqP _ _ h, zoB, qsC, qv (by omega)]
  cases holdsB x r <;> rfl
 · rw [qBD.l0, qF, zdF (by omega), zcF]
 rw [qIE, matchesB]
 cases q.Where.all fun c => holdsB c r <;> rfl
theorem qSL (r : Row) (col : Int) (h : Row_b r) : qUG.f r col = some (cellF r col) := by
 have hl : r.Cells.length ≤ 9223372036854775807 := h; unfold qUG.f cellF; rw [qF, qfB (by omega), qNC, zoB, qsC]
 by_cases d : 0 ≤ col ∧ col ≤ (r.Cells.length : Int) - 1
 · rw [zdT d, Bool.not_true, zcF, qPF d, zoB, if_pos d]
 rw [zdF d, Bool.not_false, zcT, if_neg d]
theorem qdM (q : Query) (a b : Row) (ha : Row_b a) (hb : Row_b b) : qjH.f q a b = some (aheadB q a b) := by
 unfold qjH.f aheadB; rw [qSL _ _ ha, qSL _ _ hb]; simp only [zoB, qnO, decide_eq_true_eq, qPT, qsC, qWa, ne_eq, ite_not]
 all_goals (
  generalize cellF a (w64 (q.Order - 1)) = x; generalize cellF b (w64 (q.Order - 1)) = y
  by_cases h0 : q.Order = 0
  · simp [h0]
  by_cases h1 : x = y
  · simp [h0, h1]
  cases hd : q.Down with
  | true =>
   simp only [h0, h1, if_false, if_true, zoI, decide_eq_true_eq]
   by_cases h2 : x < y
   · simp [h2]; try omega
   simp [h2]; try omega
  | false =>
   simp only [h0, h1, if_false, zoI, decide_eq_true_eq]
   by_cases h2 : x < y
   · simp [h2]; try omega
   simp [h2]; try omega)
theorem qjT (q : Query) (l : List Row) (r : Row) (K : List Row → Bool → Int → Option (List Row)) : ∀ (k i : Nat) (acc : List Row), i ≤ l.length → l.length < i + k → (acc.length : Int) + (l.length - i : Nat) ≤ 1099511627777 → (l.length : Int) ≤ 1099511627776 →
  qtC.l0 q l r K k acc true i = K (acc ++ l.drop i) true l.length := by
 intro k
 induction k with
 | zero => intro i acc h h'; omega
 | succ k ih =>
  intro i acc h h' hz hl
  by_cases hi : i < l.length
  ·
   have hx : l[i]? = some l[i] := zgE hi; rw [qtC.l0, qF, zdT (by omega), zcT, bo3_T, qxE, zoB, qxE, zoB, bo3_F, zcF, qd, hx, zoB, ltO, if_pos (by omega), zoB, zoB, qWC (by simp only [zlC, zlN]; omega), zoB, qv (by omega), ih (i + 1) _ (by omega) (by omega) (by simp only [zlA, zlC, zlN]; omega) hl, List.drop_eq_getElem_cons hi]; simp
  obtain rfl : i = l.length := by omega
  rw [qtC.l0, qF, zdF (by omega), zcF, List.drop_eq_nil_of_le (by omega), List.append_nil]
theorem qkT (q : Query) (l : List Row) (r : Row) (hl : (l.length : Int) ≤ 1099511627776) (hb : ∀ x ∈ l, Row_b x) (hr : Row_b r) (hz : qbD r ≤ 1099511627776) : ∀ (k i : Nat), i ≤ l.length → l.length < i + k → ¬ (l.take i).findIdx (aheadB q r) < i →
  qtC.l0 q l r (fun y1 y2 y3 => bif (bo3 y2 false true) then (qBE.f r).bind fun r48 => (some [r48]).bind fun l49 => (appO 32 y1 l49).bind fun l50 => some l50 else some y1) k (l.take i) false i = some (putF q l r) := by
 intro k
 induction k with
 | zero => intro i h h'; omega
 | succ k ih =>
  intro i h h' hn
  by_cases hi : i < l.length
  ·
   have hx : l[i]? = some l[i] := zgE hi
   have ht : (l.take i).length = i := by rw [zlT]; omega
   obtain ⟨f1, f2⟩ := qlJ (aheadB q r) l hx hn; rw [qtC.l0, qF, zdT (by omega), zcT, bo3_F, qTC, qd, hx, zoB, qTC, qdM q r _ hr (hb _ (List.getElem_mem hi)), zoB, bo3_T, qv (by omega)]
   cases hp : aheadB q r l[i] with
   | false =>
    rw [zcF, zoB, ltO, if_pos (by omega), zoB, zoB, qWC (by simp only [ht, zlC, zlN]; omega), zoB, ← qDG hx]; exact ih (i + 1) (by omega) (by omega) (f2 hp)
   | true =>
    rw [zcT, qbF _ hz, zoB, zoB, qWC (by simp only [ht, zlC, zlN]; omega), zoB, zoB, ltO, if_pos (by omega), zoB, zoB, qWC (by simp only [zlA, ht, zlC, zlN]; omega), zoB, qjT q l r _ k (i + 1) _ (by omega) (by omega) (by simp only [zlA, ht, zlC, zlN]; omega) hl, bo3_T, zcF]; unfold putF; rw [f1 hp, List.drop_eq_getElem_cons hi]; simp
  rw [List.take_of_length_le (by omega)] at hn ⊢; have hle := List.findIdx_le_length (xs := l) (p := aheadB q r)
  have e : l.findIdx (aheadB q r) = l.length := by omega
  rw [qtC.l0, qF, zdF (by omega), zcF, bo3_F, zcT, qbF _ hz, zoB, zoB, qWC (by simp only [zlC, zlN]; omega), zoB]; unfold putF; rw [e, List.take_length, List.drop_length, List.append_nil]
theorem qIR (q : Query) (l : List Row) (r : Row) (hl : (l.length : Int) ≤ 1099511627776) (hb : ∀ x ∈ l, Row_b x) (hr : Row_b r) (hz : qbD r ≤ 1099511627776) : qtC.f q l r = some (putF q l r) := by
 unfold qtC.f; simp only [joinK]; have := qkT q l r hl hb hr hz (((lenI l) - 0).toNat + 1) 0 (by omega) (by rw [qF]; omega) (by omega); rw [List.take_zero] at this; exact this
theorem qrP (q : Query) (hq : qWG q.Where) (rows : List Row) (hl : rows.length ≤ 24) (hr : ∀ r ∈ rows, Row_b r ∧ qbD r ≤ 4) : ∀ (k i : Nat) (acc : List Row), i ≤ rows.length → rows.length < i + k → acc.length ≤ i → (∀ x ∈ acc, Row_b x) → qLD.l0 q rows k acc i = some (rowsFold q (rows.drop i) acc) := by
 intro k
 induction k with
 | zero => intro i acc h h'; omega
 | succ k ih =>
  intro i acc h h' ha hb; rw [qLD.l0, qF]
  by_cases hi : i < rows.length
  ·
   obtain ⟨b1, z1⟩ := hr _ (List.getElem_mem hi); rw [zdT (by omega), zcT, qd, zgE hi, zoB, qGB (qWK q _ hq b1), List.drop_eq_getElem_cons hi, qv (by omega)]
   show _ = some (rowsFold q (rows.drop (i + 1)) (if matchesB q rows[i] = true then putF q acc rows[i] else acc))
   cases hm : matchesB q rows[i] with
   | true =>
    rw [zcT, qGB (qIR q acc _ (by omega) hb b1 (by omega)), if_pos rfl]
    exact ih (i + 1) _ (by omega) (by omega) (by rw [qvW]; omega) fun x hx => by
     rcases qla hx with rfl | hx
     · exact b1
     exact hb x hx
   | false =>
    rw [zcF, if_neg (by simp)]; exact ih (i + 1) _ (by omega) (by omega) (by omega) hb
  rw [zdF (by omega), zcF, List.drop_eq_nil_of_le (by omega)]; rfl
theorem qsP (s : Store) (q : Query) (hs : qvH s) (hq : qWF q) : qLD.f s q = some (rowsForF s q) := by
 unfold qLD.f rowsForF; rw [qVK _ hs, zoB, qzH _ _ hs.1 hq]
 cases h1 : storeB s with
 | false => rfl
 | true =>
  cases h2 : queryB s.Schema q with
  | false => rfl
  | true =>
   simp only [bo3_F, bo3_T, qTC, zoB, zcF, Bool.true_and, if_true]; obtain ⟨t1, t2⟩ := qxH h2; have hl := (qKE h1).1
   have ht : q.Table.toNat < s.Tables.length := by omega
   have hrows := qwF h1 ht; have hlen := qmG hrows; rw [show getO s.Tables q.Table = some (tableOf s q.Table) from qoL (by omega), zoB]; rw [Int.toNat_of_nonneg t1] at hrows hlen
   have := qrP q hq.1 (tableOf s q.Table) hlen (fun r hr => by
    obtain ⟨i, hi⟩ := List.getElem?_of_mem hr; have z := qcT (qYH hrows hi)
    exact ⟨by unfold Row_b IntS_b; unfold qbD qkD at z; omega, z⟩) (((lenI (tableOf s q.Table)) - 0).toNat + 1) 0 [] (by omega) (by rw [qF]; omega) (by simp) (by simp)
   exact this
theorem qTL (q : Query) (h : qSE q ≤ 1099511627776) : qVG.f q = some q := by
 have p1 := qUN q.Where; have p2 := qOK q.Show; unfold qSE at h; unfold qkI at p1 h; unfold qkD at p2 h; unfold qVG.f; rw [qWC (by simp only [zlN]; omega), zoB, qWC (by simp only [zlN]; omega), zoB]; rfl
theorem qaH (l : List Kid) (id by_ : Int) (K : List Kid → Bool → Option (List Kid)) : ∀ (k i : Nat) (acc : List Kid), i ≤ l.length → l.length < i + k → (acc.length : Int) + (l.length - i : Nat) ≤ 1099511627777 → (l.length : Int) ≤ 1099511627776 →
  qeC.l0 l id by_ K k acc true i = K (acc ++ l.drop i) true := by
 intro k
 induction k with
 | zero => intro i acc h h'; omega
 | succ k ih =>
  intro i acc h h' hz hl
  by_cases hi : i < l.length
  ·
   have hx : l[i]? = some l[i] := zgE hi; rw [qeC.l0, qF, zdT (by omega), zcT, qd, hx, zoB, bo3_T, bo3_F, zcF, zoB, qWC (by simp only [zlC, zlN]; omega), zoB, qv (by omega), ih (i + 1) _ (by omega) (by omega) (by simp only [zlA, zlC, zlN]; omega) hl, List.drop_eq_getElem_cons hi]; simp
  rw [qeC.l0, qF, zdF (by omega), zcF, List.drop_eq_nil_of_le (by omega), List.append_nil]
theorem qlT (l : List Kid) (id by_ : Int) (K : List Kid → Bool → Option (List Kid)) (hl : (l.length : Int) ≤ 1099511627776) (k i : Nat) (x : Kid) (hx : l[i]? = some x) (hp : id ≤ x.Id) (h' : l.length < i + (k + 1)) (hf : l.findIdx (isKid id) = i) :
  qeC.l0 l id by_ K (k + 1) (l.take i) false i = K (kidMid l id by_) true := by
 have hi := at_lt hx
 have ht : (l.take i).length = i := by rw [zlT]; omega
 have hdr : l.drop i = x :: l.drop (i + 1) := by
  rw [List.drop_eq_getElem_cons hi]; rw [zgE hi] at hx; rw [Option.some.inj hx]
 have hm : kidMid l id by_ = if x.Id = id then (if 0 < w64 (x.N + by_) then l.set i ⟨id, w64 (x.N + by_)⟩ else l.eraseIdx i) else (if 0 < by_ then l.take i ++ [⟨id, by_⟩] ++ l.drop i else l) := by
  unfold kidMid; rw [hf, hx]
 rw [hm, qeC.l0, qF, zdT (by omega), zcT, qd, hx, zoB, qv (by omega), zdT hp, bo3_F, bo3_T, zcT]; simp only [joinK]
 by_cases e : x.Id = id
 ·
  rw [if_pos e, zdT e, zcT]
  by_cases n0 : 0 < w64 (x.N + by_)
  ·
   rw [if_pos n0, zdT n0, zcT, zoB, qWC (by simp only [ht, zlC, zlN]; omega), zoB, zcT, qaH l id by_ _ k (i + 1) _ (by omega) (by omega) (by simp only [zlA, ht, zlC, zlN]; omega) hl, List.set_eq_take_append_cons_drop, if_pos hi, List.append_assoc]; rfl
  · rw [if_neg n0, zdF n0, zcF, zcT, qaH l id by_ _ k (i + 1) _ (by omega) (by omega) (by simp only [ht]; omega) hl, List.eraseIdx_eq_take_drop_succ]
 ·
  rw [if_neg e, zdF e, zcF]
  by_cases n0 : 0 < by_
  ·
   rw [if_pos n0, zdT n0, zcT, zoB, qWC (by simp only [ht, zlC, zlN]; omega), zoB, zcF, zoB, qWC (by simp only [zlA, ht, zlC, zlN]; omega), zoB, qaH l id by_ _ k (i + 1) _ (by omega) (by omega) (by simp only [zlA, ht, zlC, zlN]; omega) hl, hdr, List.append_assoc]; rfl
  rw [if_neg n0, zdF n0, zcF, zcF, zoB, qWC (by simp only [ht, zlC, zlN]; omega), zoB, qaH l id by_ _ k (i + 1) _ (by omega) (by omega) (by simp only [zlA, ht, zlC, zlN]; omega) hl, List.append_assoc, List.singleton_append, ← hdr, List.take_append_drop]
theorem qmT (l : List Kid) (id by_ : Int) (K : List Kid → Bool → Option (List Kid)) (hl : (l.length : Int) ≤ 1099511627776) : ∀ (k i : Nat), i ≤ l.length → l.length < i + k → ¬ (l.take i).findIdx (isKid id) < i →
  qeC.l0 l id by_ K k (l.take i) false i = if l.findIdx (isKid id) < l.length then K (kidMid l id by_) true else K l false := by
 intro k
 induction k with
 | zero => intro i h h'; omega
 | succ k ih =>
  intro i h h' hn
  by_cases hi : i < l.length
  ·
   obtain ⟨x, hx⟩ : ∃ x, l[i]? = some x := ⟨_, zgE hi⟩
   have ht : (l.take i).length = i := by rw [zlT]; omega
   obtain ⟨f1, f2⟩ := qlJ (isKid id) l hx hn
   by_cases hp : id ≤ x.Id
   ·
    have hf := f1 (zdT hp); rw [if_pos (by omega)]; exact qlT l id by_ K hl k i x hx hp h' hf
   have := f2 (zdF hp); rw [qeC.l0, qF, zdT (by omega), zcT, qd, hx, zoB, qv (by omega), zdF hp, bo3_F, bo3_T, zcF, zoB, qWC (by simp only [ht, zlC, zlN]; omega), zoB, ← qDG hx]; exact ih (i + 1) (by omega) (by omega) this
  rw [List.take_of_length_le (by omega)] at hn ⊢; rw [qeC.l0, qF, zdF (by omega), zcF, if_neg (by omega)]
theorem qJR (l : List Kid) (id by_ : Int) (h : (l.length : Int) ≤ 1099511627776) : qeC.f l id by_ = some (kidPutF l id by_) := by
 unfold qeC.f; simp only [joinK]; have hle := List.findIdx_le_length (xs := l) (p := isKid id); refine (qmT l id by_ _ h (((lenI l) - 0).toNat + 1) 0 (by omega) (by rw [qF]; omega) (by omega)).trans ?_
 by_cases c : l.findIdx (isKid id) < l.length
 ·
  rw [if_pos c, qoe c]; rfl
 rw [if_neg c, bo3_F, bo3_T]; unfold kidPutF; rw [List.getElem?_eq_none (by omega)]
 by_cases n0 : 0 < by_
 ·
  rw [zdT n0, zcT, zoB, qWC (by simp only [zlC, zlN]; omega), zoB]; simp only [if_pos n0]
 rw [zdF n0, zcF]; simp only [if_neg n0]
def qlF (x : View) : Int := qSE x.Q + qUC x.Rows + qyH x.Kids
def qSJ (x : View) : Prop := qWF x.Q ∧ qWP x.Rows ∧ qZS x.Kids
def qCh (x : View) : Prop := qfe x.Q ∧ qkd x.Rows ∧ qvf x.Kids
def VB (v : View) : Prop := qWF v.Q ∧ (∀ x ∈ v.Rows, Row_b x)
theorem qcN {v : View} (h : VB v) (hz : qlF v ≤ 9223372036854775807) : qSJ v := by
 have p1 := qCL v.Q; have p2 := qGG v.Rows; have p3 := qpP v.Kids; have p4 := qUE qeE v.Rows; unfold qlF at hz; unfold qUC at p2 hz; unfold qyH at p3 hz; refine ⟨h.1, ⟨by omega, h.2⟩, ?_⟩; unfold qZS; omega
def kidsFold (col : Nat) (rows : List Row) (acc : List Kid) : List Kid := rows.foldl (fun ks r => kidPutF ks (r.Cells.getD col 0) 1) acc
def noQuery : Query := ⟨0, [], 0, false, 0, [], false, 0, 0⟩
def noView : View := ⟨noQuery, [], []⟩
def viewOfF (s : Store) (q : Query) : View × Bool :=
 if (storeB s && queryB s.Schema q) = true then (⟨q, rowsForF s q, if q.Kids = true then kidsFold q.KidCol.toNat (tableOf s q.KidTable) [] else []⟩, true) else (noView, false)
theorem qTO (col : Nat) : ∀ (rows : List Row) (acc : List Kid), (kidsFold col rows acc).length ≤ rows.length + acc.length
 | [], acc => by simp [kidsFold]
 | r :: rows, acc => by
  have e : kidsFold col (r :: rows) acc = kidsFold col rows (kidPutF acc (r.Cells.getD col 0) 1) := rfl; have := qTO col rows (kidPutF acc (r.Cells.getD col 0) 1); have := qbN acc (r.Cells.getD col 0) 1; rw [e]; simp only [zlC]; omega
theorem qKR (q r11 : Query) (r12 rows : List Row) (hk : q.Kids = true) (hl : rows.length ≤ 24) (hc0 : 0 ≤ q.KidCol) (hc : ∀ r ∈ rows, q.KidCol < (r.Cells.length : Int)) : ∀ (k i : Nat) (acc : List Kid), i ≤ rows.length → rows.length < i + k → acc.length ≤ i → qVD.l0 q r11 r12 rows k acc i = some (⟨r11, r12, kidsFold q.KidCol.toNat (rows.drop i) acc⟩, true) := by
 intro k
 induction k with
 | zero => intro i acc h h'; omega
 | succ k ih =>
  intro i acc h h' ha; rw [qVD.l0, qF, hk]
  by_cases hi : i < rows.length
  ·
   have h1 := hc _ (List.getElem_mem hi); rw [zdT (by omega), show bo3 true true false = true from rfl, zcT, qd, zgE hi, zoB, show getO rows[i].Cells q.KidCol = some (rows[i].Cells.getD q.KidCol.toNat 0) from qPF ⟨hc0, by omega⟩, zoB, qGB (qJR acc _ 1 (by omega)), qv (by omega), List.drop_eq_getElem_cons hi]; have := qbN acc (rows[i].Cells.getD q.KidCol.toNat 0) 1; exact ih (i + 1) _ (by omega) (by omega) (by omega)
  rw [zdF (by omega), show bo3 false true false = false from rfl, zcF, List.drop_eq_nil_of_le (by omega)]; rfl
theorem qUL (s : Store) (q : Query) (hs : qvH s) (hq : qWF q) (hz : qSE q ≤ 1099511627776) : qVD.f s q = some (viewOfF s q) := by
 unfold qVD.f viewOfF; rw [qVK _ hs, zoB, qzH _ _ hs.1 hq]
 cases h1 : storeB s with
 | false => rfl
 | true =>
  cases h2 : queryB s.Schema q with
  | false => rfl
  | true =>
   simp only [bo3_F, bo3_T, qTC, zoB, zcF, Bool.true_and, if_true]; rw [qGB (qTL q hz), qGB (qsP s q hs hq)]; obtain ⟨hl1, hl2⟩ := qKE h1; have h3 := qQJ hl2
   cases hk : q.Kids with
   | true =>
    obtain ⟨hk1, hk2⟩ := qRJ h2 hk; have hcol := qZN hl2 hk1; rw [qfB (by omega)] at hk2; have hrows := qwF h1 (t := q.KidTable.toNat) (by omega); rw [Int.toNat_of_nonneg hk1.1] at hrows; have hlen := qmG hrows; rw [show getO s.Tables q.KidTable = some (tableOf s q.KidTable) from qoL (by omega), zoB, if_pos rfl]
    have := qKR q q (rowsForF s q) (tableOf s q.KidTable) hk hlen hk2.1 (fun r hr => by
     obtain ⟨i, hi⟩ := List.getElem?_of_mem hr; have hc := qUM (qYH hrows hi)
     omega) (((lenI (tableOf s q.KidTable)) - 0).toNat + 1) 0 [] (by omega) (by rw [qF]; omega) (by simp)
    exact this
   | false =>
    have h0 : q.KidTable = 0 := by
     unfold queryB kidsB at h2; simp only [Bool.and_eq_true, decide_eq_true_eq, hk, if_false, Bool.false_eq_true] at h2; exact h2.2.2.2.1
    have hpos : 0 < s.Tables.length := by
     unfold schemaB at hl2; rw [Bool.and_eq_true, decide_eq_true_eq] at hl2; omega
    rw [h0, show getO s.Tables 0 = some (s.Tables.getD 0 []) from qoL (i := 0) (by omega), zoB, if_neg (by simp), qVD.l0, hk]
    have : bo3 (decide ((0 : Int) < lenI (s.Tables.getD 0 []))) false false = false := by cases decide ((0 : Int) < lenI (s.Tables.getD 0 [])) <;> rfl
    rw [this, zcF]
theorem qUO (s : Store) (q : Query) (hq : qWF q) : VB (viewOfF s q).1 ∧ qlF (viewOfF s q).1 ≤ qSE q + 200 := by
 have q0 := qCL q; unfold viewOfF
 split
 ·
  rename_i h
  rw [Bool.and_eq_true] at h; obtain ⟨r1, r2, r3⟩ := qJG s q; refine ⟨⟨hq, r3⟩, ?_⟩
  have hkl : (if q.Kids = true then kidsFold q.KidCol.toNat (tableOf s q.KidTable) [] else []).length ≤ 24 := by
   split
   ·
    rename_i hk
    obtain ⟨hk1, _⟩ := qRJ h.2 hk; have hl := (qKE h.1).1; have hrows := qwF h.1 (t := q.KidTable.toNat) (by omega); rw [Int.toNat_of_nonneg hk1.1] at hrows; have hlen := qmG hrows; have := qTO q.KidCol.toNat (tableOf s q.KidTable) []; simp only [zlN] at this; omega
   simp
  unfold qlF qyH; dsimp only; omega
 refine ⟨⟨by constructor <;> simp [noView, noQuery, qWG, IntS_b], by simp [noView]⟩, ?_⟩
 have : qlF noView = 0 := by simp [qlF, noView, noQuery, qSE, qkI, qkD, qUC, qyH]
 show qlF noView ≤ _
 omega
theorem qLR (q r11 : Query) (r12 rows : List Row) (hl : rows.length ≤ 24) (hc0 : 0 ≤ q.KidCol) (hc : ∀ r ∈ rows, q.KidCol < (r.Cells.length : Int)) : ∀ (k i : Nat) (acc : List Kid), i ≤ rows.length → rows.length < i + k → acc.length ≤ i → qCE.l0 q r11 r12 rows k acc i = some (⟨r11, r12, kidsFold q.KidCol.toNat (rows.drop i) acc⟩, true) := by
 intro k
 induction k with
 | zero => intro i acc h h'; omega
 | succ k ih =>
  intro i acc h h' ha; rw [qCE.l0, qF]
  by_cases hi : i < rows.length
  ·
   have h1 := hc _ (List.getElem_mem hi); rw [zdT (by omega), zcT, qd, zgE hi, zoB, show getO rows[i].Cells q.KidCol = some (rows[i].Cells.getD q.KidCol.toNat 0) from qPF ⟨hc0, by omega⟩, zoB, qGB (qGR acc _ 1 (by omega)), List.drop_eq_getElem_cons hi, qv (by omega)]; have := qbN acc (rows[i].Cells.getD q.KidCol.toNat 0) 1; exact ih (i + 1) _ (by omega) (by omega) (by omega)
  rw [zdF (by omega), zcF, List.drop_eq_nil_of_le (by omega)]; rfl
theorem qMR (s : Store) (q : Query) (hs : qvH s) (hq : qWF q) (hz : qSE q ≤ 1099511627776) : qCE.f s q = some (viewOfF s q) := by
 unfold qCE.f viewOfF; rw [qIG _ hs, zoB, qEF _ _ hs.1 hq]
 cases h1 : storeB s with
 | false => rfl
 | true =>
  cases h2 : queryB s.Schema q with
  | false => rfl
  | true =>
   simp only [qsC, Bool.not_true, Bool.not_false, bo3_F, bo3_T, qTC, zoB, zcF, Bool.true_and, if_true]; rw [qGB (qaN q hz), qGB (qTK s q hs hq)]; obtain ⟨hl1, hl2⟩ := qKE h1; have h3 := qQJ hl2
   cases hk : q.Kids with
   | true =>
    obtain ⟨hk1, hk2⟩ := qRJ h2 hk; have hcol := qZN hl2 hk1; rw [qfB (by omega)] at hk2; have hrows := qwF h1 (t := q.KidTable.toNat) (by omega); rw [Int.toNat_of_nonneg hk1.1] at hrows; have hlen := qmG hrows; rw [zcT, show getO s.Tables q.KidTable = some (tableOf s q.KidTable) from qoL (by omega), zoB, if_pos rfl]
    exact qLR q q (rowsForF s q) (tableOf s q.KidTable) hlen hk2.1 (fun r hr => by
     obtain ⟨i, hi⟩ := List.getElem?_of_mem hr; have hc := qUM (qYH hrows hi)
     omega) (((lenI (tableOf s q.KidTable)) - 0).toNat + 1) 0 [] (by omega) (by rw [qF]; omega) (by simp)
   | false =>
    rw [zcF, if_neg (by simp)]
theorem qmE (l : List Row) (id : Int) (h : l.length ≤ 9223372036854775807) : qZ.f l id = some (rowAtF l id 0) := by
 have key : ∀ (k i : Nat), i ≤ l.length → l.length < i + k → qZ.l0 l id k i = some (rowAtF (l.drop i) id i) := by
  intro k
  induction k with
  | zero => intro i h h'; omega
  | succ k ih =>
   intro i h h'
   by_cases hi : i < l.length
   ·
    have hx : l[i]? = some l[i] := zgE hi; rw [qZ.l0, qF, zdT (by omega), zcT, qd, hx, zoB, qiI.f, zoB, List.drop_eq_getElem_cons hi, rowAtF, qv (by omega)]
    by_cases e : (l[i]).Id = id
    · rw [zdT e, zcT, if_pos e]
    rw [zdF e, zcF, if_neg e]; exact ih (i + 1) (by omega) (by omega)
   rw [qZ.l0, qF, zdF (by omega), zcF, List.drop_eq_nil_of_le (by omega), rowAtF]
 have := key (((lenI l) - 0).toNat + 1) 0 (by omega) (by simp only [qF]; omega); rw [List.drop_zero] at this; exact this
theorem qnT (l : List Row) (id : Int) (h : l.length ≤ 9223372036854775807) : qPJ.f l id = some (rowAtF l id 0) := by
 unfold qPJ.f; rw [qmE l id h, zoB]
def viewRowB (s : Schema) (v : View) (i : Nat) (r : Row) : Bool :=
 rowB s v.Q.Table r && matchesB v.Q r && decide (rowAtF v.Rows r.Id 0 = (i : Int)) && (!decide (0 < i) || aheadB v.Q (v.Rows.getD (i - 1) default) r)
def viewKidB (l : List Kid) (i : Nat) (x : Kid) : Bool := decide (1 ≤ x.N ∧ x.N ≤ 24) && !(decide (0 < i) && decide (x.Id ≤ (l.getD (i - 1) default).Id))
def viewB (s : Schema) (v : View) : Bool :=
 queryB s v.Q && decide (v.Rows.length ≤ 24) && (v.Q.Kids || decide (v.Kids.length = 0)) && allFrom (viewRowB s v) v.Rows 0 && allFrom (viewKidB v.Kids) v.Kids 0
theorem qeV {α : Type} [Inhabited α] {l : List α} {i : Nat} {x : α} (hx : l[i]? = some x) (hl : i < 9223372036854775807) (h0 : 0 < i) : getO l (w64 ((i : Int) - 1)) = some (l.getD (i - 1) default) := by
 have hi := at_lt hx; rw [qfB (by omega), show ((i : Int) - 1) = ((i - 1 : Nat) : Int) by omega, qd, zgD, zgE (by omega)]; rfl
theorem qxX {α : Type} [Inhabited α] {l : List α} {i : Nat} (h : i < l.length) : l.getD i default ∈ l := by
 rw [zgD, zgE h]; exact List.getElem_mem h
theorem qVL (s : Schema) (v : View) (hs : qFE s) (hv : qSJ v) : qYC.f s v = some (viewB s v) := by
 obtain ⟨hq, hrows, hk⟩ := hv; obtain ⟨hrl, hr2⟩ := hrows; have hkl : v.Kids.length ≤ 9223372036854775807 := hk; have hqw := hq.1; unfold qYC.f viewB; rw [qEF _ _ hs hq, zoB, qF, qF]
 by_cases h24 : v.Rows.length ≤ 24
 case neg =>
  rw [zdT (show (24 : Int) < v.Rows.length by omega), zdF h24]
  cases queryB s v.Q <;> rfl
 rw [zdF (show ¬ (24 : Int) < v.Rows.length by omega), zdT h24]
 cases queryB s v.Q with
 | false => rfl
 | true =>
  have ek : bo3 (decide ((0 : Int) < v.Kids.length)) (bo3 v.Q.Kids false true) false = !(v.Q.Kids || decide (v.Kids.length = 0)) := by
   by_cases e : v.Kids.length = 0
   · simp [e, bo3]
   rw [zdT (show (0 : Int) < v.Kids.length by omega), zdF e]; cases v.Q.Kids <;> rfl
  rw [ek]
  cases hkk : (v.Q.Kids || decide (v.Kids.length = 0)) with
  | false => rfl
  | true =>
  rw [show bo3 (bo3 (bo3 true false true) true false) true (!true) = false from rfl, zcF]; simp only [joinK, Bool.true_and]; refine (qOD (f := qYC.l0 s v _) (l := v.Rows) (viewRowB s v) (some false) (some (allFrom (viewKidB v.Kids) v.Kids 0)) (fun k i x hx => ?_) (fun k i hi => ?_) _ 0 (by omega) (by (try simp only [qF]); omega)).trans ?_
  ·
   have hi := at_lt hx; have hxb := hr2 x (List.mem_of_getElem? hx); rw [qYC.l0, qF, zdT (by omega), zcT, qd, hx, zoB, qVM _ _ _ hs hxb, zoB, qQK _ _ hqw hxb, qnT _ _ hrl, qv (by omega)]; unfold viewRowB
   cases rowB s v.Q.Table x with
   | false => rfl
   | true =>
    cases matchesB v.Q x with
    | false => rfl
    | true =>
     simp only [bo3_F, bo3_T, qTC, zoB, Bool.true_and]
     by_cases h0 : 0 < i
     ·
      rw [zdT (show (0 : Int) < (i : Int) by omega), zdT h0, qeV hx (by omega) h0]; simp only [bo3_F, bo3_T, qTC, zoB, Bool.true_and]; rw [qWM _ _ _ (hr2 _ (qxX (by omega))) hxb, zoB]
      by_cases e : rowAtF v.Rows x.Id 0 = (i : Int)
      · cases aheadB v.Q (v.Rows.getD (i - 1) default) x <;> simp [e, bo3, gd]
      cases aheadB v.Q (v.Rows.getD (i - 1) default) x <;> simp [e, bo3, gd]
     rw [zdF (show ¬ (0 : Int) < (i : Int) by omega), zdF h0]; simp only [bo3_F, bo3_T, qTC, qxE, zoB, Bool.true_and]
     by_cases e : rowAtF v.Rows x.Id 0 = (i : Int)
     · simp [e]
     simp [e]
  ·
   rw [qYC.l0, qF, zdF (by omega), zcF]; refine (qOD (f := qYC.l1 v) (l := v.Kids) (viewKidB v.Kids) (some false) (some true) (fun k i x hx => ?_) (fun k i hi => ?_) _ 0 (by omega) (by (try simp only [qF]); omega)).trans ?_
   ·
    have hi := at_lt hx; rw [qYC.l1, qF, zdT (by omega), zcT, qd, hx, zoB, qGC, zoB, qQM hx (by omega), zoB, qv (by omega)]; unfold viewKidB; rw [show decide (0 < (i : Int)) = decide (0 < i) from by simp]
    cases decide (1 ≤ x.N ∧ x.N ≤ 24) <;> cases decide (0 < i) <;> (try rfl)
    simp only [bo3_F, bo3_T, Bool.true_and, zcT]
    by_cases e : x.Id ≤ (v.Kids.getD (i - 1) default).Id
    · simp [e]
    simp [e]
   · rw [qYC.l1, qF, zdF (by omega), zcF]
   cases allFrom (viewKidB v.Kids) v.Kids 0 <;> simp
  cases allFrom (viewRowB s v) v.Rows 0 <;> simp
theorem qyX (c : Bool) : bo3 c true false = c := by cases c <;> rfl
theorem qzX (x y : Cond) : bo3 (decide (x.Col = y.Col)) (bo3 (decide (x.Op = y.Op)) (bo3 (decide (x.V = y.V)) true false) false) false = decide (x = y) := by
 cases x; cases y
 simp [qTE, qyX, Bool.decide_and]
theorem qxI (a b : List Cond) (ha : qWG a) (hb : qWG b) : qaB.f a b = some (decide (a = b)) := by
 unfold qWG at ha hb; unfold qaB.f
 by_cases hl : a.length = b.length
 ·
  rw [zdF (by simp only [qF]; omega), zcF]; refine (qNK (f := qaB.l0 a b) hl (some false) (some true) (fun k i x y hx hy => ?_) (fun k i hi => ?_) _ (by simp only [qF]; omega)).trans ?_
  ·
   have hi := at_lt hx; rw [qaB.l0, qF, zdT (by omega), zcT, qd, hx, zoB, qd, hy, zoB, qzX, qsC, qv (by omega)]
   by_cases c : x = y
   · simp [c]
   simp [c]
  · rw [qaB.l0, qF, zdF (by omega), zcF]
  cases decide (a = b) <;> rfl
 rw [zdT (by simp only [qF]; omega), zcT, zdF (fun e => hl (by rw [e]))]
theorem qAI (a b : List Int) (ha : IntS_b a) (hb : IntS_b b) : qSC.f a b = some (decide (a = b)) := by
 unfold IntS_b at ha hb; unfold qSC.f
 by_cases hl : a.length = b.length
 ·
  rw [zdF (by simp only [qF]; omega), zcF]; refine (qNK (f := qSC.l0 a b) hl (some false) (some true) (fun k i x y hx hy => ?_) (fun k i hi => ?_) _ (by simp only [qF]; omega)).trans ?_
  ·
   have hi := at_lt hx; rw [qSC.l0, qF, zdT (by omega), zcT, qd, hx, zoB, qd, hy, zoB, qv (by omega)]
   by_cases c : x = y
   · simp [c]
   simp [c]
  · rw [qSC.l0, qF, zdF (by omega), zcF]
  cases decide (a = b) <;> rfl
 rw [zdT (by simp only [qF]; omega), zcT, zdF (fun e => hl (by rw [e]))]
def qsameB (a b : Query) : Bool := decide (a = b)
theorem qAY (a b : Query) : decide (a = b) = (decide (a.Table = b.Table) && decide (a.Where = b.Where) && decide (a.Order = b.Order) && (a.Down == b.Down) && decide (a.First = b.First) && decide (a.Show = b.Show) && (a.Kids == b.Kids) && decide (a.KidTable = b.KidTable) && decide (a.KidCol = b.KidCol)) := by
 cases a; cases b
 rw [Bool.eq_iff_iff]; simp [and_assoc]
theorem qdN (a b : Query) (ha : qWF a) (hb : qWF b) : qZF.f a b = some (decide (a = b)) := by
 unfold qZF.f; simp only [qxI _ _ ha.1 hb.1, qAI _ _ ha.2 hb.2, gd_of, zoB, qAY]
 cases decide (a.Table = b.Table) <;> cases decide (a.Order = b.Order) <;> cases decide (a.First = b.First) <;> cases a.Down <;> cases b.Down <;> first | rfl | skip
 all_goals cases decide (a.Where = b.Where) <;> cases decide (a.Show = b.Show) <;> cases a.Kids <;> cases b.Kids <;> cases decide (a.KidTable = b.KidTable) <;> cases decide (a.KidCol = b.KidCol) <;> rfl
theorem qmd (a b : Row) : decide (a = b) = (decide (a.Id = b.Id) && decide (a.Cells = b.Cells)) := by
 cases a; cases b
 rw [Bool.eq_iff_iff]; simp
theorem qtP (a b : Row) (ha : Row_b a) (hb : Row_b b) : qBH.f a b = some (decide (a = b)) := by
 unfold qBH.f; simp only [qAI _ _ ha hb, gd_of, zoB, qmd]
 cases decide (a.Id = b.Id) <;> cases decide (a.Cells = b.Cells) <;> rfl
theorem qnE (a b : List Row) (ha : qWP a) (hb : qWP b) : qV.f a b = some (decide (a = b)) := by
 obtain ⟨ha, ha2⟩ := ha; obtain ⟨hb, hb2⟩ := hb; unfold qV.f
 by_cases hl : a.length = b.length
 ·
  rw [zdF (by simp only [qF]; omega), zcF]; refine (qNK (f := qV.l0 a b) hl (some false) (some true) (fun k i x y hx hy => ?_) (fun k i hi => ?_) _ (by simp only [qF]; omega)).trans ?_
  ·
   have hi := at_lt hx; rw [qV.l0, qF, zdT (by omega), zcT, qd, hx, zoB, qd, hy, zoB, qtP x y (ha2 x (List.mem_of_getElem? hx)) (hb2 y (List.mem_of_getElem? hy)), zoB, qsC, qv (by omega)]
   by_cases c : x = y
   · simp [c]
   simp [c]
  · rw [qV.l0, qF, zdF (by omega), zcF]
  cases decide (a = b) <;> rfl
 rw [zdT (by simp only [qF]; omega), zcT, zdF (fun e => hl (by rw [e]))]
theorem qta (x y : Kid) : bo3 (decide (x.Id = y.Id)) (bo3 (decide (x.N = y.N)) true false) false = decide (x = y) := by
 cases x; cases y
 simp [qTE, qyX, Bool.decide_and]
theorem qTJ (a b : List Kid) (ha : qZS a) (hb : qZS b) : qgB.f a b = some (decide (a = b)) := by
 unfold qZS at ha hb; unfold qgB.f
 by_cases hl : a.length = b.length
 ·
  rw [zdF (by simp only [qF]; omega), zcF]; refine (qNK (f := qgB.l0 a b) hl (some false) (some true) (fun k i x y hx hy => ?_) (fun k i hi => ?_) _ (by simp only [qF]; omega)).trans ?_
  ·
   have hi := at_lt hx; rw [qgB.l0, qF, zdT (by omega), zcT, qd, hx, zoB, qd, hy, zoB, qta, qsC, qv (by omega)]
   by_cases c : x = y
   · simp [c]
   simp [c]
  · rw [qgB.l0, qF, zdF (by omega), zcF]
  cases decide (a = b) <;> rfl
 rw [zdT (by simp only [qF]; omega), zcT, zdF (fun e => hl (by rw [e]))]
theorem qua (a b : View) : decide (a = b) = (decide (a.Q = b.Q) && decide (a.Rows = b.Rows) && decide (a.Kids = b.Kids)) := by
 cases a; cases b
 rw [Bool.eq_iff_iff]; simp [and_assoc]
theorem qyJ (a b : View) (ha : qSJ a) (hb : qSJ b) : qdE.f a b = some (decide (a = b)) := by
 unfold qdE.f; simp only [qdN _ _ ha.1 hb.1, qnE _ _ ha.2.1 hb.2.1, qTJ _ _ ha.2.2 hb.2.2, gd_of, zoB, qua]
 cases decide (a.Q = b.Q) <;> cases decide (a.Rows = b.Rows) <;> cases decide (a.Kids = b.Kids) <;> rfl
def kidN : List Kid → Int → Int
 | [], _ => 0
 | k :: l, id => if k.Id = id then k.N else kidN l id
theorem qfV {R α : Type} {f : Nat → Int → Option R} {l : List α} (F : List α → Option R) (h0 : ∀ k (i : Nat) x, l[i]? = some x → f k ((i + 1 : Nat) : Int) = F (l.drop (i + 1)) → f (k + 1) i = F (x :: l.drop (i + 1))) (h1 : ∀ k (i : Nat), i = l.length → f (k + 1) i = F []) :
  ∀ (k i : Nat), i ≤ l.length → l.length < i + k → f k i = F (l.drop i)
 | 0, i, h, h' => by omega
 | k + 1, i, h, h' => by
  by_cases hi : i < l.length
  ·
   rw [List.drop_eq_getElem_cons hi]; exact h0 k i _ (zgE hi) (qfV F h0 h1 k (i + 1) (by omega) (by omega))
  rw [h1 k i (by omega), List.drop_eq_nil_of_le (by omega)]
theorem qNR (v : View) (id : Int) (hv : qSJ v) : qgD.f v id = some (kidN v.Kids id) := by
 have hl : v.Kids.length ≤ 9223372036854775807 := hv.2.2; unfold qgD.f; refine (qfV (f := qgD.l0 v id) (l := v.Kids) (fun l => some (kidN l id)) (fun k i x hx ih => ?_) (fun k i hi => ?_) _ 0 (by omega) (by (try simp only [qF]); omega)).trans (by rw [List.drop_zero])
 ·
  have hi := at_lt hx; rw [qgD.l0, qF, zdT (by omega), zcT, qd, hx, zoB, qv (by omega), kidN]
  by_cases c : x.Id = id
  · rw [zdT c, zcT, if_pos c]
  rw [zdF c, zcF, if_neg c, ih]
 rw [qgD.l0, qF, zdF (by omega), zcF, kidN]
theorem qeM (v : View) (hv : qSJ v) (hn : v.Rows.length ≤ 2097152) : qfC.f v = some (v.Rows.map fun r => kidN v.Kids r.Id) := by
 unfold qfC.f; refine (qeT (f := qfC.l0 v) (l := v.Rows) (fun r => kidN v.Kids r.Id) (fun z => some z) (fun k i acc x hx ha => ?_) (fun k i acc hi => ?_) _ 0 [] (by omega) (by rw [qF]; omega) (by simp)).trans (by rw [List.drop_zero, List.nil_append])
 ·
  have hi := at_lt hx; rw [qfC.l0, qF, zdT (by omega), zcT, qd, hx, zoB, qNR v _ hv, zoB, zoB, qWC (by simp only [zlC, zlN]; omega), zoB, qv (by omega)]
 rw [qfC.l0, qF, zdF (by omega), zcF]
def viewDocF (v : View) : Json := docOfF v.Q v.Rows (v.Rows.map fun r => kidN v.Kids r.Id)
theorem quP (v : View) (hv : qSJ v) (hc : In64 v.Q.Show) (hl : v.Q.Show.length ≤ 2097152) (hn : v.Rows.length ≤ 2097152) : qCH.f v = some (viewDocF v) := by
 unfold qCH.f viewDocF; rw [qeM v hv hn, zoB, qYM v.Q v.Rows _ hc hl hv.2.1.2 hn (by rw [List.length_map]; omega), zoB]
theorem Qr3.sz {q : Query} (h : Qr3 q) : qSE q ≤ 20 := by
 obtain ⟨h1, h2, _⟩ := h; unfold qSE qkI qkD; omega
theorem qvP {b : List Int} {i : Int} (h : Int) (hc : CI b i) : ∃ i' h' s q, qVE.f (l1Cur.mk b i h) = some (l1Cur.mk b i' h', s, (viewOfF s q).1) ∧ CI b i' ∧ DSt s ∧ Qr3 q := by
 unfold qVE.f; obtain ⟨c1, h1, s, e1, k1, d1⟩ := qQL h hc; rw [qGB e1]; dsimp only; obtain ⟨c2, h2, q, e2, k2, d2, dq⟩ := qRL h1 s.Schema d1.SB k1; obtain ⟨s1, s2⟩ := qcP d1.ok; rw [qGB e2]; dsimp only; rw [qGB (qUL s q s1 d2.qb.b (by have := d2.sz; omega))]; exact ⟨_, _, _, _, rfl, k2, d1, d2⟩
theorem QB.sz {q : Query} (h : QB q) : qSE q ≤ 30 := by
 obtain ⟨h1, h2, _⟩ := h; unfold qSE qkI qkD; omega
theorem qeN {b : List Int} {i : Int} (h : Int) (hc : CI b i) : ∃ i' h' s v, qCF.f (l1Cur.mk b i h) = some (l1Cur.mk b i' h', s, v) ∧ CI b i' ∧ SB s ∧ VB v ∧ qlF v ≤ 1000 := by
 unfold qCF.f; obtain ⟨i1, h1, s, q, e1, k1, d1, d2⟩ := qvP h hc; rw [qGB e1]; dsimp only; obtain ⟨b1, b2⟩ := qUO s q d2.qb.b; have z := d2.sz; generalize (viewOfF s q).1 = v at *; have y1 := qCL v.Q; have y2 := qUE qeE v.Rows; have y3 := qpP v.Kids
 have hz : qSE v.Q + qUC v.Rows + qyH v.Kids ≤ 220 := by unfold qlF at b2; omega
 have hl : v.Rows.length ≤ 220 := by unfold qUC at hz; omega
 have hk : v.Kids.length ≤ 220 := by unfold qUC qyH at hz; unfold qyH at y3; omega
 obtain ⟨i2, h2, x2, e2, k2, _⟩ := qxB h1 15 k1; rw [qGB e2]; dsimp only
 by_cases c0 : x2 = 0
 ·
  rw [zdT c0, zcT, qF]
  by_cases c : 0 < v.Rows.length
  ·
   have hm := qfJ qeE (List.getElem_mem c); rw [zdT (by omega), zcT, qPP, zgE c, zoB, zoB, qWC (by simp only [zlC, zlN]; omega), zoB]; refine ⟨_, _, _, _, rfl, k2, d1.SB, ⟨b1.1, qEL b1.2 (b1.2 _ (List.getElem_mem c))⟩, ?_⟩; unfold qlF; unfold qUC at hz ⊢; dsimp only; rw [sum_append]; simp only [zlA, zlC, zlN, List.map_cons, List.map_nil, List.sum_cons, List.sum_nil]; omega
  rw [zdF (by omega), zcF]; exact ⟨_, _, _, _, rfl, k2, d1.SB, b1, by omega⟩
 rw [zdF c0, zcF]
 by_cases c1 : x2 = 1
 ·
  obtain ⟨i3, h3, x3, e3, k3, _⟩ := qxB h2 5 k2; obtain ⟨i4, h4, x4, e4, k4, _⟩ := qxB h3 3 k3; rw [zdT c1, zcT, qGB e3]; dsimp only; rw [qGB e4]; dsimp only; rw [zoB, qWC (by simp only [zlC, zlN]; omega), zoB]; refine ⟨_, _, _, _, rfl, k4, d1.SB, b1, ?_⟩; unfold qlF; unfold qyH at hz ⊢; dsimp only; simp only [zlA, zlC, zlN]; omega
 rw [zdF c1, zcF]
 by_cases c2 : x2 = 2
 ·
  obtain ⟨i3, h3, q3, e3, k3, d3⟩ := qcV h2 s.Schema d1.SB k2; have := d3.sz; rw [zdT c2, zcT, qGB e3]; exact ⟨_, _, _, _, rfl, k3, d1.SB, ⟨d3.b, b1.2⟩, by unfold qlF; dsimp only; omega⟩
 rw [zdF c2, zcF]
 by_cases c3 : x2 = 3
 ·
  rw [zdT c3, zcT, qF]
  by_cases c : 0 < v.Rows.length
  ·
   obtain ⟨i3, h3, x3, e3, k3, _⟩ := qxB h2 12 k2; have hm := qfJ qeE (List.getElem_mem c); have hs := quW qeE (Row.mk x3 (v.Rows[0]).Cells) v.Rows 0; have he : qbD (Row.mk x3 (v.Rows[0]).Cells) = qbD v.Rows[0] := rfl; rw [zdT (by omega), zcT, qGB e3]; dsimp only; rw [qPP, zgE c, zoB, zoB, show setI v.Rows 0 (Row.mk x3 (v.Rows[0]).Cells) = v.Rows.set 0 (Row.mk x3 (v.Rows[0]).Cells) from rfl]; refine ⟨_, _, _, _, rfl, k3, d1.SB, ⟨b1.1, fun x hx => ?_⟩, ?_⟩
   ·
    rcases List.mem_or_eq_of_mem_set hx with hx | rfl
    · exact b1.2 x hx
    exact b1.2 v.Rows[0] (List.getElem_mem c)
   unfold qlF; unfold qUC at hz ⊢; dsimp only; rw [List.length_set]; omega
  rw [zdF (by omega), zcF]; exact ⟨_, _, _, _, rfl, k2, d1.SB, b1, by omega⟩
 rw [zdF c3, zcF]; exact ⟨_, _, _, _, rfl, k2, d1.SB, b1, by omega⟩
theorem qoT (code : List Int) (hl : (code.length : Int) ≤ 1048576) : ∃ s v, qWE.f code = some (s, v) ∧ SB s ∧ qSJ v := by
 unfold qWE.f; obtain ⟨h0, e0, k0⟩ := qfT code hl; rw [qGB e0]; obtain ⟨i1, h1, s, v, e1, k1, d1, d2, d3⟩ := qeN h0 k0; rw [qGB e1]; exact ⟨_, _, rfl, d1, qcN d2 (by first | omega | (dsimp only; omega))⟩
theorem qOR (l : List Row) (h : qUC l ≤ 1099511627776) : qhD.f l = some l := by
 unfold qUC at h; have p := qUE qeE l; unfold qhD.f; refine qKV (f := qhD.l0 l) (l := l) some (fun k i x hx => ?_) (fun k s i hi => ?_) _ 0 (by omega) (by (try simp only [qF]); omega)
 ·
  have hi := at_lt hx; have hm := qfJ qeE (List.mem_of_getElem? hx); rw [qhD.l0, qF, zdT (by omega), zcT, qd, hx, zoB, qbF x (by omega), zoB, zoB, qWC (by simp only [zlT, zlC, zlN]; omega), zoB, qv (by omega)]
 rw [qhD.l0, qF, zdF (by omega), zcF]
theorem qwP (v : View) (h : qlF v ≤ 1099511627776) : qDH.f v = some v := by
 have p1 := qCL v.Q; have p2 := qGG v.Rows; have p3 := qpP v.Kids; unfold qlF at h; unfold qyH at p3 h; unfold qDH.f; rw [qTL _ (by omega), zoB, qOR _ (by omega), zoB, qWC (by simp only [zlN]; omega), zoB]; rfl
theorem qxP (code : List Int) (hl : (code.length : Int) ≤ 1048576) : ∃ a b, qzD.f code = some (a, b) ∧ qSJ a ∧ qSJ b := by
 unfold qzD.f; obtain ⟨h0, e0, k0⟩ := qfT code hl; rw [qGB e0]; obtain ⟨i1, h1, s, v, e1, k1, d1, d2, d3⟩ := qeN h0 k0; rw [qGB e1]; dsimp only; obtain ⟨i2, h2, x2, e2, k2⟩ := qaM h1 2 k1; rw [qGB e2]; dsimp only
 cases x2 with
 | true =>
  rw [zcT, qGB (qwP v (by omega))]; exact ⟨_, _, rfl, qcN d2 (by first | omega | (dsimp only; omega)), qcN d2 (by first | omega | (dsimp only; omega))⟩
 | false =>
  obtain ⟨i3, h3, s3, v3, e3, k3, f1, f2, f3⟩ := qeN h2 k2; rw [zcF, qGB e3]; exact ⟨_, _, rfl, qcN d2 (by first | omega | (dsimp only; omega)), qcN f2 (by first | omega | (dsimp only; omega))⟩
theorem qPR (s : Schema) (v : View) (hs : qFE s) (hv : qSJ v) : qbC.f s v = some (viewB s v) := by
 obtain ⟨hq, hrows, hk⟩ := hv; obtain ⟨hrl, hr2⟩ := hrows; have hkl : v.Kids.length ≤ 9223372036854775807 := hk; have hqw := hq.1; unfold qbC.f viewB; rw [qzH _ _ hs hq, zoB, qF]
 by_cases h24 : v.Rows.length ≤ 24
 case neg =>
  rw [zdT (show (24 : Int) < v.Rows.length by omega), zdF h24]
  cases queryB s v.Q <;> rfl
 rw [zdF (show ¬ (24 : Int) < v.Rows.length by omega), zdT h24]
 cases queryB s v.Q with
 | false => rfl
 | true =>
  rw [show bo3 (bo3 true false true) true false = false from rfl, zcF]; simp only [joinK, Bool.true_and]; refine (qOD (f := qbC.l0 s v _) (l := v.Rows) (viewRowB s v) (some false) (some ((v.Q.Kids || decide (v.Kids.length = 0)) && allFrom (viewKidB v.Kids) v.Kids 0)) (fun k i x hx => ?_) (fun k i hi => ?_) _ 0 (by omega) (by (try simp only [qF]); omega)).trans ?_
  ·
   have hi := at_lt hx; have hxb := hr2 x (List.mem_of_getElem? hx); rw [qbC.l0, qF, zdT (by omega), zcT, qd, hx, zoB, qcM _ _ _ hs hxb, zoB, qWK _ _ hqw hxb, qmJ _ _ hrl, qv (by omega)]; unfold viewRowB
   cases rowB s v.Q.Table x with
   | false => rfl
   | true =>
    cases matchesB v.Q x with
    | false => rfl
    | true =>
     simp only [bo3_F, bo3_T, qTC, zoB, Bool.true_and]
     by_cases e : rowAtF v.Rows x.Id 0 = (i : Int)
     case neg => rw [zdT (show rowAtF v.Rows x.Id 0 ≠ (i : Int) from e), zdF e]; rfl
     rw [zdF (show ¬ (rowAtF v.Rows x.Id 0 ≠ (i : Int)) from fun h => h e), zdT e]
     by_cases h0 : 0 < i
     ·
      rw [zdT (show (0 : Int) < (i : Int) by omega), zdT h0, qeV hx (by omega) h0]; simp only [bo3_F, bo3_T, qTC, zoB, Bool.true_and]; rw [qdM _ _ _ (hr2 _ (qxX (by omega))) hxb, zoB]
      cases aheadB v.Q (v.Rows.getD (i - 1) default) x <;> rfl
     rw [zdF (show ¬ (0 : Int) < (i : Int) by omega), zdF h0]; rfl
  ·
   rw [qbC.l0, qF, zdF (by omega), zcF]; refine (qOD (f := qbC.l1 v) (l := v.Kids) (viewKidB v.Kids) (some false) (some (v.Q.Kids || decide (v.Kids.length = 0))) (fun k i x hx => ?_) (fun k i hi => ?_) _ 0 (by omega) (by (try simp only [qF]); omega)).trans ?_
   ·
    have hi := at_lt hx; rw [qbC.l1, qF, zdT (by omega), zcT, qd, hx, zoB, qNC, zoB, qQM hx (by omega), zoB, qv (by omega)]; unfold viewKidB; rw [show decide (0 < (i : Int)) = decide (0 < i) from by simp]
    cases decide (1 ≤ x.N ∧ x.N ≤ 24) <;> cases decide (0 < i) <;> (try rfl)
    simp only [bo3_F, bo3_T, Bool.true_and, zcT]
    by_cases e : x.Id ≤ (v.Kids.getD (i - 1) default).Id
    · simp [e]
    simp [e]
   · rw [qbC.l1, qF, zdF (by omega), zcF, qRS, show decide ((v.Kids.length : Int) = 0) = decide (v.Kids.length = 0) from by rw [decide_eq_decide]; omega]
   cases allFrom (viewKidB v.Kids) v.Kids 0 <;> simp
  cases allFrom (viewRowB s v) v.Rows 0 <;> simp
theorem qpT {R α : Type} [DecidableEq α] {f : Nat → Int → Option R} {l m : List α} (c : Bool → R) (h0 : ∀ k (i : Nat) x y, l[i]? = some x → m[i]? = some y → f (k + 1) i = bif decide (x = y) then f k ((i + 1 : Nat) : Int) else some (c false)) (h1 : ∀ k (i : Nat), i ≤ l.length → i ≤ m.length → (i = l.length ∨ i = m.length) → f (k + 1) i = some (c (decide (l.length = m.length)))) :
  ∀ (k i : Nat), i ≤ l.length → i ≤ m.length → l.length < i + k → l.take i = m.take i → f k (i : Int) = some (c (decide (l = m)))
 | 0, i, h, h', h2, _ => by omega
 | k + 1, i, h, h', h2, ht => by
  by_cases hi : i < l.length ∧ i < m.length
  ·
   have hx : l[i]? = some l[i] := zgE hi.1; have hy : m[i]? = some m[i] := zgE hi.2; rw [h0 k i _ _ hx hy]
   by_cases e : l[i] = m[i]
   ·
    rw [zdT e, zcT]; exact qpT c h0 h1 k (i + 1) (by omega) (by omega) (by omega) (by rw [List.take_add_one, List.take_add_one, ht, hx, hy, e])
   rw [zdF e, zcF, zdF (fun h => e (by subst h; rfl))]
  rw [h1 k i h h' (by omega)]; congr 2; rw [decide_eq_decide]; constructor
  ·
   intro hl; rw [← List.take_of_length_le (l := l) (i := i) (by omega), ht, List.take_of_length_le (by omega)]
  intro e; rw [e]
theorem qyP (a b : List Cond) (ha : qWG a) (hb : qWG b) : qMD.f a b = some (decide (a = b)) := by
 unfold qWG at ha hb; unfold qMD.f; refine qpT (f := qMD.l0 a b) (l := a) (m := b) id (fun k i x y hx hy => ?_) (fun k i h1 h2 hi => ?_) _ 0 (by omega) (by omega) (by (try simp only [qF]); omega) rfl
 ·
  have hi := at_lt hx; have hj := at_lt hy; rw [qMD.l0, qF, qF, zdT (by omega : (i : Int) < a.length), zdT (by omega : (i : Int) < b.length), show bo3 true true false = true from rfl, zcT, qd, hx, zoB, qd, hy, zoB, qzX, qsC, qv (by omega)]
  by_cases c : x = y
  · simp [c]
  simp [c]
 rw [qMD.l0, qF, qF]
 have : (bo3 (decide ((i : Int) < a.length)) (decide ((i : Int) < b.length)) false) = false := by
  rw [qTE, ← Bool.decide_and]; exact zdF (by omega)
 rw [this, zcF]; simp only [id_eq, zoI, decide_eq_decide]; omega
theorem qQR (a b : List Int) (ha : IntS_b a) (hb : IntS_b b) : qiD.f a b = some (decide (a = b)) := by
 unfold IntS_b at ha hb; unfold qiD.f; refine qpT (f := qiD.l0 a b) (l := a) (m := b) id (fun k i x y hx hy => ?_) (fun k i h1 h2 hi => ?_) _ 0 (by omega) (by omega) (by (try simp only [qF]); omega) rfl
 ·
  have hi := at_lt hx; have hj := at_lt hy; rw [qiD.l0, qF, qF, zdT (by omega : (i : Int) < a.length), zdT (by omega : (i : Int) < b.length), show bo3 true true false = true from rfl, zcT, qd, hx, zoB, qd, hy, zoB,  qv (by omega)]
  by_cases c : x = y
  · simp [c]
  simp [c]
 rw [qiD.l0, qF, qF]
 have : (bo3 (decide ((i : Int) < a.length)) (decide ((i : Int) < b.length)) false) = false := by
  rw [qTE, ← Bool.decide_and]; exact zdF (by omega)
 rw [this, zcF]; simp only [id_eq, zoI, decide_eq_decide]; omega
theorem qfN (a b : Query) (ha : qWF a) (hb : qWF b) : qaF.f a b = some (decide (a = b)) := by
 unfold qaF.f; simp only [qyP _ _ ha.1 hb.1, qQR _ _ ha.2 hb.2, gd_of, zoB, qAY]
 cases decide (a.Table = b.Table) <;> cases decide (a.Where = b.Where) <;> cases decide (a.Order = b.Order) <;> cases decide (a.First = b.First) <;> cases a.Down <;> cases b.Down <;> first | rfl | skip
 all_goals cases decide (a.Show = b.Show) <;> cases a.Kids <;> cases b.Kids <;> cases decide (a.KidTable = b.KidTable) <;> cases decide (a.KidCol = b.KidCol) <;> rfl
theorem qzP (a b : Row) (ha : Row_b a) (hb : Row_b b) : qND.f a b = some (decide (a = b)) := by
 have h1 : a.Cells.length ≤ 9223372036854775807 := ha; unfold qND.f; rw [qmd]
 by_cases c : a.Id = b.Id
 case neg => simp [c, bo3]
 by_cases hl : a.Cells.length = b.Cells.length
 case neg => rw [zdT (show lenI a.Cells ≠ lenI b.Cells by simp only [qF]; omega), qRS, Bool.or_true, zcT, zdF (show ¬ a.Cells = b.Cells from fun e => hl (by rw [e])), Bool.and_false]
 rw [zdF (show ¬ lenI a.Cells ≠ lenI b.Cells by simp only [qF]; omega), zdF (show ¬ a.Id ≠ b.Id from fun e => e c), show bo3 false true false = false from rfl, zcF, zdT c, Bool.true_and]; refine (qNK (f := qND.l0 a b) hl (some false) (some true) (fun k i x y hx hy => ?_) (fun k i hi => ?_) _ (by simp only [qF]; omega)).trans ?_
 ·
  have hi := at_lt hx; rw [qND.l0, qF, zdT (by omega), zcT, qd, hx, zoB, qd, hy, zoB, qv (by omega)]
  by_cases c : x = y
  · simp [c]
  simp [c]
 · rw [qND.l0, qF, zdF (by omega), zcF]
 cases decide (a.Cells = b.Cells) <;> rfl
theorem qZO (a b : View) (ha : qSJ a) (hb : qSJ b) : qwB.f a b = some (decide (a = b)) := by
 obtain ⟨ha0, ⟨ha1, ha2⟩, ha3⟩ := ha; obtain ⟨hb0, ⟨hb1, hb2⟩, hb3⟩ := hb; unfold qZS at ha3 hb3; unfold qwB.f; rw [qfN _ _ ha0 hb0, zoB, qua]
 by_cases c0 : a.Q = b.Q
 case neg => rw [zdF c0]; rfl
 by_cases c1 : a.Rows.length = b.Rows.length
 case neg =>
  rw [zdT (show lenI a.Rows ≠ lenI b.Rows by simp only [qF]; omega), zdF (show ¬ a.Rows = b.Rows from fun e => c1 (by rw [e])), Bool.and_false, Bool.false_and]
  cases decide (a.Q = b.Q) <;> cases decide (lenI a.Kids ≠ lenI b.Kids) <;> rfl
 by_cases c2 : a.Kids.length = b.Kids.length
 case neg =>
  rw [zdT (show lenI a.Kids ≠ lenI b.Kids by simp only [qF]; omega), zdF (show ¬ a.Kids = b.Kids from fun e => c2 (by rw [e])), Bool.and_false, qRS, Bool.or_true, zcT]
 rw [zdT c0, zdF (show ¬ lenI a.Rows ≠ lenI b.Rows by simp only [qF]; omega), zdF (show ¬ lenI a.Kids ≠ lenI b.Kids by simp only [qF]; omega), show bo3 (bo3 (bo3 true false true) true false) true false = false from rfl, zcF, Bool.true_and]; simp only [joinK]; refine (qNK (f := qwB.l0 a b _) c1 (some false) (some (decide (a.Kids = b.Kids))) (fun k i x y hx hy => ?_) (fun k i hi => ?_) _ (by (try simp only [qF]); omega)).trans ?_
 ·
  have hi := at_lt hx; rw [qwB.l0, qF, zdT (by omega), zcT, qd, hx, zoB, qd, hy, zoB, qzP x y (ha2 x (List.mem_of_getElem? hx)) (hb2 y (List.mem_of_getElem? hy)), zoB, qsC, qv (by omega)]
  by_cases c : x = y
  · simp [c]
  simp [c]
 ·
  rw [qwB.l0, qF, zdF (by omega), zcF]; refine (qNK (f := qwB.l1 a b) c2 (some false) (some true) (fun k i x y hx hy => ?_) (fun k i hi => ?_) _ (by (try simp only [qF]); omega)).trans ?_
  ·
   have hi := at_lt hx; rw [qwB.l1, qF, zdT (by omega), zcT, qd, hx, zoB, qd, hy, zoB, qta, qsC, qv (by omega)]
   by_cases c : x = y
   · simp [c]
   simp [c]
  · rw [qwB.l1, qF, zdF (by omega), zcF]
  cases decide (a.Kids = b.Kids) <;> rfl
 cases decide (a.Rows = b.Rows) <;> rfl
theorem qwW (l : List Int) : qRM.f l = some (decide (1048576 < (l.length : Int))) := by unfold qRM.f; rw [qF]
theorem qBY (col : Nat) (x : Int) : ∀ (l : List Row) (n : Int), countC col x l n = n + (l.countP fun r => decide (r.Cells.getD col 0 = x) : Nat)
 | [], n => by simp [countC]
 | r :: l, n => by
  rw [countC, qBY col x l, List.countP_cons]
  by_cases c : r.Cells.getD col 0 = x
  · rw [if_pos c, if_pos (zdT c)]; omega
  rw [if_neg c, if_neg (by rw [zdF c]; simp)]; omega
theorem qva {s : Schema} {t : Int} {r : Row} (h : rowB s t r = true) : (1 ≤ r.Id ∧ r.Id ≤ 999) ∧ ∀ x ∈ r.Cells, -1000000000 ≤ x ∧ x ≤ 1000000000 := by
 unfold rowB at h; simp only [Bool.and_eq_true, decide_eq_true_eq] at h; exact ⟨h.1.1.2, fun x hx => of_decide_eq_true (List.all_eq_true.1 h.2 x hx)⟩
theorem qqT {s : Store} {q : Query} (h1 : storeB s = true) (h2 : queryB s.Schema q = true) : (∀ r ∈ tableOf s q.Table, rowB s.Schema q.Table r = true) ∧ (tableOf s q.Table).length ≤ 24 ∧ Srt q (rowsForF s q) ∧ (rowsForF s q).Perm ((tableOf s q.Table).filter (matchesB q)) := by
 obtain ⟨t1, t2⟩ := qxH h2; have hl := (qKE h1).1; have hrows := qwF h1 (t := q.Table.toNat) (by omega); rw [Int.toNat_of_nonneg t1] at hrows
 have hd : Dst (tableOf s q.Table) := (qbT hrows).imp fun h e => by omega
 obtain ⟨g1, g2⟩ := qsO (q := q) (tableOf s q.Table) [] List.Pairwise.nil (by simpa using hd); rw [List.nil_append] at g2; refine ⟨fun r hr => ?_, qmG hrows, ?_, ?_⟩
 ·
  obtain ⟨i, hi⟩ := List.getElem?_of_mem hr; exact qYH hrows hi
 · unfold rowsForF; rw [h1, h2]; exact g1
 unfold rowsForF; rw [h1, h2]; exact g2
def KidsUp : Int → List Kid → Prop
 | _, [] => True
 | lo, k :: l => lo < k.Id ∧ 1 ≤ k.N ∧ k.N ≤ 1000000 ∧ KidsUp k.Id l
theorem KidsUp.mono {lo lo' : Int} (h : lo' ≤ lo) : ∀ {l : List Kid}, KidsUp lo l → KidsUp lo' l
 | [], _ => trivial
 | _ :: _, hk => ⟨by have := hk.1; omega, hk.2⟩
theorem KidsUp.mem : ∀ {l : List Kid} {lo : Int}, KidsUp lo l → ∀ k ∈ l, lo < k.Id ∧ 1 ≤ k.N ∧ k.N ≤ 1000000
 | k :: l, lo, h, x, hx => by
  rcases List.mem_cons.1 hx with rfl | hx
  · exact ⟨h.1, h.2.1, h.2.2.1⟩
  have := h.2.2.2.mem x hx; exact ⟨by have := h.1; omega, this.2⟩
theorem qrT {id : Int} : ∀ {l : List Kid} {lo : Int}, KidsUp lo l → id ≤ lo → kidN l id = 0
 | [], _, _, _ => rfl
 | k :: l, lo, h, hi => by
  rw [kidN, if_neg (by have := h.1; omega)]; exact qrT h.2.2.2 (by have := h.1; omega)
def maxZ (n : Int) : Int := if n < 0 then 0 else n
theorem qwa {n : Int} (h : n ≤ 0) : maxZ n = 0 := by unfold maxZ; split <;> omega
theorem qCY {n : Int} (h : 0 ≤ n) : maxZ n = n := by unfold maxZ; split <;> omega
theorem qyY (id by_ : Int) : kidPutF [] id by_ = if 0 < by_ then [⟨id, by_⟩] else [] := by
 unfold kidPutF; simp
theorem qRR {k : Kid} {l : List Kid} {id by_ : Int} (h : k.Id < id) : kidPutF (k :: l) id by_ = k :: kidPutF l id by_ := by
 unfold kidPutF; have e : isKid id k = false := zdF (by omega); rw [List.findIdx_cons, e]; simp only [zcF, List.getElem?_cons_succ]
 cases l[l.findIdx (isKid id)]? with
 | none => dsimp only; split <;> simp
 | some x =>
  dsimp only
  split
  · split <;> simp
  split <;> simp
theorem qSR {k : Kid} {l : List Kid} {id by_ : Int} (h : k.Id = id) : kidPutF (k :: l) id by_ = if 0 < w64 (k.N + by_) then ⟨id, w64 (k.N + by_)⟩ :: l else l := by
 unfold kidPutF; have e : isKid id k = true := zdT (by omega); rw [List.findIdx_cons, e]; simp [h]
theorem qTR {k : Kid} {l : List Kid} {id by_ : Int} (h : id < k.Id) : kidPutF (k :: l) id by_ = if 0 < by_ then ⟨id, by_⟩ :: k :: l else k :: l := by
 unfold kidPutF; have e : isKid id k = true := zdT (by omega); rw [List.findIdx_cons, e]; simp only [zcT, List.getElem?_cons_zero]; rw [if_neg (by omega)]; simp
theorem qaS {id by_ : Int} (hb : -1000000 ≤ by_ ∧ by_ ≤ 1000000) : ∀ {l : List Kid} {lo : Int}, KidsUp lo l → lo < id → (∀ k ∈ l, k.N + by_ ≤ 1000000) →
  KidsUp lo (kidPutF l id by_) ∧ ∀ x, kidN (kidPutF l id by_) x = if x = id then maxZ (kidN l id + by_) else kidN l x
 | [], lo, _, hlo, _ => by
  rw [qyY]
  by_cases h : 0 < by_
  ·
   rw [if_pos h]; refine ⟨⟨hlo, by dsimp only; omega, by dsimp only; omega, trivial⟩, fun x => ?_⟩; simp only [kidN]
   by_cases e : x = id
   · rw [if_pos e.symm, if_pos e, qCY (by omega)]; omega
   rw [if_neg (fun h => e h.symm), if_neg e]
  ·
   rw [if_neg h]; refine ⟨trivial, fun x => ?_⟩; simp only [kidN]; rw [qwa (by omega)]
   split <;> rfl
 | k :: l, lo, hu, hlo, hn => by
  obtain ⟨u1, u2, u3, u4⟩ := hu
  by_cases c : k.Id < id
  ·
   obtain ⟨r1, r2⟩ := qaS hb u4 c (fun x hx => hn x (List.mem_cons_of_mem _ hx)); rw [qRR c]; refine ⟨⟨u1, u2, u3, r1⟩, fun x => ?_⟩; simp only [kidN]; rw [r2 x, if_neg (show ¬ k.Id = id by omega)]
   by_cases e : x = id
   · rw [if_pos e, if_pos e, if_neg (by omega)]
   rw [if_neg e, if_neg e]
  by_cases d : k.Id = id
  ·
   have hnk := hn k (List.mem_cons_self ..); have hw : w64 (k.N + by_) = k.N + by_ := qfB (by omega); rw [qSR d, hw]
   by_cases p : 0 < k.N + by_
   ·
    rw [if_pos p]; refine ⟨⟨hlo, by dsimp only; omega, by dsimp only; omega, u4.mono (by dsimp only; omega)⟩, fun x => ?_⟩; simp only [kidN]; rw [if_pos d]
    by_cases e : x = id
    · rw [if_pos e.symm, if_pos e, qCY (by omega)]
    rw [if_neg (fun h => e h.symm), if_neg e, if_neg (by omega)]
   rw [if_neg p]; refine ⟨u4.mono (by omega), fun x => ?_⟩; simp only [kidN]; rw [if_pos d]
   by_cases e : x = id
   · rw [if_pos e, qwa (by omega), qrT u4 (by omega)]
   rw [if_neg e, if_neg (by omega)]
  rw [qTR (by omega)]; have hz : kidN (k :: l) id = 0 := qrT (lo := id) (l := k :: l) ⟨by omega, u2, u3, u4⟩ (by omega); rw [hz]
  by_cases p : 0 < by_
  ·
   rw [if_pos p]; refine ⟨⟨hlo, by dsimp only; omega, by dsimp only; omega, by dsimp only; omega, u2, u3, u4⟩, fun x => ?_⟩; rw [kidN]
   by_cases e : x = id
   · rw [if_pos e.symm, if_pos e, qCY (by omega)]; dsimp only; omega
   rw [if_neg (fun h => e h.symm), if_neg e]
  rw [if_neg p]; refine ⟨⟨u1, u2, u3, u4⟩, fun x => ?_⟩
  by_cases e : x = id
  · rw [if_pos e, qwa (by omega), e, hz]
  rw [if_neg e]
theorem qBd {id by_ B : Int} {l : List Kid} (h : ∀ k ∈ l, k.N ≤ B) (hb : 0 ≤ by_) (hB : 0 ≤ B ∧ B + by_ ≤ 9223372036854775807) (h0 : ∀ k ∈ l, 0 ≤ k.N) : ∀ k ∈ kidPutF l id by_, k.N ≤ B + by_ := by
 intro k hk; unfold kidPutF at hk
 split at hk
 ·
  rename_i y hy
  have hy1 := h y (List.mem_of_getElem? hy); have hy0 := h0 y (List.mem_of_getElem? hy)
  split at hk
  ·
   split at hk
   ·
    rcases List.mem_or_eq_of_mem_set hk with hk | rfl
    · have := h k hk; omega
    dsimp only; rw [qfB (by omega)]; omega
   have := h k (List.mem_of_mem_eraseIdx hk); omega
  split at hk
  ·
   rcases List.mem_append.1 hk with hk | hk
   ·
    rcases List.mem_append.1 hk with hk | hk
    · have := h k (List.mem_of_mem_take hk); omega
    rw [List.mem_singleton.1 hk]; dsimp only; omega
   have := h k (List.mem_of_mem_drop hk); omega
  have := h k hk; omega
 split at hk
 ·
  rcases List.mem_append.1 hk with hk | hk
  · have := h k hk; omega
  rw [List.mem_singleton.1 hk]; dsimp only; omega
 have := h k hk; omega
theorem qxa {id : Int} : ∀ {l : List Kid} {lo : Int}, KidsUp lo l → 0 ≤ kidN l id
 | [], _, _ => by rw [kidN]; omega
 | k :: l, lo, h => by
  rw [kidN]
  split
  · have := h.2.1; omega
  exact qxa h.2.2.2
theorem qVO (col : Nat) (lo : Int) : ∀ (rows : List Row) (acc : List Kid) (B : Int), KidsUp lo acc → (∀ k ∈ acc, k.N ≤ B) → 0 ≤ B → B + rows.length ≤ 1000000 → (∀ r ∈ rows, lo < r.Cells.getD col 0) →
  KidsUp lo (kidsFold col rows acc) ∧ (∀ x, kidN (kidsFold col rows acc) x = kidN acc x + (rows.countP fun r => decide (r.Cells.getD col 0 = x) : Nat)) ∧ ∀ k ∈ kidsFold col rows acc, k.N ≤ B + rows.length
 | [], acc, B, h, hB, _, _, _ => ⟨h, fun x => by simp [kidsFold], fun k hk => by have := hB k hk; simp only [zlN]; omega⟩
 | r :: rows, acc, B, h, hB, h0, hl, hr => by
  have e : kidsFold col (r :: rows) acc = kidsFold col rows (kidPutF acc (r.Cells.getD col 0) 1) := rfl; simp only [zlC] at hl; obtain ⟨p1, p2⟩ := qaS (id := r.Cells.getD col 0) (by_ := 1) (by omega) h (hr r (List.mem_cons_self ..)) (fun k hk => by have := hB k hk; omega); have p3 := qBd (id := r.Cells.getD col 0) (by_ := 1) hB (by omega) (by omega) (fun k hk => by have := h.mem k hk; omega); obtain ⟨q1, q2, q3⟩ := qVO col lo rows _ (B + 1) p1 p3 (by omega) (by omega) (fun x hx => hr x (List.mem_cons_of_mem _ hx))
  have hn := qxa (id := r.Cells.getD col 0) h; rw [e]; refine ⟨q1, fun x => ?_, fun k hk => by have := q3 k hk; simp only [zlC]; omega⟩; rw [q2, p2, List.countP_cons]
  by_cases c : x = r.Cells.getD col 0
  · rw [if_pos c, if_pos (zdT c.symm), qCY (by omega), c]; omega
  rw [if_neg c, if_neg (by rw [zdF (fun e => c e.symm)]; simp)]; omega
theorem KidsUp.pair : ∀ {l : List Kid} {lo : Int}, KidsUp lo l → l.Pairwise fun a b => a.Id < b.Id
 | [], _, _ => List.Pairwise.nil
 | k :: l, _, h => List.Pairwise.cons (fun x hx => (h.2.2.2.mem x hx).1) h.2.2.2.pair
theorem viewKids {s : Store} {q : Query} (h1 : storeB s = true) (h2 : queryB s.Schema q = true) (h3 : q.Kids = true) : KidsUp (-2000000000) (kidsFold q.KidCol.toNat (tableOf s q.KidTable) []) ∧ (∀ x, kidN (kidsFold q.KidCol.toNat (tableOf s q.KidTable) []) x = kidsOfF s q x) ∧ ∀ k ∈ kidsFold q.KidCol.toNat (tableOf s q.KidTable) [], k.N ≤ 24 := by
 obtain ⟨hk1, _⟩ := qRJ h2 h3; have hl := (qKE h1).1
 have hat : s.Tables[q.KidTable.toNat]? = some (tableOf s q.KidTable) := by
  unfold tableOf; rw [zgD, zgE (by omega)]; rfl
 have hrows := qjJ h1 hat; have hlen := qmG hrows
 obtain ⟨q1, q2, q3⟩ := qVO q.KidCol.toNat (-2000000000) (tableOf s q.KidTable) [] 0 trivial (by simp) (by omega) (by omega) (fun r hr => by
  obtain ⟨i, hi⟩ := List.getElem?_of_mem hr; have := (qva (qYH hrows hi)).2; rw [zgD]
  cases hx : r.Cells[q.KidCol.toNat]? with
  | none => simp
  | some y => have := this y (List.mem_of_getElem? hx); simp only [Option.getD_some]; omega)
 refine ⟨q1, fun x => ?_, fun k hk => by have := q3 k hk; omega⟩; rw [q2]; unfold kidsOfF; rw [h1, h2, h3, qBY]; simp only [kidN, tableOf, Bool.and_self, if_true]
theorem qya {l : List Row} (hd : Dst l) {i : Nat} {r : Row} (hr : l[i]? = some r) : rowAtF l r.Id 0 = (i : Int) := by
 have hi := at_lt hr; have hle := qqa (isId r.Id) hr (by unfold isId; exact zdT rfl)
 have hlt : l.findIdx (isId r.Id) < l.length := by omega
 have he := qPO hlt
 have : l.findIdx (isId r.Id) = i := by
  apply Nat.le_antisymm hle; apply Nat.le_of_not_lt; intro c; have := List.pairwise_iff_getElem.1 hd _ i hlt hi c; rw [(List.getElem?_eq_some_iff.1 hr).2] at this; exact this he
 rw [qtW, qaT hlt, this]
theorem qpe {s : Store} {q : Query} (h1 : storeB s = true) (h2 : queryB s.Schema q = true) : viewB s.Schema (viewOfF s q).1 = true := by
 obtain ⟨p1, p2, p3, p4⟩ := qqT h1 h2; have hsm := (qJG s q).1
 have hd : Dst (rowsForF s q) := by
  obtain ⟨t1, t2⟩ := qxH h2; have hl := (qKE h1).1; have hrows := qwF h1 (t := q.Table.toNat) (by omega); rw [Int.toNat_of_nonneg t1] at hrows
  have hd : Dst (tableOf s q.Table) := (qbT hrows).imp fun h e => by omega
  exact Dst.perm (List.Pairwise.sublist List.filter_sublist hd) p4.symm
 unfold viewOfF; rw [h1, h2]; simp only [Bool.and_self, if_true]; unfold viewB; dsimp only; rw [h2, zdT hsm]
 have hr : allFrom (viewRowB s.Schema ⟨q, rowsForF s q, if q.Kids = true then kidsFold q.KidCol.toNat (tableOf s q.KidTable) [] else []⟩) (rowsForF s q) 0 = true := by
  rw [qbE]; intro i r hr; have hm := List.mem_filter.1 (p4.mem_iff.1 (List.mem_of_getElem? hr)); unfold viewRowB; dsimp only; rw [p1 r hm.1, hm.2, zdT (qya hd hr)]; simp only [Bool.true_and]
  by_cases c : 0 < i
  ·
   have hi := at_lt hr; rw [zgD, zgE (by omega), Option.getD_some, p3.at (i := i - 1) (j := i) (by omega) (zgE (by omega)) hr]; simp
  rw [zdF c]; rfl
 rw [hr]; simp only [Bool.true_and, Bool.and_true]
 cases h3 : q.Kids with
 | false => rfl
 | true =>
  obtain ⟨k1, k2, k3⟩ := viewKids h1 h2 h3; simp only [if_true, Bool.true_or, Bool.true_and]; rw [qbE]; intro i x hx; have hm := List.mem_of_getElem? hx; unfold viewKidB; rw [zdT ⟨(k1.mem x hm).2.1, k3 x hm⟩, Bool.true_and]
  by_cases c : 0 < i
  ·
   have hi := at_lt hx; have := List.pairwise_iff_getElem.1 k1.pair (i - 1) i (by omega) hi (by omega); rw [(List.getElem?_eq_some_iff.1 hx).2] at this; rw [zgD, zgE (by omega), Option.getD_some, zdF (p := x.Id ≤ _) (by omega)]; simp
  rw [zdF c]; rfl
theorem qxW {s : Store} {q : Query} (h : q.Kids = false) (id : Int) : kidsOfF s q id = 0 := by
 unfold kidsOfF; rw [h]; simp
theorem qgV {s : Store} {q : Query} (h1 : storeB s = true) (h2 : queryB s.Schema q = true) : viewDocF (viewOfF s q).1 = evalF s q := by
 unfold viewDocF viewOfF evalF; rw [h1, h2]; simp only [Bool.and_self, if_true]; congr 1; refine List.map_congr_left fun r _ => ?_
 cases h3 : q.Kids with
 | false => rw [qxW h3]; simp [kidN]
 | true => rw [if_pos rfl]; exact (viewKids h1 h2 h3).2.1 _
theorem qza {s : Store} {q : Query} (hc : In64 q.Show) (hl : q.Show.length ≤ 2097152) : qQF.f (evalF s q) (evalF s q) = some true := by
 have hn : jsonB nullJ = true := by decide +kernel
 have hnw : Jw nullJ := (Jw_eq _).2 ⟨by show ((0 : Nat) : Int) ≤ _; omega, by simp [nullJ], by simp [nullJ], by simp [nullJ], by simp [nullJ]⟩; unfold evalF
 split
 ·
  unfold docOfF orJ
  split
  ·
   rename_i h
   exact qHG _ (qsX hc hl (by have := (qJG s q).1; omega)) h
  exact qHG _ hnw hn
 exact qHG _ hnw hn
theorem qnd (B : Bool) : bo3 B B (bo3 B false true) = true := by cases B <;> rfl
theorem qWO (a0 : List Int) (hl : (a0.length : Int) ≤ 1048576) (c : Bool) (R : List Row) (h : c = true ∨ R.length = 0) : ((qWE.f a0).bind fun r14 =>
 (qzD.f a0).bind fun r15 =>
 (qYC.f r14.1 r14.2).bind fun r16 =>
 (qbC.f r14.1 r14.2).bind fun r17 =>
 (gd (bo3 r16 r17 (bo3 r17 false true)) (qdE.f r15.1 r15.2)).bind fun r18 =>
 (gd (bo3 r16 r17 (bo3 r17 false true)) (qwB.f r15.1 r15.2)).bind fun r19 =>
 some (bo3 (bo3 (bo3 r16 r17 (bo3 r17 false true)) (bo3 r18 r19 (bo3 r19 false true)) false) (bo3 c true (decide ((lenI R) = 0))) false)) = some true := by
 obtain ⟨t, w, e2, s2, v2⟩ := qoT a0 hl; obtain ⟨a, b, e3, va, vb⟩ := qxP a0 hl; rw [qGB e2, qGB e3]; dsimp only; rw [qGB (qVL t w s2.b v2), qGB (qPR t w s2.b v2), qnd, qTC, qGB (qyJ a b va vb), qTC, qGB (qZO a b va vb), qnd, qF]
 rcases h with h | h
 · rw [h]; rfl
 rw [zdT (p := (R.length : Int) = 0) (by omega)]; cases c <;> rfl
theorem laws_FnViews_pure (a0 : List Int) (b0 : IntS_b a0) (r0 : ∀ y ∈ a0, 0 ≤ y ∧ y ≤ 255) : qjI.f a0 = some true := by
 unfold qjI.f; rw [qwW, zoB]
 by_cases hb : 1048576 < (a0.length : Int)
 · rw [zdT hb]; rfl
 rw [zdF hb, zcF]; obtain ⟨s, q, e1, d1, hq⟩ := qiT a0 (by omega); have zq := hq.sz
 have hc : In64 q.Show := fun x hx => by have := hq.2.2 x hx; omega
 have hl : q.Show.length ≤ 2097152 := by have := hq.2.1; omega
 rw [qGB e1]; dsimp only; rw [qGB (qMR s q d1.b hq.b (by omega)), qGB (qUL s q d1.b hq.b (by omega)), show bo3 (viewOfF s q).2 (bo3 (viewOfF s q).2 false true) (viewOfF s q).2 = false from qrc _, zcF]
 by_cases h : (storeB s && queryB s.Schema q) = true
 ·
  have h' := h; rw [Bool.and_eq_true] at h'; obtain ⟨h1, h2⟩ := h'
  have hv : (viewOfF s q).2 = true := by unfold viewOfF; rw [if_pos h]
  have hvq : (viewOfF s q).1.Q = q := by unfold viewOfF; rw [if_pos h]
  have hvr : (viewOfF s q).1.Rows = rowsForF s q := by unfold viewOfF; rw [if_pos h]
  obtain ⟨w1, w2⟩ := qUO s q hq.b; have vb := qcN w1 (by omega); have hn := (qJG s q).1; rw [hv, qTC, qGB (qVL s.Schema _ d1.b.1 vb), qpe h1 h2]; rw [show bo3 true (bo3 (bo3 true false true) false true) false = true from rfl, qTC, qGB (qyJ _ _ vb vb), zdT rfl]; rw [show bo3 true (bo3 (bo3 (bo3 true false true) true (bo3 true false true)) false true) false = true from rfl, qTC, qGB (quP _ vb (by rw [hvq]; exact hc) (by rw [hvq]; exact hl) (by rw [hvr]; omega)), qTC, qGB (qZV s q d1.b hq.b hc hl), qTC, qgV h1 h2, qGB (qza hc hl)]
  rw [show bo3 true (bo3 (bo3 (bo3 true false true) true (bo3 true false true)) true (bo3 true false true)) false = false from rfl, zcF]; exact qWO a0 (by omega) true _ (.inl rfl)
 have hv : viewOfF s q = (noView, false) := by unfold viewOfF; rw [if_neg h]
 rw [hv]; exact qWO a0 (by omega) false [] (.inr rfl)
end Go.Proofs.YtbhleignjmcdiaaGreatDoor.L