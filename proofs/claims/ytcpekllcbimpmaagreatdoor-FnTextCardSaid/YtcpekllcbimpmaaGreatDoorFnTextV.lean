/- What the pure functions give. -/
import Derived.Test.YtcpekllcbimpmaaGreatDoorFnTextPv0
import Derived.Test.YtcpekllcbimpmaaGreatDoorFnTextU
namespace Go.Proofs.YtcpekllcbimpmaaGreatDoor.L
open Go
set_option linter.unusedVariables false
set_option linter.unusedSimpArgs false
def quU (l : List Int) : Int := l.length
def IntS_b (l : List Int) : Prop := l.length ≤ 9223372036854775807
def qvU (l : List Int) : Prop := ∀ x ∈ l, (-9223372036854775808 ≤ x ∧ x ≤ 9223372036854775807)
def CI (b : List Int) (i : Int) : Prop := 0 ≤ i ∧ i ≤ b.length ∧ (b.length : Int) ≤ 1048576
theorem qBT (x : Int) (m : Nat) (hm : m < 9223372036854775808) : 0 ≤ Ls.ar .and .i64 x m ∧ Ls.ar .and .i64 x m ≤ m := by
 show 0 ≤ IntKind.i64.wrap _ ∧ IntKind.i64.wrap _ ≤ _
 have h : (BitVec.ofInt IntKind.i64.bits x &&& BitVec.ofInt IntKind.i64.bits m).toNat ≤ m := by
  rw [BitVec.toNat_and]
  refine Nat.le_trans Nat.and_le_right ?_
  rw [BitVec.toNat_ofInt]
  have : ((m : Int) % (2 ^ IntKind.i64.bits : Nat)).toNat = m := by
   rw [Int.emod_eq_of_lt (by omega) (by show (m : Int) < ((2 ^ 64 : Nat) : Int); omega)]
   omega
  omega
 rw [IntKind.wrap_i64]
 omega
theorem qbG {b : List Int} {i : Int} (h : Int) (hc : CI b i) : ∃ i' h' x, qGC.f (l1Cur.mk b i h) = some (l1Cur.mk b i' h', x) ∧ CI b i' ∧ 0 ≤ x ∧ x ≤ 255 := by
 obtain ⟨h0, h1, h2⟩ := hc
 unfold qGC.f
 dsimp only
 by_cases hi : i < (b.length : Int)
 ·
  rw [qt, decide_eq_true hi, cond_true, qQK h0, List.getElem?_eq_getElem (by omega), Option.bind_some]
  exact ⟨_, _, _, rfl, ⟨by rw [qIB (by omega)]; omega, by rw [qIB (by omega)]; omega, h2⟩, qBT _ 255 (by omega)⟩
 rw [qt, decide_eq_false hi, cond_false]
 exact ⟨_, _, _, rfl, ⟨h0, h1, h2⟩, qBT _ 255 (by omega)⟩
theorem qUQ {x n : Int} (hx : 0 ≤ x) (hn : 0 < n) : 0 ≤ Int.tmod x n ∧ Int.tmod x n < n := ⟨Int.tmod_nonneg _ hx, Int.tmod_lt_of_pos _ hn⟩
theorem qlB {b : List Int} {i : Int} (h : Int) (n : Int) (hc : CI b i) : ∃ i' h' x, qf.f (l1Cur.mk b i h) n = some (l1Cur.mk b i' h', x) ∧ CI b i' ∧ 0 ≤ x ∧ (0 < n → x < n) ∧ (n ≤ 0 → x = 0) := by
 unfold qf.f
 by_cases h0 : n ≤ 0
 ·
  rw [decide_eq_true h0, cond_true]
  exact ⟨_, _, _, rfl, hc, by omega, fun _ => by omega, fun _ => rfl⟩
 have hz : nzO n = some () := by unfold nzO; rw [if_pos (by omega)]
 rw [decide_eq_false h0, cond_false]
 obtain ⟨i1, h1, x1, e1, k1, l1, u1⟩ := qbG h hc
 by_cases hn : n ≤ 256
 ·
  rw [decide_eq_true hn, cond_true, e1, Option.bind_some, hz, Option.bind_some]
  have := qUQ (n := n) l1 (by omega)
  exact ⟨_, _, _, rfl, k1, this.1, fun _ => this.2, fun _ => by omega⟩
 obtain ⟨i2, h2, x2, e2, k2, l2, u2⟩ := qbG h1 k1
 obtain ⟨i3, h3, x3, e3, k3, l3, u3⟩ := qbG h2 k2
 obtain ⟨i4, h4, x4, e4, k4, l4, u4⟩ := qbG h3 k3
 rw [decide_eq_false hn, cond_false, e1, Option.bind_some]
 dsimp only
 rw [e2, Option.bind_some]
 dsimp only
 rw [e3, Option.bind_some]
 dsimp only
 rw [e4, Option.bind_some, hz, Option.bind_some]
 dsimp only
 rw [qIB (x := x1 * 16777216) (by omega), qIB (x := x2 * 65536) (by omega), qIB (x := x3 * 256) (by omega), qIB (x := x1 * 16777216 + x2 * 65536) (by omega), qIB (x := x1 * 16777216 + x2 * 65536 + x3 * 256) (by omega), qIB (by omega)]
 have := qUQ (n := n) (show 0 ≤ x1 * 16777216 + x2 * 65536 + x3 * 256 + x4 by omega) (by omega)
 exact ⟨_, _, _, rfl, k4, this.1, fun _ => this.2, fun _ => by omega⟩
theorem qSK (l : List Int) (hl : (l.length : Int) ≤ 1048576) : ∃ h, qkB.f l = some (l1Cur.mk l 0 h) ∧ CI l 0 := by
 have key : ∀ (k i : Nat) (h : Int), i ≤ l.length → l.length < i + k → ∃ h', qkB.l0 l k h i = some (l1Cur.mk l 0 h') := by
  intro k
  induction k with
  | zero => intro i h h1 h2; omega
  | succ k ih =>
   intro i h h1 h2
   rw [qkB.l0]
   by_cases c : bo3 (decide ((i : Int) < lenI l)) (decide ((i : Int) < 4000)) false = true
   ·
    have hi : i < l.length := by
     rw [qxG, Bool.and_eq_true] at c
     have := of_decide_eq_true c.1
     rw [qt] at this
     omega
    rw [c, cond_true, qrB, List.getElem?_eq_getElem hi, Option.bind_some, qq (by omega)]
    exact ih (i + 1) _ (by omega) (by omega)
   rw [Bool.not_eq_true] at c
   rw [c, cond_false]
   exact ⟨_, rfl⟩
 unfold qkB.f
 obtain ⟨h, e⟩ := key (((lenI l) - 0).toNat + 1) 0 (w64 (17333 + lenI l)) (by omega) (by rw [qt]; omega)
 exact ⟨h, e, by omega, by omega, hl⟩
theorem qyE {b : List Int} {i : Int} (h : Int) {l : List ByteArray} (hl : l ≠ []) (hc : CI b i) : ∃ i' h' x, qmB.f (l1Cur.mk b i h) l = some (l1Cur.mk b i' h', x) ∧ CI b i' ∧ x ∈ l := by
 unfold qmB.f
 obtain ⟨i1, h1, x1, e1, k1, l1, u1, _⟩ := qlB h (lenI l) hc
 have hp : 0 < l.length := by cases l with | nil => exact absurd rfl hl | cons x l => simp
 rw [qt] at u1
 have hx := u1 (by omega)
 have hlt : x1.toNat < l.length := by omega
 rw [e1, Option.bind_some, qQK l1, List.getElem?_eq_getElem hlt, Option.bind_some]
 exact ⟨_, _, _, rfl, k1, List.getElem_mem hlt⟩
theorem qQH {b : List Int} {i : Int} (h : Int) {l : List Int} (hl : l ≠ []) (hc : CI b i) : ∃ i' h' x, qYB.f (l1Cur.mk b i h) l = some (l1Cur.mk b i' h', x) ∧ CI b i' ∧ x ∈ l := by
 unfold qYB.f
 obtain ⟨i1, h1, x1, e1, k1, l1, u1, _⟩ := qlB h (lenI l) hc
 have hp : 0 < l.length := by cases l with | nil => exact absurd rfl hl | cons x l => simp
 rw [qt] at u1
 have hx := u1 (by omega)
 have hlt : x1.toNat < l.length := by omega
 rw [e1, Option.bind_some, qQK l1, List.getElem?_eq_getElem hlt, Option.bind_some]
 exact ⟨_, _, _, rfl, k1, List.getElem_mem hlt⟩
theorem qTK {b : List Int} {i : Int} (h : Int) (hc : CI b i) : ∃ i' h' x, qAC.f (l1Cur.mk b i h) = some (l1Cur.mk b i' h', x) ∧ CI b i' ∧ x.size ≤ 10 := by
 unfold qAC.f
 rw [Option.bind_some]
 obtain ⟨i1, h1, x, e, k, m⟩ := qyE (l := [(ByteArray.mk #[97]), (ByteArray.mk #[98]), (ByteArray.mk #[99]), (ByteArray.mk #[105, 100]), (ByteArray.mk #[110]), (ByteArray.mk #[114, 111, 119, 115]), (ByteArray.mk #[]), (ByteArray.mk #[97, 47, 98]), (ByteArray.mk #[126])]) h (by simp) hc
 have hx : x.size ≤ 10 := by
  clear e
  simp only [List.mem_cons, List.not_mem_nil, or_false] at m
  rcases m with rfl | rfl | rfl | rfl | rfl | rfl | rfl | rfl | rfl <;> decide
 rw [qv e]
 exact ⟨_, _, _, rfl, k, hx⟩
mutual
def szj : Json → Int
 | ⟨_, _, _, l, ns⟩ => szL l + (ns.length : Int)
def szL : List Json → Int
 | [] => 0
 | x :: l => 1 + szj x + szL l
end
mutual
def dpj : Json → Nat
 | ⟨_, _, _, l, _⟩ => dpL l + 1
def dpL : List Json → Nat
 | [] => 0
 | x :: l => max (dpj x) (dpL l)
end
mutual
theorem szj_0 : ∀ x : Json, 0 ≤ szj x
 | ⟨_, _, _, l, ns⟩ => by have := szL_0 l; rw [szj]; omega
theorem szL_0 : ∀ l : List Json, 0 ≤ szL l
 | [] => by rw [szL]; omega
 | x :: l => by have := szj_0 x; have := szL_0 l; rw [szL]; omega
end
theorem qVQ : ∀ l : List Json, szL l = (l.map fun x => 1 + szj x).sum
 | [] => by simp [szL]
 | x :: l => by rw [szL, qVQ l, List.map_cons, List.sum_cons]
theorem qWQ : ∀ l : List Json, (l.length : Int) ≤ szL l
 | [] => by simp [szL]
 | x :: l => by have := qWQ l; have := szj_0 x; rw [szL]; simp only [List.length_cons]; omega
theorem qpT {l : List Json} {x : Json} (h : x ∈ l) : 1 + szj x ≤ szL l := by
 rw [qVQ]; exact qTQ (s := fun x => 1 + szj x) (fun x => by have := szj_0 x; omega) h
theorem qXQ : ∀ {l : List Json} {x : Json}, x ∈ l → dpj x ≤ dpL l
 | y :: l, x, h => by
  rw [dpL]
  rcases List.mem_cons.1 h with rfl | h
  · omega
  have := qXQ h; omega
theorem qCT (x : Json) : szj x = szL x.List_ + (x.Names.length : Int) := by cases x; rw [szj]
theorem qDT (x : Json) : dpj x = dpL x.List_ + 1 := by cases x; rw [dpj]
def qqT (x : Json) : Int := szj x + (if dpj x ≤ 500 then 0 else 4611686018427387904)
def qwU (x : Json) : Prop := qqT x ≤ 1099511627776
theorem ba_eq {x y : ByteArray} : (x.toList == y.toList) = decide (x = y) := by
 have h : x.toList = y.toList ↔ x = y := by
  constructor
  ·
   intro h
   have : x.data.toList = y.data.toList := by
    have e : ∀ z : ByteArray, z.toList = z.data.toList := fun z => ByteArray.toList_eq z
    rw [← e, ← e]; exact h
   cases x; cases y; simp_all
  rintro rfl; rfl
 by_cases c : x = y
 · subst c; simp
 rw [decide_eq_false c]
 simp only [beq_eq_false_iff_ne, ne_eq]
 exact fun e => c (h.1 e)
theorem qgN (x y : ByteArray) : Ls.sc .neq x y = decide (x ≠ y) := by
 show (!(x.toList == y.toList)) = _
 rw [ba_eq]; by_cases c : x = y <;> simp [c]
theorem qrT (x y : ByteArray) : Ls.sc .eql x y = decide (x = y) := by
 show (x.toList == y.toList) = _
 rw [ba_eq]
theorem qsT (j : Json) (n : ByteArray) (hl : j.Names.length ≤ 1000) : ∃ v, qPC.f j n = some v := by
 have key : ∀ (k i : Nat), i ≤ j.Names.length → j.Names.length < i + k → ∃ v, qPC.l0 j n k i = some v := by
  intro k
  induction k with
  | zero => intro i h h'; omega
  | succ k ih =>
   intro i h h'
   rw [qPC.l0, qt]
   by_cases hi : i < j.Names.length
   ·
    rw [decide_eq_true (by omega), cond_true, qrB, List.getElem?_eq_getElem hi, Option.bind_some, qq (by omega)]
    cases Ls.sc .eql j.Names[i] n with
    | true => exact ⟨_, rfl⟩
    | false => rw [cond_false]; exact ih (i + 1) (by omega) (by omega)
   rw [decide_eq_false (by omega), cond_false]
   exact ⟨_, rfl⟩
 exact key (((lenI j.Names) - 0).toNat + 1) 0 (by omega) (by rw [qt]; omega)
def txtB (s : ByteArray) : Bool := (s.data.toList.all fun b => decide (32 ≤ b.toNat ∧ b.toNat ≤ 126)) && decide (s.size ≤ 60)
def namesB (l : List ByteArray) : Bool := allFrom (fun i x => txtB x && !(decide (0 < i) && Ls.sc .geq (l.getD (i - 1) default) x)) l 0
theorem sx_at {s : ByteArray} {i : Nat} {b : UInt8} (h : s.data.toList[i]? = some b) : Ls.sx s (i : Int) = (b.toNat : Int) := by
 show ((s.data.toList.getD (i : Int).toNat 0).toNat : Int) = _
 rw [Int.toNat_natCast, List.getD_eq_getElem?_getD, h]; rfl
theorem qeO (s : ByteArray) : Ls.sl s = (s.data.toList.length : Int) := by
 show (s.size : Int) = _
 rw [Array.length_toList]; rfl
theorem qvD (s : ByteArray) : s.size = s.data.toList.length := by rw [Array.length_toList]; rfl
theorem qET {s : ByteArray} {i : Nat} (h : i < s.data.toList.length) : inS s (i : Int) = some () := by
 unfold inS; rw [if_pos]; rw [qvD]; omega
def ownB (j : Json) : Bool :=
 bif (decide (0 < j.List_.length) && decide (j.Kind ≠ 4) && decide (j.Kind ≠ 5)) || (decide (0 < j.Names.length) && decide (j.Kind ≠ 5)) then false else
 bif (decide (j.N ≠ 0) && decide (j.Kind ≠ 1) && decide (j.Kind ≠ 2)) || (decide (j.S ≠ ByteArray.mk #[]) && decide (j.Kind ≠ 3)) then false else
 if j.Kind = 1 then decide (0 ≤ j.N ∧ j.N ≤ 1) else if j.Kind = 2 then decide (-1000000000 ≤ j.N ∧ j.N ≤ 1000000000) else if j.Kind = 3 then txtB j.S else
 if j.Kind = 5 then decide (j.Names.length = j.List_.length) && namesB j.Names else decide (j.Kind = 0) || decide (j.Kind = 4)
def capL (f : Json → Int) : Int → List Json → Int
 | n, [] => n
 | n, x :: l => if 400 < n + f x then 401 else capL f (n + f x) l
def sizeF : Nat → Json → Int
 | 0, _ => 401
 | d + 1, j => if ownB j = true then capL (sizeF d) 1 j.List_ else 401
theorem qtJ {f : Json → Int} (hf : ∀ x, 1 ≤ f x ∧ f x ≤ 401) : ∀ (l : List Json) (n : Int), 1 ≤ n → n ≤ 401 → 1 ≤ capL f n l ∧ capL f n l ≤ 401
 | [], n, h, h' => ⟨h, h'⟩
 | x :: l, n, h, h' => by
  rw [capL]
  have := hf x
  split
  · omega
  exact qtJ hf l _ (by omega) (by omega)
theorem qIC : ∀ (d : Nat) (j : Json), 1 ≤ sizeF d j ∧ sizeF d j ≤ 401
 | 0, j => by rw [sizeF]; omega
 | d + 1, j => by
  rw [sizeF]
  split
  · exact qtJ (qIC d) _ _ (by omega) (by omega)
  omega
def jsonB (j : Json) : Bool := decide (sizeF 6 j ≤ 400)
mutual
def Jw : Json → Prop
 | ⟨_, _, s, l, ns⟩ => (s.size : Int) ≤ 4611686018427387904 ∧ (∀ x ∈ ns, (x.size : Int) ≤ 4611686018427387904) ∧ (ns.length : Int) ≤ 4611686018427387904 ∧ (l.length : Int) ≤ 4611686018427387904 ∧ JwL l
def JwL : List Json → Prop
 | [] => True
 | x :: l => Jw x ∧ JwL l
end
theorem qYQ : ∀ {l : List Json}, JwL l → ∀ {x}, x ∈ l → Jw x
 | y :: l, h, x, hx => by
  rw [JwL] at h
  rcases List.mem_cons.1 hx with rfl | hx
  · exact h.1
  exact qYQ h.2 hx
theorem qFT : ∀ {l : List Json}, (∀ x ∈ l, Jw x) → JwL l
 | [], _ => by rw [JwL]; trivial
 | y :: l, h => by rw [JwL]; exact ⟨h y (by simp), qFT fun x hx => h x (by simp [hx])⟩
theorem Jw_eq (j : Json) : Jw j ↔ (j.S.size : Int) ≤ 4611686018427387904 ∧ (∀ x ∈ j.Names, (x.size : Int) ≤ 4611686018427387904) ∧ (j.Names.length : Int) ≤ 4611686018427387904 ∧ (j.List_.length : Int) ≤ 4611686018427387904 ∧ ∀ x ∈ j.List_, Jw x := by
 cases j
 rw [Jw]
 exact ⟨fun ⟨a, b, c, d, e⟩ => ⟨a, b, c, d, fun x hx => qYQ e hx⟩, fun ⟨a, b, c, d, e⟩ => ⟨a, b, c, d, qFT e⟩⟩
def k3B (j : Json) : Bool := (decide (j.Kind ≠ 3) && decide (j.S ≠ ByteArray.mk #[])) || ((decide (j.Kind = 3) || decide (4 ≤ j.Kind)) && decide (j.N ≠ 0)) || (decide (j.Kind < 4) && decide (0 < j.List_.length)) ||
 !(if j.Kind = 5 then namesB j.Names && decide (j.Names.length = j.List_.length) else decide (j.Names.length = 0))
def preB (j : Json) : Bool := if j.Kind = 0 then decide (j.N = 0) else if j.Kind = 1 then decide (0 ≤ j.N ∧ j.N ≤ 1) else if j.Kind = 2 then decide (-1000000000 ≤ j.N ∧ j.N ≤ 1000000000) else if j.Kind = 3 then txtB j.S else decide (j.Kind = 4) || decide (j.Kind = 5)
theorem qfO (j : Json) : ownB j = (preB j && !k3B j) := by
 unfold ownB preB k3B
 have e2 : decide (j.Names.length = 0) = !decide (0 < j.Names.length) := by
  cases j.Names <;> simp
 have e7 : decide (j.N ≠ 0) = !decide (j.N = 0) := by by_cases c : j.N = 0 <;> simp [c]
 rw [e2, e7]
 generalize decide (0 < j.List_.length) = b1
 generalize decide (0 < j.Names.length) = b2
 generalize decide (j.S ≠ ByteArray.mk #[]) = b3
 generalize decide (j.Names.length = j.List_.length) = b4
 generalize namesB j.Names = b5
 generalize txtB j.S = b6
 generalize decide (0 ≤ j.N ∧ j.N ≤ 1) = b8
 generalize decide (-1000000000 ≤ j.N ∧ j.N ≤ 1000000000) = b9
 generalize decide (j.N = 0) = b7
 by_cases k0 : j.Kind = 0
 · simp [k0]; cases b1 <;> cases b2 <;> cases b3 <;> cases b7 <;> simp
 by_cases k1 : j.Kind = 1
 · simp [k1]; cases b1 <;> cases b2 <;> cases b3 <;> cases b8 <;> simp
 by_cases k2 : j.Kind = 2
 · simp [k2]; cases b1 <;> cases b2 <;> cases b3 <;> cases b9 <;> simp
 by_cases k3 : j.Kind = 3
 · simp [k3]; cases b1 <;> cases b2 <;> cases b6 <;> cases b7 <;> simp
 by_cases k4 : j.Kind = 4
 · simp [k4]; cases b1 <;> cases b2 <;> cases b3 <;> cases b7 <;> simp
 by_cases k5 : j.Kind = 5
 · simp [k5]; cases b3 <;> cases b7 <;> cases b4 <;> cases b5 <;> simp
 simp [k0, k1, k2, k3, k4, k5]
def bl (l : List UInt8) : ByteArray := ⟨l.toArray⟩
theorem bl_sa (a b : List UInt8) : Ls.sa (bl a) (bl b) = bl (a ++ b) := by
 show (bl a ++ bl b) = _
 apply ByteArray.ext
 simp [bl]
theorem qEC (a : List UInt8) : (bl a).size = a.length := rfl
theorem qZQ (n : Nat) (h : n < 256) : bsO [(n : Int)] = bl [UInt8.ofNat n] := rfl
def digs (u : Nat) : List UInt8 := if u = 0 then [] else Lib.decDigits u
theorem qwL {u : Nat} (h : 0 < u) : digs u = digs (u / 10) ++ [UInt8.ofNat (48 + u % 10)] := by
 unfold digs
 rw [if_neg (by omega), Lib.decDigits]
 split
 ·
  rename_i c
  rw [if_pos (by omega)]
  have : u % 10 = u := by omega
  rw [this]; rfl
 rw [if_neg (by omega)]
theorem wrap8 {n : Nat} (h : n < 256) : IntKind.wrap .u8 (n : Int) = n := by simp [IntKind.wrap, IntKind.signed, IntKind.bits]; omega
theorem qGT {x y : ByteArray} (h : (x.size + y.size : Int) ≤ 9223372036854775807) : smO x y = some () := by unfold smO; rw [if_pos h]
theorem qXE : ∀ (k u : Nat), u < 10 ^ k → (digs u).length ≤ k := by
  intro k
  induction k with
  | zero => intro u h; have : u = 0 := by simpa using h
            subst this; simp [digs]
  | succ k ih =>
    intro u h
    by_cases h0 : u = 0
    · subst h0; simp [digs]
    · rw [qwL (by omega)]
      have := ih (u / 10) (by rw [Nat.pow_succ] at h; omega)
      simp only [List.length_append, List.length_cons, List.length_nil]; omega
section
variable {α : Type}
end
def nlt (x y : ByteArray) : Bool := Ls.sc .lss x y
theorem toList_inj {x y : ByteArray} (h : x.toList = y.toList) : x = y := by
 have : (x.toList == y.toList) = true := by rw [h]; simp
 rw [ba_eq] at this
 exact of_decide_eq_true this
abbrev NV := ByteArray × Int
def numJ (n : Int) : Json := ⟨2, n, ByteArray.empty, [], []⟩
def objJ (P : List NV) : Json := ⟨5, 0, ByteArray.empty, P.map fun p => numJ p.2, P.map (·.1)⟩
def Sn (P : List NV) : Prop := P.Pairwise fun a b => nlt a.1 b.1 = true
def putP (P : List NV) (p : NV) : List NV := (P.filter fun x => nlt x.1 p.1) ++ p :: (P.filter fun x => nlt p.1 x.1)
def foldP (P : List NV) : List NV := P.foldl putP []
def Fn1 (P : List NV) : Prop := ∀ x ∈ P, ∀ y ∈ P, x.1 = y.1 → x = y
def words : List UInt8 → List (List UInt8)
 | [] => [[]]
 | c :: r => if c = 32 then [] :: words r else match words r with
  | [] => [[c]]
  | w :: ws => (c :: w) :: ws
theorem qeC (x : ByteArray) : bl x.data.toList = x := by
 cases x; simp [bl]
theorem qhN (l : List UInt8) : (bl l).data.toList = l := by simp [bl]
theorem bl_ex (x : ByteArray) : ∃ l, x = bl l := ⟨_, (qeC x).symm⟩
theorem qaQ (a b : List UInt8) : ((bl a).toList == (bl b).toList) = decide (a = b) := by
 have e : ∀ z : ByteArray, z.toList = z.data.toList := fun z => ByteArray.toList_eq z
 rw [e, e, qhN, qhN]
 by_cases c : a = b
 · subst c; simp
 rw [decide_eq_false c]; simpa using c
theorem quJ (a b : List UInt8) : Ls.sc .eql (bl a) (bl b) = decide (a = b) := qaQ a b
theorem qTI (a b : List UInt8) : Ls.sc .neq (bl a) (bl b) = !decide (a = b) := by
 show (!((bl a).toList == (bl b).toList)) = _
 rw [qaQ]
theorem sl_bl (a : List UInt8) : Ls.sl (bl a) = (a.length : Int) := rfl
theorem sx_bl {a : List UInt8} {i : Nat} {b : UInt8} (h : a[i]? = some b) : Ls.sx (bl a) (i : Int) = (b.toNat : Int) := by
 show (((bl a).data.toList.getD ((i : Nat) : Int).toNat 0).toNat : Int) = _
 rw [qhN, Int.toNat_natCast, List.getD_eq_getElem?_getD, h]; rfl
theorem qwD {a : List UInt8} {i : Nat} (h : i < a.length) : inS (bl a) (i : Int) = some () := by
 unfold inS
 rw [if_pos ⟨by omega, by rw [qEC]; omega⟩]
theorem qTD {a : List UInt8} {lo hi : Nat} (h : lo ≤ hi) (h2 : hi ≤ a.length) : cutS (bl a) (lo : Int) (hi : Int) = some () := by
 unfold cutS
 rw [if_pos ⟨by omega, by omega, by rw [qEC]; omega⟩]
theorem ss_bl (a : List UInt8) (lo hi : Nat) : Ls.ss (bl a) (lo : Int) (hi : Int) = bl ((a.take hi).drop lo) := by
 show (bl a).extract ((lo : Nat) : Int).toNat ((hi : Nat) : Int).toNat = _
 rw [Int.toNat_natCast, Int.toNat_natCast]
 apply ByteArray.ext
 simp [bl, List.extract_eq_take_drop, List.drop_take]
theorem bd {α β : Type} (a : α) (f : α → Option β) : (some a).bind f = f a := rfl
theorem qQU (J : Json) (n : ByteArray) (x : Json) (K : List Json → List ByteArray → Bool → Option Json) (hJ : J.Names.length = J.List_.length) (hl : J.List_.length ≤ 1000) :
  ∀ (k i : Nat) (L : List Json) (N : List ByteArray) (p : Bool), i ≤ J.List_.length → J.List_.length < i + k → L.length = N.length → L.length ≤ i + p.toNat → (∀ y ∈ L, y ∈ J.List_ ∨ y = x) → (∀ m ∈ N, m ∈ J.Names ∨ m = n) →
  ∃ L' N' p', qJB.l0 J n x K k L N p i = K L' N' p' ∧ L'.length = N'.length ∧ L'.length ≤ J.List_.length + p'.toNat ∧ (∀ y ∈ L', y ∈ J.List_ ∨ y = x) ∧ (∀ m ∈ N', m ∈ J.Names ∨ m = n) := by
 intro k
 induction k with
 | zero => intro i L N p h h'; omega
 | succ k ih =>
  intro i L N p h h' h1 h2 h3 h4
  rw [qJB.l0, qt]
  by_cases hi : i < J.List_.length
  ·
   have hN : J.Names[i]? = some J.Names[i] := List.getElem?_eq_getElem (by omega)
   have hL : J.List_[i]? = some J.List_[i] := List.getElem?_eq_getElem hi
   have hg : getO J.Names (i : Int) = some J.Names[i] := by rw [qrB, hN]
   rw [decide_eq_true (by omega), cond_true, qP, hg]
   have sn : ∀ {α : Type} {l : List α} {q : α → Prop} {z : α}, (∀ y ∈ l, q y) → q z → ∀ y ∈ l ++ [z], q y := fun h hz y hy => by
    rcases List.mem_append.1 hy with hy | hy
    · exact h y hy
    rw [List.mem_singleton.1 hy]; exact hz
   have tn : ∀ p : Bool, p.toNat ≤ 1 := fun p => by cases p <;> decide
   have rest : ∀ (L : List Json) (N : List ByteArray) (p : Bool), L.length = N.length → L.length ≤ i + p.toNat → (∀ y ∈ L, y ∈ J.List_ ∨ y = x) → (∀ m ∈ N, m ∈ J.Names ∨ m = n) → ∃ L' N' p', (fun (y50 : List Json) (y51 : List ByteArray) (y52 : Bool) =>
  (some J.Names[i]).bind fun x69 =>
  bif (Ls.sc .neq x69 n) then (
  (some [x69]).bind fun l71 =>
  (appO 16 y51 l71).bind fun l72 =>
  (getO J.List_ (i : Int)).bind fun x73 =>
  (some [x73]).bind fun l74 =>
  (appO 80 y50 l74).bind fun l75 =>
  qJB.l0 J n x K k l75 l72 y52 (w64 ((i : Int) + 1)))
  else (
  qJB.l0 J n x K k y50 y51 y52 (w64 ((i : Int) + 1)))) L N p = K L' N' p' ∧ L'.length = N'.length ∧ L'.length ≤ J.List_.length + p'.toNat ∧ (∀ y ∈ L', y ∈ J.List_ ∨ y = x) ∧ (∀ m ∈ N', m ∈ J.Names ∨ m = n) := by
    intro L N p h1 h2 h3 h4
    have := tn p
    dsimp only
    rw [Option.bind_some, qq (by omega)]
    cases Ls.sc .neq J.Names[i] n with
    | true =>
     rw [cond_true, bd, qeB (by simp only [List.length_cons, List.length_nil]; omega), bd, qrB, hL, bd, bd, qeB (by simp only [List.length_cons, List.length_nil]; omega), bd]
     exact ih (i + 1) _ _ p (by omega) (by omega) (by simp [h1]) (by simp only [List.length_append, List.length_cons, List.length_nil]; omega) (sn h3 (.inl (List.getElem_mem _))) (sn h4 (.inl (List.getElem_mem _)))
    | false =>
     rw [cond_false]
     exact ih (i + 1) L N p (by omega) (by omega) h1 (by omega) h3 h4
   have := tn p
   cases p with
   | true =>
    rw [show bo3 true false true = false from rfl, qRK, Option.bind_some, bo3_F, cond_false]
    exact rest L N true h1 h2 h3 h4
   | false =>
    have h2' : L.length ≤ i := h2
    rw [show bo3 false false true = true from rfl, qHB, Option.bind_some, bo3_T]
    cases Ls.sc .geq J.Names[i] n with
    | true =>
     rw [cond_true, bd, qeB (by simp only [List.length_cons, List.length_nil]; omega), bd, bd, qeB (by simp only [List.length_cons, List.length_nil]; omega), bd]
     exact rest _ _ true (by simp [h1]) (by simp only [List.length_append, List.length_cons, List.length_nil, Bool.toNat_true]; omega) (sn h3 (.inr rfl)) (sn h4 (.inr rfl))
    | false =>
     rw [cond_false]
     exact rest L N false h1 h2 h3 h4
  rw [decide_eq_false (by omega), cond_false]
  exact ⟨L, N, p, rfl, h1, by omega, h3, h4⟩
theorem qRU (J : Json) (n : ByteArray) (x : Json) (hJ : J.Names.length = J.List_.length) (hl : J.List_.length ≤ 1000) : ∃ L N, qJB.f J n x = some (Json.mk 5 0 ByteArray.empty L N) ∧ L.length = N.length ∧ L.length ≤ J.List_.length + 1 ∧ (∀ y ∈ L, y ∈ J.List_ ∨ y = x) ∧ (∀ m ∈ N, m ∈ J.Names ∨ m = n) := by
 obtain ⟨L, N, p, e, h1, h2, h3, h4⟩ := qQU J n x (fun (y1 : List Json) (y2 : List ByteArray) (y3 : Bool) =>
 bif (bo3 y3 false true) then (
 (some [n]).bind fun l77 =>
 (appO 16 y2 l77).bind fun l78 =>
 (some [x]).bind fun l79 =>
 (appO 80 y1 l79).bind fun l80 =>
 some (Json.mk 5 0 ByteArray.empty l80 l78))
 else (
 some (Json.mk 5 0 ByteArray.empty y1 y2))) hJ hl (((lenI J.Names) - 0).toNat + 1) 0 [] [] false (by omega) (by rw [qt]; omega) rfl (by simp) (by simp) (by simp)
 have E : qJB.f J n x = _ := e
 rw [E]
 have sn : ∀ {α : Type} {l : List α} {q : α → Prop} {z : α}, (∀ y ∈ l, q y) → q z → ∀ y ∈ l ++ [z], q y := fun h hz y hy => by
  rcases List.mem_append.1 hy with hy | hy
  · exact h y hy
  rw [List.mem_singleton.1 hy]; exact hz
 cases p with
 | true => exact ⟨L, N, rfl, h1, h2, h3, h4⟩
 | false =>
  have h2' : L.length ≤ J.List_.length := h2
  rw [show bo3 false false true = true from rfl, cond_true, bd, qeB (by simp only [List.length_cons, List.length_nil]; omega), bd, bd, qeB (by simp only [List.length_cons, List.length_nil]; omega), bd]
  exact ⟨_, _, rfl, by simp [h1], by simp only [List.length_append, List.length_cons, List.length_nil]; omega, sn h3 (.inr rfl), sn h4 (.inr rfl)⟩
def JR (j : Json) : Prop := Jw j ∧ j.Names.length ≤ 4 ∧ j.List_.length ≤ 4
def SelfD (self : l1Cur → Int → Option (l1Cur × Json)) (d : Int) : Prop := ∀ (b : List Int) (i h : Int), CI b i → ∃ i' h' j, self (l1Cur.mk b i h) d = some (l1Cur.mk b i' h', j) ∧ CI b i' ∧ JR j
theorem JR_mk {k n : Int} {s : ByteArray} {l : List Json} {ns : List ByteArray} (h1 : s.size ≤ 1000) (h2 : ∀ x ∈ ns, x.size ≤ 10) (h3 : ns.length ≤ 4) (h4 : l.length ≤ 4) (h5 : ∀ x ∈ l, Jw x) : JR ⟨k, n, s, l, ns⟩ :=
 ⟨(Jw_eq _).2 ⟨by show (s.size : Int) ≤ _; omega, fun x hx => by have := h2 x hx; omega, by show (ns.length : Int) ≤ _; omega, by show (l.length : Int) ≤ _; omega, h5⟩, h3, h4⟩
theorem snocJ {α : Type} {l : List α} {q : α → Prop} {z : α} (h : ∀ y ∈ l, q y) (hz : q z) : ∀ y ∈ l ++ [z], q y := fun y hy => by
 rcases List.mem_append.1 hy with hy | hy
 · exact h y hy
 rw [List.mem_singleton.1 hy]; exact hz
theorem dr_l0 (a : l1Cur) (d : Int) (self : l1Cur → Int → Option (l1Cur × Json)) (hs : SelfD self (w64 (d - 1))) : ∀ (k i : Nat) (ci h : Int) (L : List Json), CI a.b ci → L.length = i → i ≤ 4 → 5 ≤ i + k → (∀ x ∈ L, Jw x) →
  ∃ ci' h' j, qF.l0 a d self k ci h L i = some (l1Cur.mk a.b ci' h', j) ∧ CI a.b ci' ∧ JR j := by
 intro k
 induction k with
 | zero => intro i ci h L hc hl h1 h2; omega
 | succ k ih =>
  intro i ci h L hc hl h1 h2 hx
  rw [qF.l0]
  obtain ⟨c1, g1, x1, e1, k1, l1, u1, _⟩ := qlB h 5 hc
  have hu := u1 (by omega)
  rw [e1, Option.bind_some]
  dsimp only
  by_cases c : (i : Int) < x1
  ·
   obtain ⟨c2, g2, j, e2, k2, hj⟩ := hs a.b c1 g1 k1
   rw [decide_eq_true c, cond_true, e2, Option.bind_some]
   dsimp only
   rw [Option.bind_some, qeB (by simp only [List.length_cons, List.length_nil]; omega), Option.bind_some, qq (by omega)]
   exact ih (i + 1) c2 g2 _ k2 (by simp [hl]) (by omega) (by omega) (snocJ hx hj.1)
  rw [decide_eq_false c, cond_false]
  exact ⟨_, _, _, rfl, k1, JR_mk (by decide) (by simp) (by simp) (by omega) hx⟩
theorem dr_l1 (a : l1Cur) (d : Int) (self : l1Cur → Int → Option (l1Cur × Json)) (hs : SelfD self (w64 (d - 1))) : ∀ (k i : Nat) (ci h : Int) (L : List Json) (N : List ByteArray), CI a.b ci → L.length = N.length → L.length ≤ i → i ≤ 4 → 5 ≤ i + k → (∀ x ∈ L, Jw x) → (∀ x ∈ N, x.size ≤ 10) →
  ∃ ci' h' j, qF.l1 a d self k ci h 5 0 ByteArray.empty L N i = some (l1Cur.mk a.b ci' h', j) ∧ CI a.b ci' ∧ JR j := by
 intro k
 induction k with
 | zero => intro i ci h L N hc hl hi h1 h2; omega
 | succ k ih =>
  intro i ci h L N hc hl hi h1 h2 hx hn
  rw [qF.l1]
  obtain ⟨c1, g1, x1, e1, k1, l1, u1, _⟩ := qlB h 5 hc
  have hu := u1 (by omega)
  rw [e1, Option.bind_some]
  dsimp only
  by_cases c : (i : Int) < x1
  ·
   obtain ⟨c2, g2, n, e2, k2, hnn⟩ := qTK g1 k1
   obtain ⟨v, ev⟩ := qsT (Json.mk 5 0 ByteArray.empty L N) n (by show N.length ≤ _; omega)
   rw [decide_eq_true c, cond_true, e2, Option.bind_some]
   dsimp only
   rw [ev, Option.bind_some, qq (by omega)]
   by_cases cv : v < 0
   ·
    obtain ⟨c3, g3, j, e3, k3, hj⟩ := hs a.b c2 g2 k2
    obtain ⟨L', N', ep, p1, p2, p3, p4⟩ := qRU (Json.mk 5 0 ByteArray.empty L N) n j hl.symm (by show L.length ≤ _; omega)
    dsimp only at p2 p3 p4
    rw [decide_eq_true cv, cond_true, e3, Option.bind_some]
    dsimp only
    rw [ep, Option.bind_some]
    dsimp only
    exact ih (i + 1) c3 g3 L' N' k3 p1 (by omega) (by omega) (by omega) (fun y hy => by
     rcases p3 y hy with hy | rfl
     · exact hx y hy
     · exact hj.1) (fun y hy => by
     rcases p4 y hy with hy | rfl
     · exact hn y hy
     exact hnn)
   rw [decide_eq_false cv, cond_false]
   exact ih (i + 1) c2 g2 L N k2 hl (by omega) (by omega) (by omega) hx hn
  rw [decide_eq_false c, cond_false]
  exact ⟨_, _, _, rfl, k1, JR_mk (by decide) hn (by omega) (by omega) hx⟩
theorem qbQ (M : Nat) (hM : 5 ≤ M) (a0 : l1Cur) (a1 : Int) (self : l1Cur → Int → Option (l1Cur × Json)) (y2 y3 y4 : Int) (hc : CI a0.b y2) (h0 : 0 ≤ y4) (hs : 5 ≤ y4 → SelfD self (w64 (a1 - 1))) : ∃ i' h' j, (
 joinK (fun (y8 : Unit) =>
 qF.l1 a0 a1 self M y2 y3 5 0 ByteArray.empty [] [] 0) (fun K9 =>
 bif (decide (y4 = 0)) then (
 some ((l1Cur.mk a0.b y2 y3), (Json.mk 0 0 ByteArray.empty [] [])))
 else (
 bif (decide (y4 = 1)) then (
 (qf.f (l1Cur.mk a0.b y2 y3) 2).bind fun r12 =>
 some ((l1Cur.mk a0.b r12.1.i r12.1.h), (Json.mk 1 r12.2 ByteArray.empty [] [])))
 else (
 bif (decide (y4 = 2)) then (
 (some [(ByteArray.mk #[]), (ByteArray.mk #[120]), (ByteArray.mk #[97, 34, 98]), (ByteArray.mk #[97, 92, 92, 98]), (ByteArray.mk #[104, 101, 108, 108, 111, 32, 116, 104, 101, 114, 101]), (ByteArray.mk #[126, 49])]).bind fun l14 =>
 (qmB.f (l1Cur.mk a0.b y2 y3) l14).bind fun r15 =>
 some ((l1Cur.mk a0.b r15.1.i r15.1.h), (Json.mk 3 0 r15.2 [] [])))
 else (
 joinK (fun (y16 : Bool) =>
 bif y16 then (
 (some [0, 1, (-5), 77, 1000000000, (-1000000000)]).bind fun l20 =>
 (qYB.f (l1Cur.mk a0.b y2 y3) l20).bind fun r21 =>
 some ((l1Cur.mk a0.b r21.1.i r21.1.h), (Json.mk 2 r21.2 ByteArray.empty [] [])))
 else (
 joinK (fun (y22 : Bool) =>
 bif y22 then (
 qF.l0 a0 a1 self M y2 y3 [] 0)
 else (
 K9 ())) (fun K23 =>
 bif (decide (y4 = 5)) then (
 K23 (decide (y4 = 5)))
 else (
 K23 (decide (y4 = 6)))))) (fun K17 =>
 bif (decide (y4 = 3)) then (
 K17 (decide (y4 = 3)))
 else (
 K17 (decide (y4 = 4))))))))) = some (l1Cur.mk a0.b i' h', j) ∧ CI a0.b i' ∧ JR j := by
 rw [qP]
 by_cases c0 : y4 = 0
 ·
  rw [decide_eq_true c0, cond_true]
  exact ⟨_, _, _, rfl, hc, JR_mk (by decide) (by simp) (by simp) (by simp) (by simp)⟩
 rw [decide_eq_false c0, cond_false]
 by_cases c1 : y4 = 1
 ·
  obtain ⟨i1, g1, x1, e1, k1, _⟩ := qlB y3 2 hc
  rw [decide_eq_true c1, cond_true, e1, Option.bind_some]
  exact ⟨_, _, _, rfl, k1, JR_mk (by decide) (by simp) (by simp) (by simp) (by simp)⟩
 rw [decide_eq_false c1, cond_false]
 by_cases c2 : y4 = 2
 ·
  rw [decide_eq_true c2, cond_true, Option.bind_some]
  obtain ⟨i1, g1, x, e, k1, m⟩ := qyE (l := [(ByteArray.mk #[]), (ByteArray.mk #[120]), (ByteArray.mk #[97, 34, 98]), (ByteArray.mk #[97, 92, 92, 98]), (ByteArray.mk #[104, 101, 108, 108, 111, 32, 116, 104, 101, 114, 101]), (ByteArray.mk #[126, 49])]) y3 (by simp) hc
  have hx : x.size ≤ 1000 := by
   simp only [List.mem_cons, List.not_mem_nil, or_false] at m
   rcases m with rfl | rfl | rfl | rfl | rfl | rfl <;> decide
  rw [e, Option.bind_some]
  exact ⟨_, _, _, rfl, k1, JR_mk hx (by simp) (by simp) (by simp) (by simp)⟩
 rw [decide_eq_false c2, cond_false, qP]
 have hnum : ∃ i' h' j, ((some [0, 1, (-5), 77, 1000000000, (-1000000000)]).bind fun l20 =>
 (qYB.f (l1Cur.mk a0.b y2 y3) l20).bind fun r21 =>
 some ((l1Cur.mk a0.b r21.1.i r21.1.h), (Json.mk 2 r21.2 ByteArray.empty [] []))) = some (l1Cur.mk a0.b i' h', j) ∧ CI a0.b i' ∧ JR j := by
  rw [Option.bind_some]
  obtain ⟨i1, g1, x, e, k1, m⟩ := qQH (l := [0, 1, (-5), 77, 1000000000, (-1000000000)]) y3 (by simp) hc
  rw [e, Option.bind_some]
  exact ⟨_, _, _, rfl, k1, JR_mk (by decide) (by simp) (by simp) (by simp) (by simp)⟩
 by_cases c3 : y4 = 3
 ·
  rw [decide_eq_true c3, cond_true]
  exact hnum
 rw [decide_eq_false c3, cond_false]
 by_cases c4 : y4 = 4
 ·
  rw [decide_eq_true c4]
  exact hnum
 have S := hs (by omega)
 have A := dr_l0 a0 a1 self S M 0 y2 y3 [] hc rfl (by omega) (by omega) (by simp)
 have B := dr_l1 a0 a1 self S M 0 y2 y3 [] [] hc rfl (by simp) (by omega) (by omega) (by simp) (by simp)
 rw [decide_eq_false c4]
 dsimp only
 rw [cond_false, qP]
 by_cases c5 : y4 = 5
 ·
  rw [decide_eq_true c5, cond_true]
  exact A
 rw [decide_eq_false c5, cond_false]
 by_cases c6 : y4 = 6
 ·
  rw [decide_eq_true c6]
  exact A
 rw [decide_eq_false c6]
 exact B
theorem drawB (self : l1Cur → Int → Option (l1Cur × Json)) (d : Int) (hs : 2 ≤ d → SelfD self (w64 (d - 1))) : SelfD (qF.b self) d := by
 intro b i h hc
 unfold qF.b
 obtain ⟨i1, g1, x1, e1, k1, l1, u1, _⟩ := qlB h 8 hc
 rw [qv e1, qP]
 by_cases c : d ≤ 1
 ·
  obtain ⟨i2, g2, x2, e2, k2, l2, u2, _⟩ := qlB g1 5 k1
  have := u2 (by omega)
  rw [decide_eq_true c, cond_true]
  dsimp only
  rw [qv e2]
  exact qbQ 1000 (by omega) (l1Cur.mk b i h) d self i2 g2 x2 k2 l2 (fun h => by omega)
 rw [decide_eq_false c, cond_false]
 exact qbQ 1000 (by omega) (l1Cur.mk b i h) d self i1 g1 x1 k1 l1 (fun _ => hs (by omega))
theorem drawG : ∀ (k : Nat) (d : Int), d ≤ k → 0 ≤ d → k ≤ 100 → SelfD (qF.g (k + 1)) d := by
 intro k
 induction k with
 | zero => intro d h _ _; exact drawB _ d (fun h2 => by omega)
 | succ k ih =>
  intro d h h0 hk
  exact drawB _ d (fun h2 => by rw [qIB (by omega)]; exact ih (d - 1) (by omega) (by omega) (by omega))
theorem qGJ : SelfD qF.f 4 := drawG 19 4 (by omega) (by omega) (by omega)
theorem qRH (x y z : Int) : qFE.f x y z = some (decide (y ≤ x ∧ x ≤ z)) := by
 unfold qFE.f
 rw [qxG, Bool.decide_and]
theorem qHJ (s : ByteArray) (hs : (s.data.toList.length : Int) ≤ 4611686018427387904) : ∀ (k i : Nat), i ≤ s.data.toList.length → s.data.toList.length < i + k → qfB.l0 s k i = some (((s.data.toList.drop i).all fun b => decide (32 ≤ b.toNat ∧ b.toNat ≤ 126)) && decide (s.size ≤ 60)) := by
 intro k
 induction k with
 | zero => intro i h h'; omega
 | succ k ih =>
  intro i h h'
  rw [qfB.l0, qeO]
  by_cases hi : i < s.data.toList.length
  ·
   have hx := List.getElem?_eq_getElem hi
   have hb : (s.data.toList[i]).toNat < 256 := UInt8.toNat_lt _
   rw [decide_eq_true (by omega), cond_true, qET hi, Option.bind_some, gd_of, Option.bind_some, sx_at hx, List.drop_eq_getElem_cons hi, List.all_cons, qq (by omega), ih (i + 1) (by omega) (by omega), qSQ]
   by_cases c : 32 ≤ (s.data.toList[i]).toNat ∧ (s.data.toList[i]).toNat ≤ 126
   · rw [decide_eq_false (by omega), decide_eq_false (by omega), decide_eq_true c]; simp
   rw [decide_eq_false c]
   have : (decide (((s.data.toList[i]).toNat : Int) < 32) || decide (126 < ((s.data.toList[i]).toNat : Int))) = true := by
    generalize (s.data.toList[i]).toNat = b at c
    rw [Bool.or_eq_true, decide_eq_true_eq, decide_eq_true_eq]; omega
   rw [this]; simp
  rw [decide_eq_false (by omega), cond_false, List.drop_eq_nil_of_le (by omega), qvD]
  simp
  omega
theorem qsF (s : ByteArray) (hs : (s.size : Int) ≤ 4611686018427387904) : qfB.f s = some (txtB s) := by
 unfold qfB.f txtB
 rw [qvD] at hs
 rw [qeO]
 exact qHJ s hs _ 0 (by omega) (by omega)
theorem qFD (x y z : Int) : qSC.f x y z = some (decide (y ≤ x ∧ x ≤ z)) := by
 unfold qSC.f
 rw [qxG, Bool.decide_and]
theorem qIJ (s : ByteArray) (hs : (s.data.toList.length : Int) ≤ 4611686018427387904) : ∀ (k i : Nat), i ≤ s.data.toList.length → s.data.toList.length < i + k → qgB.l0 s k (s.data.toList.length : Int) i = some (((s.data.toList.drop i).all fun b => decide (32 ≤ b.toNat ∧ b.toNat ≤ 126)) && decide (s.size ≤ 60)) := by
 intro k
 induction k with
 | zero => intro i h h'; omega
 | succ k ih =>
  intro i h h'
  rw [qgB.l0]
  by_cases hi : i < s.data.toList.length
  ·
   have hx := List.getElem?_eq_getElem hi
   have hb : (s.data.toList[i]).toNat < 256 := UInt8.toNat_lt _
   rw [decide_eq_true (by omega), cond_true, qET hi, Option.bind_some, sx_at hx, qIB (by omega), qFD, Option.bind_some, List.drop_eq_getElem_cons hi, List.all_cons, qq (by omega), ih (i + 1) (by omega) (by omega), qSD]
   by_cases c : 32 ≤ (s.data.toList[i]).toNat ∧ (s.data.toList[i]).toNat ≤ 126
   · rw [decide_eq_true (by omega), decide_eq_true c]; simp
   rw [decide_eq_false (by omega), decide_eq_false c]; simp
  rw [decide_eq_false (by omega), cond_false, List.drop_eq_nil_of_le (by omega), qeO, qvD]
  simp
  omega
theorem qtF (s : ByteArray) (hs : (s.size : Int) ≤ 4611686018427387904) : qgB.f s = some (txtB s) := by
 unfold qgB.f txtB
 rw [qvD] at hs
 rw [qeO]
 exact qIJ s hs _ 0 (by omega) (by omega)
theorem qvJ (l : List ByteArray) (i : Nat) (x : ByteArray) (r : Bool) (hx : l[i]? = some x) (hl : (l.length : Int) ≤ 4611686018427387904) : (gd (bo3 (bo3 (bo3 r false true) false true) (decide (0 < (i : Int))) false) (getO l (w64 ((i : Int) - 1)))) = some (bif (r && decide (0 < i)) then l.getD (i - 1) default else default) := by
 have hi := at_lt hx
 cases r with
 | false => rfl
 | true =>
  by_cases c : 0 < i
  ·
   rw [decide_eq_true (by omega), decide_eq_true c, show bo3 (bo3 (bo3 true false true) false true) true false = true from rfl, qHB, qIB (by omega), show (i : Int) - 1 = ((i - 1 : Nat) : Int) by omega, qrB, List.getD_eq_getElem?_getD, List.getElem?_eq_getElem (by omega)]
   rfl
  rw [decide_eq_false (by omega), decide_eq_false c]; rfl
theorem qUI (l : List ByteArray) (hl : (l.length : Int) ≤ 4611686018427387904) (hs : ∀ x ∈ l, (x.size : Int) ≤ 4611686018427387904) : qTB.f l = some (namesB l) := by
 unfold qTB.f namesB
 refine (qZG (f := qTB.l0 l) (l := l) (fun i x => txtB x && !(decide (0 < i) && Ls.sc .geq (l.getD (i - 1) default) x)) (some false) (some true) (fun k i x hx => ?_) (fun k i hi => ?_) _ 0 (by omega) (by rw [qt]; omega)).trans ?_
 ·
  have hi := at_lt hx
  rw [qTB.l0, qt, decide_eq_true (by omega), cond_true, qrB, hx, Option.bind_some, qtF x (hs x (List.mem_of_getElem? hx)), Option.bind_some, qvJ l i x _ hx hl, Option.bind_some, qq (by omega)]
  cases txtB x with
  | false => rfl
  | true =>
   by_cases c : 0 < i
   ·
    have c' : 0 < (i : Int) := by omega
    rw [decide_eq_true c, decide_eq_true c']
    cases hg : Ls.sc .geq (l.getD (i - 1) default) x <;> simp [bo3, hg] <;> simp_all
   have c' : ¬ 0 < (i : Int) := by omega
   rw [decide_eq_false c, decide_eq_false c']
   simp [bo3]
 · rw [qTB.l0, qt, decide_eq_false (by omega), cond_false]
 cases allFrom (fun i x => txtB x && !(decide (0 < i) && Ls.sc .geq (l.getD (i - 1) default) x)) l 0 <;> rfl
theorem qVI (j : Json) (hl : (j.Names.length : Int) ≤ 4611686018427387904) (hs : ∀ x ∈ j.Names, (x.size : Int) ≤ 4611686018427387904) : qSB.f j = some (if j.Kind = 5 then namesB j.Names && decide (j.Names.length = j.List_.length) else decide (j.Names.length = 0)) := by
 unfold qSB.f namesB
 by_cases h5 : j.Kind = 5
 ·
  rw [decide_eq_false (by simp [h5]), cond_false, if_pos h5]
  refine (qZG (f := qSB.l0 j) (l := j.Names) (fun i x => txtB x && !(decide (0 < i) && Ls.sc .geq (j.Names.getD (i - 1) default) x)) (some false) (some (decide (j.Names.length = j.List_.length))) (fun k i x hx => ?_) (fun k i hi => ?_) _ 0 (by omega) (by rw [qt]; omega)).trans ?_
  ·
   have hi := at_lt hx
   rw [qSB.l0, qt, decide_eq_true (by omega), cond_true, qrB, hx, Option.bind_some, qsF x (hs x (List.mem_of_getElem? hx)), Option.bind_some, qvJ _ i x _ hx hl, Option.bind_some, qq (by omega)]
   cases txtB x with
   | false => rfl
   | true =>
    by_cases c : 0 < i
    ·
     have c' : 0 < (i : Int) := by omega
     rw [decide_eq_true c, decide_eq_true c']
     cases hg : Ls.sc .geq (j.Names.getD (i - 1) default) x <;> simp [bo3, hg] <;> simp_all
    have c' : ¬ 0 < (i : Int) := by omega
    rw [decide_eq_false c, decide_eq_false c']
    simp [bo3]
  ·
   rw [qSB.l0, qt, decide_eq_false (by omega), cond_false, qt]
   congr 1
   rw [decide_eq_decide]; omega
  cases allFrom (fun i x => txtB x && !(decide (0 < i) && Ls.sc .geq (j.Names.getD (i - 1) default) x)) j.Names 0 <;> rfl
 rw [decide_eq_true h5, cond_true, if_neg h5, qt]
 congr 1
 rw [decide_eq_decide]; omega
def GrOk (v s : Int) (B : Int) : Prop := 1 ≤ v ∧ v ≤ B ∧ ((s ≤ 400 → v = s) ∧ (400 < s → 400 < v))
theorem qWI (j : Json) (d : Int) (self : Json → Int → Option Int) (f : Json → Int) (B : Int) (hB : B ≤ 1000000) (K : Int → Option Int) (hf : ∀ x, 1 ≤ f x ∧ f x ≤ 401) (hl : (j.List_.length : Int) ≤ 4611686018427387904) (hs : ∀ x ∈ j.List_, ∃ v, self x (w64 (d - 1)) = some v ∧ GrOk v (f x) B) :
  ∀ (k i : Nat) (n s : Int), i ≤ j.List_.length → j.List_.length < i + k → s ≤ 401 → 1 ≤ s → GrOk n s (400 + B) → (400 < n → s = 401) → ∃ v, qb.l0 j d self K k n i = K v ∧ GrOk v (if 400 < n then 401 else capL f s (j.List_.drop i)) (400 + B) := by
 intro k
 induction k with
 | zero => intro i n s h h'; omega
 | succ k ih =>
  intro i n s h h' hs1 hs0 hn hnn
  obtain ⟨g1, g2, g3, g4⟩ := hn
  rw [qb.l0, qt]
  by_cases hi : i < j.List_.length
  ·
   by_cases c : n ≤ 400
   ·
    obtain ⟨v, e1, v1, v2, v3, v4⟩ := hs _ (List.getElem_mem hi)
    have hfx := hf j.List_[i]
    have hns : n = s := by
     by_cases c2 : s ≤ 400
     · exact g3 c2
     have := g4 (by omega); omega
    rw [decide_eq_true (by omega), decide_eq_true c, show bo3 true true false = true from rfl, cond_true, qrB, List.getElem?_eq_getElem hi, Option.bind_some, e1, Option.bind_some, qIB (by omega), qq (by omega), List.drop_eq_getElem_cons hi, if_neg (by omega), capL]
    by_cases cc : 400 < s + f j.List_[i]
    ·
     rw [if_pos cc]
     have hv : 400 < n + v := by
      by_cases c3 : f j.List_[i] ≤ 400
      · have := v3 c3; omega
      have := v4 (by omega); omega
     obtain ⟨w, w1, w2⟩ := ih (i + 1) (n + v) 401 (by omega) (by omega) (by omega) (by omega) ⟨by omega, by omega, fun h => by omega, fun _ => hv⟩ (fun _ => rfl)
     rw [if_pos hv] at w2
     exact ⟨w, w1, w2⟩
    rw [if_neg cc]
    have hv : v = f j.List_[i] := v3 (by omega)
    obtain ⟨w, w1, w2⟩ := ih (i + 1) (n + v) (s + f j.List_[i]) (by omega) (by omega) (by omega) (by omega) ⟨by omega, by omega, fun h => by omega, fun h => by omega⟩ (fun h => by omega)
    rw [if_neg (by omega)] at w2
    exact ⟨w, w1, w2⟩
   rw [decide_eq_false c, qxG, Bool.and_false, cond_false, if_pos (by omega)]
   exact ⟨n, rfl, g1, g2, fun h => by omega, fun _ => by omega⟩
  rw [decide_eq_false (by omega), bo3_F, cond_false, List.drop_eq_nil_of_le (by omega), capL]
  refine ⟨n, rfl, ?_⟩
  by_cases c : 400 < n
  · rw [if_pos c]; exact ⟨g1, g2, fun h => by omega, fun _ => c⟩
  rw [if_neg c]; exact ⟨g1, g2, g3, g4⟩
theorem qJJ : ∀ (k d : Nat) (j : Json), d < k → d ≤ 1000 → Jw j → ∃ v, qb.g k j d = some v ∧ GrOk v (sizeF d j) (401 + 401 * d) := by
 intro k
 induction k with
 | zero => intro d j h; omega
 | succ k ih =>
  intro d j h hd hj
  obtain ⟨h1, h2, h3, h4, h5⟩ := (Jw_eq j).1 hj
  rw [qb.g, qb.b]
  cases d with
  | zero =>
   rw [decide_eq_true (by omega), cond_true, sizeF]
   exact ⟨401, rfl, by omega, by omega, fun h => by omega, fun h => by omega⟩
  | succ d =>
   have hbad : GrOk 401 401 (401 + 401 * ((d + 1 : Nat) : Int)) := ⟨by omega, by omega, fun h => by omega, fun h => by omega⟩
   rw [decide_eq_false (by omega), cond_false, qP, qVI j h3 h2, qgN, qt, qsF _ h1, qRH, qRH]
   have e1 : decide (0 < (j.List_.length : Int)) = decide (0 < j.List_.length) := decide_eq_decide.2 (by omega)
   rw [e1]
   generalize hK : (fun (y2 : Int) =>
 (gd (bo3 (bo3 (bo3 (bo3 (decide (j.Kind ≠ 3)) (decide (j.S ≠ ByteArray.mk #[])) false) true (bo3 (bo3 (decide (j.Kind = 3)) true (decide (4 ≤ j.Kind))) (decide (j.N ≠ 0)) false)) true (bo3 (decide (j.Kind < 4)) (decide (0 < j.List_.length)) false)) false true) (some (if j.Kind = 5 then namesB j.Names && decide (j.Names.length = j.List_.length) else decide (j.Names.length = 0)))).bind fun r37 =>
 bif (bo3 (bo3 (bo3 (bo3 (decide (j.Kind ≠ 3)) (decide (j.S ≠ ByteArray.mk #[])) false) true (bo3 (bo3 (decide (j.Kind = 3)) true (decide (4 ≤ j.Kind))) (decide (j.N ≠ 0)) false)) true (bo3 (decide (j.Kind < 4)) (decide (0 < j.List_.length)) false)) true (bo3 r37 false true)) then (
 some (401 : Int))
 else (
 some y2)) = K
   have hKv : ∀ n : Int, K n = some (if k3B j = true then 401 else n) := by
    intro n
    rw [← hK]
    dsimp only
    unfold k3B
    simp only [qxG, qSQ, qSD]
    generalize ((decide (j.Kind ≠ 3) && decide (j.S ≠ ByteArray.mk #[])) || ((decide (j.Kind = 3) || decide (4 ≤ j.Kind)) && decide (j.N ≠ 0)) || (decide (j.Kind < 4) && decide (0 < j.List_.length))) = b1
    generalize (if j.Kind = 5 then namesB j.Names && decide (j.Names.length = j.List_.length) else decide (j.Names.length = 0)) = b2
    cases b1 <;> cases b2 <;> rfl
   clear hK
   have hl0 : ¬ 4 ≤ j.Kind → k3B j = false → capL (sizeF d) 1 j.List_ = 1 := fun hk h => by
    unfold k3B at h
    have : j.List_.length = 0 := by
     simp only [Bool.or_eq_false_iff, Bool.and_eq_false_iff, decide_eq_false_iff_not] at h
     omega
    rw [List.length_eq_zero_iff.1 this, capL]
   have flat : ¬ 4 ≤ j.Kind → ∀ b : Bool, preB j = b → ∃ v, (bif (!b) then some 401 else K 1) = some v ∧ GrOk v (if ownB j = true then capL (sizeF d) 1 j.List_ else 401) (401 + 401 * ((d + 1 : Nat) : Int)) := by
    intro hk b hb
    rw [qfO, hb, hKv]
    cases b with
    | false => exact ⟨401, rfl, by simpa using hbad⟩
    | true =>
     cases h3 : k3B j with
     | true => exact ⟨401, rfl, by simpa using hbad⟩
     | false =>
      refine ⟨1, rfl, ?_⟩
      rw [if_pos (by rfl), hl0 hk h3]
      exact ⟨by omega, by omega, fun _ => rfl, fun h => by omega⟩
   have deep : 4 ≤ j.Kind → preB j = true → ∃ v, qb.l0 j ((d + 1 : Nat) : Int) (qb.g k) K (((lenI j.List_) - 0).toNat + 1) 1 0 = some v ∧ GrOk v (if ownB j = true then capL (sizeF d) 1 j.List_ else 401) (401 + 401 * ((d + 1 : Nat) : Int)) := by
    intro hk hb
    obtain ⟨v, e, hv⟩ := qWI j ((d + 1 : Nat) : Int) (qb.g k) (sizeF d) (401 + 401 * d) (by omega) K (qIC d) h4 (fun x hx => by
     rw [qIB (by omega), show ((d + 1 : Nat) : Int) - 1 = (d : Int) by omega]
     exact ih d x (by omega) (by omega) (h5 x hx)) (((lenI j.List_) - 0).toNat + 1) 0 1 1 (by omega) (by rw [qt]; omega) (by omega) (by omega) ⟨by omega, by omega, fun _ => rfl, fun h => by omega⟩ (fun h => by omega)
    rw [if_neg (by omega), List.drop_zero] at hv
    obtain ⟨v1, v2, v3, v4⟩ := hv
    rw [qfO, hb, Bool.true_and]
    refine ⟨_, e.trans (hKv v), ?_⟩
    cases h3 : k3B j with
    | true => rw [if_pos rfl, if_neg (by simp)]; exact hbad
    | false => rw [if_neg (by simp), if_pos (by rfl)]; exact ⟨v1, by omega, v3, v4⟩
   rw [sizeF]
   by_cases k0 : j.Kind = 0
   ·
    rw [decide_eq_true k0, cond_true]
    have := flat (by omega) (decide (j.N = 0)) (by unfold preB; rw [if_pos k0])
    by_cases n0 : j.N = 0
    · rw [decide_eq_false (by simp [n0]), cond_false]; rw [decide_eq_true n0] at this; exact this
    rw [decide_eq_true n0, cond_true]; rw [decide_eq_false n0] at this; exact this
   rw [decide_eq_false k0, cond_false]
   by_cases k1 : j.Kind = 1
   ·
    rw [decide_eq_true k1, cond_true, Option.bind_some, qSD]
    exact flat (by omega) _ (by unfold preB; rw [if_neg k0, if_pos k1])
   rw [decide_eq_false k1, cond_false]
   by_cases k2 : j.Kind = 2
   ·
    rw [decide_eq_true k2, cond_true, Option.bind_some, qSD]
    exact flat (by omega) _ (by unfold preB; rw [if_neg k0, if_neg k1, if_pos k2])
   rw [decide_eq_false k2, cond_false]
   by_cases k3 : j.Kind = 3
   ·
    rw [decide_eq_true k3, cond_true, Option.bind_some, qSD]
    exact flat (by omega) _ (by unfold preB; rw [if_neg k0, if_neg k1, if_neg k2, if_pos k3])
   rw [decide_eq_false k3, cond_false, qP]
   by_cases k4 : j.Kind = 4
   ·
    rw [decide_eq_true k4, cond_true]
    exact deep (by omega) (by unfold preB; rw [if_neg k0, if_neg k1, if_neg k2, if_neg k3, decide_eq_true k4]; rfl)
   rw [decide_eq_false k4, cond_false]
   by_cases k5 : j.Kind = 5
   ·
    rw [decide_eq_true k5]
    exact deep (by omega) (by unfold preB; rw [if_neg k0, if_neg k1, if_neg k2, if_neg k3, decide_eq_true k5]; simp)
   rw [decide_eq_false k5]
   have hp : preB j = false := by unfold preB; rw [if_neg k0, if_neg k1, if_neg k2, if_neg k3, decide_eq_false k4, decide_eq_false k5]; rfl
   rw [qfO, hp, Bool.false_and, if_neg (by simp)]
   exact ⟨401, rfl, hbad⟩
theorem quF (j : Json) (h : Jw j) : qAD.f j = some (jsonB j) := by
 unfold qAD.f qb.f jsonB
 obtain ⟨v, e, v1, v2, v3, v4⟩ := qJJ 20 6 j (by omega) (by omega) h
 rw [show (6 : Int) = ((6 : Nat) : Int) from rfl, e, Option.bind_some]
 by_cases c : sizeF 6 j ≤ 400
 · rw [v3 c, decide_eq_true c]
 rw [decide_eq_false c, decide_eq_false (by have := v4 (by omega); omega)]
theorem qiN (K : Bool → ByteArray → Option ByteArray) (b : Bool) : ∀ (k u : Nat) (neg : Bool) (l : List UInt8), u < 10 ^ k → u ≤ 9223372036854775808 → l.length + k ≤ 1000 → qz.l0 K (k + 1) (if neg = true then -(u : Int) else u) b (bl l) = K b (bl (digs u ++ l)) := by
 intro k
 induction k with
 | zero =>
  intro u neg l h _ _
  have : u = 0 := by simpa using h
  subst this
  rw [qz.l0]
  cases neg <;> simp [digs]
 | succ k ih =>
  intro u neg l h hu hl
  rw [qz.l0]
  by_cases h0 : u = 0
  ·
   subst h0
   cases neg <;> simp [digs]
  have hz : (if neg = true then -(u : Int) else u) ≠ 0 := by cases neg <;> simp <;> omega
  have hd : u / 10 < 10 ^ k := by rw [Nat.pow_succ] at h; omega
  have hdiv : w64 (Int.tdiv (if neg = true then -(u : Int) else u) 10) = (if neg = true then -((u / 10 : Nat) : Int) else ((u / 10 : Nat) : Int)) := by
   cases neg with
   | true => simp only [if_true]; rw [Int.neg_tdiv, Int.tdiv_eq_ediv_of_nonneg (by omega), qIB (by omega)]; omega
   | false => simp only [if_false, Bool.false_eq_true]; rw [Int.tdiv_eq_ediv_of_nonneg (by omega), qIB (by omega)]; omega
  have hm : Int.tmod (if neg = true then -(u : Int) else u) 10 = (if neg = true then -((u % 10 : Nat) : Int) else ((u % 10 : Nat) : Int)) := by
   cases neg with
   | true => simp only [if_true]; rw [Int.neg_tmod, Int.tmod_eq_emod_of_nonneg (by omega)]; omega
   | false => simp only [if_false, Bool.false_eq_true]; rw [Int.tmod_eq_emod_of_nonneg (by omega)]; omega
  rw [decide_eq_true hz, cond_true, hdiv, hm, qwL (by omega)]
  have hsm : smO (bl [UInt8.ofNat (48 + u % 10)]) (bl l) = some () := qGT (by rw [qEC, qEC]; simp only [List.length_cons, List.length_nil]; omega)
  have fin : qz.l0 K (k + 1) (if neg = true then -((u / 10 : Nat) : Int) else ((u / 10 : Nat) : Int)) b (Ls.sa (bl [UInt8.ofNat (48 + u % 10)]) (bl l)) = K b (bl (digs (u / 10) ++ [UInt8.ofNat (48 + u % 10)] ++ l)) := by
   rw [bl_sa, ih (u / 10) neg _ hd (by omega) (by simp only [List.length_append, List.length_cons, List.length_nil]; omega)]
   simp
  by_cases hneg : (if neg = true then -((u % 10 : Nat) : Int) else ((u % 10 : Nat) : Int)) < 0
  ·
   have hn : neg = true := by cases neg <;> simp_all <;> omega
   subst hn
   simp only [if_true] at hneg fin ⊢
   rw [decide_eq_true hneg, cond_true, qIB (x := 0 - -((u % 10 : Nat) : Int)) (by omega), qIB (by omega), show (48 : Int) + (0 - -((u % 10 : Nat) : Int)) = ((48 + u % 10 : Nat) : Int) by omega, wrap8 (by omega), Option.bind_some, qZQ _ (by omega), Option.bind_some, hsm, Option.bind_some, fin]
  have hv : (if neg = true then -((u % 10 : Nat) : Int) else ((u % 10 : Nat) : Int)) = ((u % 10 : Nat) : Int) := by cases neg <;> simp at hneg ⊢ <;> omega
  rw [decide_eq_false hneg, cond_false, hv, qIB (by omega), show (48 : Int) + ((u % 10 : Nat) : Int) = ((48 + u % 10 : Nat) : Int) by omega, wrap8 (by omega), Option.bind_some, qZQ _ (by omega), Option.bind_some, hsm, Option.bind_some, fin]
theorem qZH (n : Int) (h : -9223372036854775808 ≤ n ∧ n ≤ 9223372036854775807) : qz.f n = some (bl (Lib.itoa n)) := by
 unfold qz.f
 by_cases h0 : n = 0
 ·
  subst h0
  rw [decide_eq_true rfl, cond_true, show Lib.itoa 0 = [48] by rw [Lib.itoa, if_neg (by omega), Lib.decDigits, dif_pos (by decide)]; rfl]
  rfl
 rw [decide_eq_false h0, cond_false, qP]
 have key := qiN (fun (y2 : Bool) (y3 : ByteArray) =>
  bif y2 then (
  (smO (ByteArray.mk #[45]) y3).bind fun u20 =>
  some (Ls.sa (ByteArray.mk #[45]) y3))
  else (
  some y3)) (decide (n < 0)) 29 n.natAbs (decide (n < 0)) [] (by omega) (by omega) (by simp)
 have hn : (if decide (n < 0) = true then -((n.natAbs : Nat) : Int) else (n.natAbs : Nat)) = n := by
  by_cases c : n < 0
  · rw [if_pos (by simpa using c)]; omega
  rw [if_neg (by simpa using c)]; omega
 rw [hn] at key
 have hlen := qXE 29 n.natAbs (by omega)
 refine key.trans ?_
 rw [List.append_nil]
 have hdg : digs n.natAbs = Lib.decDigits n.natAbs := by unfold digs; rw [if_neg (by omega)]
 by_cases c : n < 0
 ·
  rw [decide_eq_true c, cond_true, show ByteArray.mk #[45] = bl [45] from rfl, qGT (by rw [qEC, qEC]; simp only [List.length_cons, List.length_nil]; omega), Option.bind_some, bl_sa, hdg]
  simp [Lib.itoa, c]
 rw [decide_eq_false c, cond_false, hdg]
 simp [Lib.itoa, c]
 try congr 2; omega
def nullJ : Json := ⟨0, 0, ByteArray.empty, [], []⟩
theorem qcQ {f : Json → Int} (hf : ∀ x, 1 ≤ f x ∧ f x ≤ 401) : ∀ (l : List Json) (n : Int), 0 ≤ n → n ≤ 400 → capL f n l ≤ 400 → capL f n l = n + (l.map f).sum ∧ ∀ x ∈ l, f x ≤ 400
 | [], n, _, _, _ => by simp [capL]
 | x :: l, n, h0, hn, h => by
  have hfx := hf x
  rw [capL] at h ⊢
  split at h
  · omega
  rename_i c
  rw [if_neg c]
  obtain ⟨h1, h2⟩ := qcQ hf l (n + f x) (by omega) (by omega) h
  refine ⟨by rw [h1, List.map_cons, List.sum_cons]; omega, fun y hy => ?_⟩
  rcases List.mem_cons.1 hy with rfl | hy
  · omega
  exact h2 y hy
theorem qdQ {j : Json} (h : ownB j = true) : j.Names.length ≤ j.List_.length := by
 rw [qfO, Bool.and_eq_true] at h
 have h2 := h.2
 unfold k3B at h2
 simp only [Bool.not_eq_true', Bool.or_eq_false_iff] at h2
 have h3 := h2.2
 by_cases k5 : j.Kind = 5
 ·
  rw [if_pos k5] at h3
  simp only [Bool.not_eq_false', Bool.and_eq_true, decide_eq_true_eq] at h3
  omega
 rw [if_neg k5] at h3
 simp only [Bool.not_eq_false', decide_eq_true_eq] at h3
 omega
theorem qxL : ∀ (d : Nat) (j : Json), sizeF d j ≤ 400 → szj j ≤ 2 * sizeF d j - 2 ∧ dpj j ≤ d
 | 0, j, h => by rw [sizeF] at h; omega
 | d + 1, j, h => by
  rw [sizeF] at h ⊢
  split at h
  ·
   rename_i ho
   rw [if_pos ho]
   obtain ⟨h1, h2⟩ := qcQ (qIC d) j.List_ 1 (by omega) (by omega) h
   have hn := qdQ ho
   rw [h1, qCT, qDT]
   have hL : ∀ l : List Json, (∀ x ∈ l, sizeF d x ≤ 400) → szL l + (l.length : Int) ≤ 2 * (l.map (sizeF d)).sum ∧ dpL l ≤ d := by
    intro l
    induction l with
    | nil => intro _; simp [szL, dpL]
    | cons x l ih =>
     intro hx
     obtain ⟨a1, a2⟩ := ih fun y hy => hx y (by simp [hy])
     obtain ⟨b1, b2⟩ := qxL d x (hx x (by simp))
     rw [szL, dpL, List.map_cons, List.sum_cons, List.length_cons]
     exact ⟨by omega, by omega⟩
   obtain ⟨c1, c2⟩ := hL j.List_ h2
   exact ⟨by omega, by omega⟩
  omega
theorem qWS {n : Int} {k : Nat} (hk : 0 < k) (h : n.natAbs < 10 ^ k) : (Lib.itoa n).length ≤ k + 1 := by
 have h1 := qXE k n.natAbs h
 unfold digs at h1
 unfold Lib.itoa
 by_cases h0 : n.natAbs = 0
 ·
  have : n = 0 := by omega
  subst this
  rw [if_neg (by omega), show (0 : Int).toNat = 0 from rfl, Lib.decDigits, dif_pos (by decide)]
  simp
 rw [if_neg h0] at h1
 split
 · simp only [List.length_cons]; omega
 rw [show n.toNat = n.natAbs by omega]; omega
theorem qwJ {n : Int} (h : -1000000000 ≤ n ∧ n ≤ 1000000000) : (Lib.itoa n).length ≤ 11 := qWS (k := 10) (by decide) (by omega)
theorem qUC {a b : List UInt8} (h : a.length + b.length ≤ 4611686018427387904) : addO (bl a) (bl b) = some (bl (a ++ b)) := by
 unfold addO
 rw [if_pos (by rw [qEC, qEC]; omega)]
 exact congrArg some (bl_sa a b)
theorem qyG : ∀ (u : Nat), ∀ c ∈ Lib.decDigits u, 48 ≤ c.toNat ∧ c.toNat ≤ 57 := by
 intro u
 induction u using Nat.strongRecOn with
 | ind u ih =>
  intro c hc
  rw [Lib.decDigits] at hc
  split at hc
  ·
   rename_i h
   simp only [List.mem_cons, List.not_mem_nil, or_false] at hc
   subst hc
   have : (UInt8.ofNat (48 + u)).toNat = 48 + u := by simp; omega
   omega
  rename_i h
  rw [List.mem_append] at hc
  rcases hc with hc | hc
  · exact ih (u / 10) (by omega) c hc
  simp only [List.mem_cons, List.not_mem_nil, or_false] at hc
  subst hc
  have : (UInt8.ofNat (48 + u % 10)).toNat = 48 + u % 10 := by simp; omega
  omega
theorem qpH {n : Int} {c : UInt8} (h : c ∈ Lib.itoa n) : c.toNat = 45 ∨ 48 ≤ c.toNat ∧ c.toNat ≤ 57 := by
 unfold Lib.itoa at h
 split at h
 ·
  rcases List.mem_cons.1 h with rfl | h
  · exact .inl rfl
  exact .inr (qyG _ _ h)
 exact .inr (qyG _ _ h)
abbrev nullL : List UInt8 := [110, 117, 108, 108]
abbrev trueL : List UInt8 := [116, 114, 117, 101]
abbrev falseL : List UInt8 := [102, 97, 108, 115, 101]
def escC (c : UInt8) : List UInt8 := if c = 34 ∨ c = 92 then [92, c] else [c]
def quoteL (s : List UInt8) : List UInt8 := 34 :: (s.flatMap escC ++ [34])
def objW (f : Json → List UInt8) : List ByteArray → List Json → List (List UInt8)
 | n :: ns, x :: l => (quoteL n.data.toList ++ 58 :: f x) :: objW f ns l
 | _, _ => []
def encF : Nat → Json → List UInt8
 | 0, _ => []
 | d + 1, j => if j.Kind = 0 then nullL else if j.Kind = 1 then (if j.N = 1 then trueL else falseL) else if j.Kind = 2 then Lib.itoa j.N else if j.Kind = 3 then quoteL j.S.data.toList else
  if j.Kind = 4 then 91 :: (Lib.join (j.List_.map (encF d)) [44] ++ [93]) else 123 :: (Lib.join (objW (encF d) j.Names j.List_) [44] ++ [125])
theorem qfC {j : Json} (h : ownB j = true) : j = nullJ ∨ (∃ n, (n = 0 ∨ n = 1) ∧ j = ⟨1, n, ByteArray.empty, [], []⟩) ∨ (∃ n, (-1000000000 ≤ n ∧ n ≤ 1000000000) ∧ j = ⟨2, n, ByteArray.empty, [], []⟩) ∨ (∃ s, txtB s = true ∧ j = ⟨3, 0, s, [], []⟩) ∨ (∃ l, j = ⟨4, 0, ByteArray.empty, l, []⟩) ∨ (∃ l ns, ns.length = l.length ∧ namesB ns = true ∧ j = ⟨5, 0, ByteArray.empty, l, ns⟩) := by
 obtain ⟨k, n, s, l, ns⟩ := j
 unfold ownB at h
 dsimp only at h
 have nil : ∀ {α : Type} {l : List α}, ¬ 0 < l.length → l = [] := fun h => List.length_eq_zero_iff.1 (by omega)
 have e0 : ByteArray.mk #[] = ByteArray.empty := rfl
 rw [qdO, qdO] at h
 split at h
 · cases h
 rename_i h1
 split at h
 · cases h
 rename_i h2
 simp only [Bool.or_eq_true, Bool.and_eq_true, decide_eq_true_eq, not_or, not_and, ne_eq, e0] at h1 h2
 obtain ⟨h1, h3⟩ := h1
 obtain ⟨h2, h4⟩ := h2
 by_cases k1 : k = 1
 ·
  subst k1
  rw [if_pos rfl] at h
  have := of_decide_eq_true h
  have a1 : l = [] := nil fun hh => by have := h1 ⟨hh, by decide⟩; revert this; decide
  have a2 : ns = [] := nil fun hh => by have := h3 hh; revert this; decide
  have a3 : s = ByteArray.empty := Classical.byContradiction fun hh => by have := h4 hh; revert this; decide
  exact .inr (.inl ⟨n, by omega, by rw [a1, a2, a3]⟩)
 rw [if_neg k1] at h
 by_cases k2 : k = 2
 ·
  subst k2
  rw [if_pos rfl] at h
  have := of_decide_eq_true h
  have a1 : l = [] := nil fun hh => by have := h1 ⟨hh, by decide⟩; revert this; decide
  have a2 : ns = [] := nil fun hh => by have := h3 hh; revert this; decide
  have a3 : s = ByteArray.empty := Classical.byContradiction fun hh => by have := h4 hh; revert this; decide
  exact .inr (.inr (.inl ⟨n, this, by rw [a1, a2, a3]⟩))
 rw [if_neg k2] at h
 have a4 : n = 0 := Classical.byContradiction fun hh => h2 ⟨hh, k1⟩ k2
 by_cases k3 : k = 3
 ·
  subst k3
  rw [if_pos rfl] at h
  have a1 : l = [] := nil fun hh => by have := h1 ⟨hh, by decide⟩; revert this; decide
  have a2 : ns = [] := nil fun hh => by have := h3 hh; revert this; decide
  exact .inr (.inr (.inr (.inl ⟨s, h, by rw [a1, a2, a4]⟩)))
 rw [if_neg k3] at h
 have a3 : s = ByteArray.empty := Classical.byContradiction fun hh => h4 hh k3
 by_cases k5 : k = 5
 ·
  subst k5
  rw [if_pos rfl, Bool.and_eq_true] at h
  exact .inr (.inr (.inr (.inr (.inr ⟨l, ns, of_decide_eq_true h.1, h.2, by rw [a3, a4]⟩))))
 rw [if_neg k5, Bool.or_eq_true, decide_eq_true_eq, decide_eq_true_eq] at h
 have a2 : ns = [] := nil fun hh => k5 (Classical.byContradiction fun q => by exact absurd (h3 hh) (by simpa using q))
 rcases h with rfl | rfl
 ·
  have a1 : l = [] := nil fun hh => by have := h1 ⟨hh, by decide⟩; revert this; decide
  exact .inl (by rw [a1, a2, a3, a4]; rfl)
 exact .inr (.inr (.inr (.inr (.inl ⟨l, by rw [a2, a3, a4]⟩))))
def chs (l : List UInt8) : List Int := l.map fun c => (c.toNat : Int)
theorem qzG (l : List UInt8) : bsO (chs l) = bl l := by
 unfold bsO chs bl
 rw [List.map_map]
 congr 2
 conv => rhs; rw [← List.map_id l]
 apply List.map_congr_left
 intro c _
 show UInt8.ofNat ((c.toNat : Int).toNat) = c
 rw [Int.toNat_natCast]
 simp
theorem qtT (a b : List UInt8) : chs (a ++ b) = chs a ++ chs b := List.map_append
theorem quT (a : List UInt8) : (chs a).length = a.length := List.length_map _
theorem qvT (s : List UInt8) : (s.flatMap escC).length ≤ 2 * s.length := by
 induction s with
 | nil => exact Nat.le_refl _
 | cons c s ih =>
  rw [List.flatMap_cons, List.length_append, List.length_cons]
  have : (escC c).length ≤ 2 := by unfold escC; split <;> simp
  omega
theorem qcG (s : List UInt8) : (quoteL s).length ≤ 2 * s.length + 2 := by
 have := qvT s
 unfold quoteL
 simp only [List.length_cons, List.length_append, List.length_nil]
 omega
theorem q34 {s : List UInt8} {i : Nat} {c : UInt8} (h : s[i]? = some c) : bo3 (decide ((Ls.sx (bl s) (i : Int)) = 34)) true (decide ((Ls.sx (bl s) (i : Int)) = 92)) = decide (c = 34 ∨ c = 92) := by
 rw [sx_bl h]
 have e1 : ((c.toNat : Int) = 34) ↔ c = 34 := ⟨fun h => UInt8.toNat_inj.1 (by have e : (34 : UInt8).toNat = 34 := rfl; omega), fun h => by rw [h]; rfl⟩
 have e2 : ((c.toNat : Int) = 92) ↔ c = 92 := ⟨fun h => UInt8.toNat_inj.1 (by have e : (92 : UInt8).toNat = 92 := rfl; omega), fun h => by rw [h]; rfl⟩
 by_cases h1 : c = 34
 · rw [decide_eq_true (e1.2 h1), decide_eq_true (p := c = 34 ∨ c = 92) (.inl h1)]; rfl
 rw [decide_eq_false (fun h => h1 (e1.1 h))]
 by_cases h2 : c = 92
 · rw [decide_eq_true (e2.2 h2), decide_eq_true (p := c = 34 ∨ c = 92) (.inr h2)]; rfl
 rw [decide_eq_false (fun h => h2 (e2.1 h)), decide_eq_false (p := c = 34 ∨ c = 92) (by rintro (h | h); exact h1 h; exact h2 h)]; rfl
theorem qzD {acc : List UInt8} {c : UInt8} (h : acc.length ≤ 100000000) : appO 1 (chs acc) [(c.toNat : Int)] = some (chs (acc ++ [c])) := by
 rw [qeB (by rw [quT]; simp only [List.length_cons, List.length_nil]; omega), qtT]; rfl
theorem qHT {acc : List UInt8} (h : acc.length ≤ 100000000) : appO 1 (chs acc) [92] = some (chs (acc ++ [92])) := qzD (c := 92) h
theorem qIT {acc : List UInt8} (h : acc.length ≤ 100000000) : appO 1 (chs acc) [34] = some (chs (acc ++ [34])) := qzD (c := 34) h
theorem qLP (s : List UInt8) (hs : s.length ≤ 10000000) : ∀ (k i : Nat) (acc : List UInt8), i ≤ s.length → s.length < i + k → acc.length ≤ 2 * i + 1 → qBB.l0 (bl s) k (chs acc) (i : Int) = some (bl (acc ++ ((s.drop i).flatMap escC ++ [34]))) := by
 intro k
 induction k with
 | zero => intro i acc h1 h2; omega
 | succ k ih =>
  intro i acc h1 h2 h3
  rw [qBB.l0, sl_bl]
  by_cases hi : i < s.length
  ·
   have hx := List.getElem?_eq_getElem hi
   rw [decide_eq_true (by omega), cond_true, qwD hi, bd]
   have hg : ∀ b : Bool, (gd b (some ()) : Option Unit) = some () := fun b => by cases b <;> rfl
   rw [hg, bd, q34 hx, List.drop_eq_getElem_cons hi, List.flatMap_cons]
   by_cases hc : s[i] = 34 ∨ s[i] = 92
   ·
    rw [decide_eq_true hc, cond_true, bd, qHT (by omega), bd, bd, sx_bl hx, bd, qzD (by rw [List.length_append, List.length_singleton]; omega), bd, qq (by omega), ih (i + 1) _ (by omega) (by omega) (by simp only [List.length_append, List.length_cons, List.length_nil]; omega)]
    unfold escC
    rw [if_pos hc]
    simp
   rw [decide_eq_false hc, cond_false, bd, sx_bl hx, bd, qzD (by omega), bd, qq (by omega), ih (i + 1) _ (by omega) (by omega) (by simp only [List.length_append, List.length_cons, List.length_nil]; omega)]
   rw [show escC s[i] = [s[i]] from if_neg hc]
   simp
  rw [decide_eq_false (by omega), cond_false, bd, qIT (by omega), bd, bd, qzG, List.drop_eq_nil_of_le (by omega)]
  simp
theorem qzE (s : List UInt8) (hs : s.length ≤ 10000000) : qBB.f (bl s) = some (bl (quoteL s)) := by
 unfold qBB.f
 rw [bd, sl_bl]
 refine (qLP s hs _ 0 [34] (by omega) (by omega) (by simp)).trans ?_
 rw [List.drop_zero]
 rfl
theorem qAF {ns : List ByteArray} (h : namesB ns = true) : ∀ n ∈ ns, txtB n = true := by
 unfold namesB at h
 rw [qSI] at h
 intro n hn
 obtain ⟨i, hi⟩ := List.mem_iff_getElem?.1 hn
 have := h i n hi
 rw [Bool.and_eq_true] at this
 exact this.1
theorem qAE {n : ByteArray} (h : txtB n = true) : n.data.toList.length ≤ 60 := by
 unfold txtB at h
 rw [Bool.and_eq_true, decide_eq_true_eq, qvD] at h
 exact h.2
theorem qaC {d : Nat} {j : Json} (h : sizeF (d + 1) j ≤ 400) : ownB j = true ∧ sizeF (d + 1) j = 1 + (j.List_.map (sizeF d)).sum ∧ (∀ x ∈ j.List_, sizeF d x ≤ 400) ∧ (j.List_.length : Int) ≤ (j.List_.map (sizeF d)).sum := by
 rw [sizeF] at h ⊢
 split at h
 ·
  rename_i ho
  obtain ⟨h1, h2⟩ := qcQ (qIC d) j.List_ 1 (by omega) (by omega) h
  rw [if_pos ho]
  refine ⟨ho, h1, h2, ?_⟩
  have : ∀ l : List Json, (l.length : Int) ≤ (l.map (sizeF d)).sum := by
   intro l
   induction l with
   | nil => simp
   | cons x l ih => have := qIC d x; rw [List.map_cons, List.sum_cons, List.length_cons]; omega
  exact this _
 omega
theorem qbF {d : Nat} {j : Json} (h : sizeF d j ≤ 400) : ∃ e, d = e + 1 := by
 cases d with
 | zero => rw [sizeF] at h; omega
 | succ e => exact ⟨e, rfl⟩
theorem qyL (w : List UInt8) (ws : List (List UInt8)) : Lib.lens (w :: ws) = w.length + Lib.lens ws := by simp [Lib.lens]
theorem qeQ (ws : List (List UInt8)) : (Lib.join ws [44]).length ≤ Lib.lens ws + ws.length := by
 cases ws with
 | nil => simp [Lib.join_nil]
 | cons w ws => rw [Lib.join_length]; simp; omega
theorem qqH (f : Json → List UInt8) : ∀ (ns : List ByteArray) (l : List Json), ns.length = l.length → (objW f ns l).length = l.length
 | [], [], _ => rfl
 | [], _ :: _, h => by simp at h
 | _ :: _, [], h => by simp at h
 | n :: ns, x :: l, h => by simp [objW, qqH f ns l (by simpa using h)]
theorem qUK : ∀ (d : Nat) (j : Json), sizeF d j ≤ 400 → ((encF d j).length : Int) + 150 ≤ 300 * sizeF d j := by
 intro d
 induction d with
 | zero => intro j h; rw [sizeF] at h; omega
 | succ d ih =>
  intro j h
  obtain ⟨ho, h1, h2, h3⟩ := qaC h
  have h4 : ∀ l : List Json, (∀ x ∈ l, sizeF d x ≤ 400) → (Lib.lens (l.map (encF d)) : Int) + 150 * l.length ≤ 300 * (l.map (sizeF d)).sum := by
   intro l
   induction l with
   | nil => intro _; simp [Lib.lens]
   | cons x l ih' =>
    intro hx
    have a := ih' fun y hy => hx y (by simp [hy])
    have b := ih x (hx x (by simp))
    rw [List.map_cons, List.map_cons, qyL, List.sum_cons, List.length_cons]
    omega
  have h5 : ∀ (ns : List ByteArray) (l : List Json), ns.length = l.length → (∀ n ∈ ns, txtB n = true) → (∀ x ∈ l, sizeF d x ≤ 400) → (Lib.lens (objW (encF d) ns l) : Int) + 27 * l.length ≤ 300 * (l.map (sizeF d)).sum := by
   intro ns
   induction ns with
   | nil => intro l e _ _; have : l = [] := List.length_eq_zero_iff.1 e.symm; subst this; simp [objW, Lib.lens]
   | cons n ns ih' =>
    intro l e hn hx
    cases l with
    | nil => simp at e
    | cons x l =>
     have a := ih' l (by simpa using e) (fun m hm => hn m (by simp [hm])) fun y hy => hx y (by simp [hy])
     have b := ih x (hx x (by simp))
     have c := qcG n.data.toList
     have e' := qAE (hn n (by simp))
     rw [objW, qyL, List.map_cons, List.sum_cons, List.length_cons]
     simp only [List.length_append, List.length_cons]
     omega
  have h6 := h4 _ h2
  have h7 := qeQ (j.List_.map (encF d))
  rw [List.length_map] at h7
  rw [h1]
  rcases qfC ho with rfl | ⟨n, hn, rfl⟩ | ⟨n, hn, rfl⟩ | ⟨s, hs, rfl⟩ | ⟨l, rfl⟩ | ⟨l, ns, e, hn, rfl⟩
  · show ((4 : Nat) : Int) + 150 ≤ _; simp [nullJ]
  ·
   show (((if n = 1 then trueL else falseL).length : Nat) : Int) + 150 ≤ _
   have : (if n = 1 then trueL else falseL).length ≤ 5 := by split <;> simp
   simp; omega
  ·
   show (((Lib.itoa n).length : Nat) : Int) + 150 ≤ _
   have := qwJ hn
   simp; omega
  ·
   show (((quoteL s.data.toList).length : Nat) : Int) + 150 ≤ _
   have := qcG s.data.toList
   have := qAE hs
   simp; omega
  ·
   show (((91 :: (Lib.join (l.map (encF d)) [44] ++ [93])).length : Nat) : Int) + 150 ≤ _
   simp only [List.length_cons, List.length_append, List.length_nil] at *
   omega
  show (((123 :: (Lib.join (objW (encF d) ns l) [44] ++ [125])).length : Nat) : Int) + 150 ≤ _
  have a := h5 ns l e (qAF hn) h2
  have b := qeQ (objW (encF d) ns l)
  rw [qqH _ _ _ e] at b
  simp only [List.length_cons, List.length_append, List.length_nil] at *
  omega
def partW (f : Json → List UInt8) (j : Json) (i : Nat) : List (List UInt8) := if j.Kind = 5 then objW f (j.Names.drop i) (j.List_.drop i) else (j.List_.drop i).map f
theorem qVK (a : List UInt8) (ws : List (List UInt8)) : Lib.join (a :: ws) [44] = a ++ (if ws = [] then [] else 44 :: Lib.join ws [44]) := by
 cases ws with
 | nil => simp [Lib.join_one]
 | cons b ws => rw [Lib.join_cons, if_neg (by simp), Lib.join_cons]; simp [Lib.joinTail]
def moreW (ws : List (List UInt8)) (i : Nat) : List UInt8 := if ws = [] then [] else if i = 0 then Lib.join ws [44] else 44 :: Lib.join ws [44]
theorem qIE (a : List UInt8) (ws : List (List UInt8)) (i : Nat) : moreW (a :: ws) i = (if i = 0 then [] else [44]) ++ a ++ moreW ws (i + 1) := by
 unfold moreW
 rw [if_neg (by simp), qVK, if_neg (show ¬ i + 1 = 0 by omega)]
 by_cases h : i = 0
 · rw [if_pos h, if_pos h]; simp
 rw [if_neg h, if_neg h]; simp
theorem qXI (j : Json) (f : Json → List UInt8) (self : Json → Option ByteArray) (K : ByteArray → Option ByteArray) (hl : j.List_.length ≤ 400) (hn : j.Kind = 5 → j.Names.length = j.List_.length) (hs : ∀ n ∈ j.Names, n.data.toList.length ≤ 60) (hx : ∀ x ∈ j.List_, self x = some (bl (f x)) ∧ (f x).length ≤ 1000000) : ∀ (k i : Nat) (acc : List UInt8), i ≤ j.List_.length → j.List_.length < i + k → acc.length ≤ 2000000 * i → qX.l0 j self K k (bl acc) (i : Int) = K (bl (acc ++ moreW (partW f j i) i)) := by
 intro k
 induction k with
 | zero => intro i acc h1 h2; omega
 | succ k ih =>
  intro i acc h1 h2 h3
  rw [qX.l0, qt]
  by_cases hi : i < j.List_.length
  ·
   have hg := List.getElem?_eq_getElem hi
   obtain ⟨e1, e2⟩ := hx _ (List.getElem_mem hi)
   rw [decide_eq_true (by omega), cond_true, qP]
   have go : ∀ acc' : List UInt8, acc' = acc ++ (if i = 0 then [] else [44]) → (joinK (fun (y24 : ByteArray) =>
     (getO j.List_ (i : Int)).bind fun x31 =>
     (self x31).bind fun r32 =>
     (addO y24 r32).bind fun s33 =>
     qX.l0 j self K k s33 (w64 ((i : Int) + 1))) (fun K25 =>
     bif (decide (j.Kind = 5)) then (
     (getO j.Names (i : Int)).bind fun x27 =>
     (qBB.f x27).bind fun r28 =>
     (addO (bl acc') r28).bind fun s29 =>
     (addO s29 (ByteArray.mk #[58])).bind fun s30 =>
     K25 s30)
     else (
     K25 (bl acc')))) = K (bl (acc ++ moreW (partW f j i) i)) := by
    intro acc' ea
    have hla : acc'.length ≤ acc.length + 1 := by rw [ea]; split <;> simp
    rw [qP]
    by_cases hk : j.Kind = 5
    ·
     have hin : i < j.Names.length := by have := hn hk; omega
     have hgn := List.getElem?_eq_getElem hin
     have hlen := hs _ (List.getElem_mem hin)
     have hq := qcG j.Names[i].data.toList
     have en : qBB.f j.Names[i] = some (bl (quoteL j.Names[i].data.toList)) := by
      have h := qzE j.Names[i].data.toList (by omega)
      rw [qeC] at h; exact h
     rw [decide_eq_true hk, cond_true, qrB, hgn, bd, en, bd, qUC (by omega), bd, show ByteArray.mk #[58] = bl [58] from rfl, qUC (by simp only [List.length_append, List.length_cons, List.length_nil]; omega), bd]
     dsimp only
     rw [qrB, hg, bd, e1, bd, qUC (by simp only [List.length_append, List.length_cons, List.length_nil]; omega), bd, qq (by omega),
      ih (i + 1) _ (by omega) (by omega) (by simp only [List.length_append, List.length_cons, List.length_nil]; omega)]
     have ep : partW f j i = (quoteL j.Names[i].data.toList ++ 58 :: f j.List_[i]) :: partW f j (i + 1) := by
      unfold partW
      rw [if_pos hk, if_pos hk, List.drop_eq_getElem_cons hi, List.drop_eq_getElem_cons hin]
      rfl
     rw [ep, qIE, ea]
     congr 2
     simp
    ·
     rw [decide_eq_false hk, cond_false]
     dsimp only
     rw [qrB, hg, bd, e1, bd, qUC (by omega), bd, qq (by omega), ih (i + 1) _ (by omega) (by omega) (by simp only [List.length_append]; omega)]
     have ep : partW f j i = f j.List_[i] :: partW f j (i + 1) := by
      unfold partW
      rw [if_neg hk, if_neg hk, List.drop_eq_getElem_cons hi]
      rfl
     rw [ep, qIE, ea]
     congr 2
     simp
   by_cases h0 : i = 0
   ·
    rw [decide_eq_false (by omega), cond_false]
    exact go acc (by rw [if_pos h0, List.append_nil])
   rw [decide_eq_true (by omega), cond_true, show ByteArray.mk #[44] = bl [44] from rfl, qUC (by simp only [List.length_cons, List.length_nil]; omega), bd]
   exact go _ (by rw [if_neg h0])
  rw [decide_eq_false (by omega), cond_false]
  have : partW f j i = [] := by
   unfold partW
   rw [show j.List_.drop i = [] from List.drop_eq_nil_of_le (by omega)]
   split
   · cases j.Names.drop i <;> rfl
   rfl
  rw [this, show moreW [] i = [] from if_pos rfl, List.append_nil]
theorem qhD (ws : List (List UInt8)) : moreW ws 0 = Lib.join ws [44] := by
 unfold moreW
 split
 · rename_i h; rw [h]; simp [Lib.join_nil]
 rw [if_pos rfl]
theorem qYI : ∀ (k d : Nat) (j : Json), d ≤ k → sizeF d j ≤ 400 → qX.g k j = some (bl (encF d j)) := by
  intro k
  induction k with
  | zero => intro d j h1 h2; have : d = 0 := by omega
            subst this; rw [sizeF] at h2; omega
  | succ k ih =>
    intro d j h1 h2
    obtain ⟨d, rfl⟩ := qbF h2
    obtain ⟨ho, h3, h4, h5⟩ := qaC h2
    have hlen := qUK (d + 1) j h2
    have hx : ∀ x ∈ j.List_, qX.g k x = some (bl (encF d x)) ∧ (encF d x).length ≤ 1000000 := fun x hx => ⟨ih d x (by omega) (h4 x hx), by have := qUK d x (h4 x hx); have := h4 x hx; omega⟩
    have hl : j.List_.length ≤ 400 := by omega
    rw [qX.g, qX.b]
    rcases qfC ho with rfl | ⟨n, hn, rfl⟩ | ⟨n, hn, rfl⟩ | ⟨s, hs, rfl⟩ | ⟨l, rfl⟩ | ⟨l, ns, e, hn, rfl⟩
    · rfl
    · rcases hn with rfl | rfl <;> rfl
    · show (qz.f n).bind _ = _
      rw [qZH n (by omega)]
      rfl
    · show (qBB.f s).bind _ = _
      have := qAE hs
      have h := qzE s.data.toList (by omega)
      rw [qeC] at h
      rw [h]; rfl
    · have ep : partW (encF d) ⟨4, 0, ByteArray.empty, l, []⟩ 0 = l.map (encF d) := rfl
      have hlen' : (((91 :: (Lib.join (l.map (encF d)) [44] ++ [93])).length : Nat) : Int) + 150 ≤ 300 * sizeF (d + 1) ⟨4, 0, ByteArray.empty, l, []⟩ := hlen
      simp only [List.length_cons, List.length_append, List.length_nil] at hlen'
      show joinK _ _ = _
      rw [qP]
      dsimp only
      rw [show ((lenI l) - 0).toNat + 1 = l.length + 1 by rw [qt]; omega]
      refine (qXI ⟨4, 0, ByteArray.empty, l, []⟩ (encF d) _ _ hl (fun h => by simp at h) (by simp) hx _ 0 [] (by omega) (by show l.length < _; omega) (by simp)).trans ?_
      rw [List.nil_append, ep, qhD]
      show (addO (bl [91]) _).bind _ = _
      rw [qUC (by simp only [List.length_cons, List.length_nil]; omega), bd, show ByteArray.mk #[93] = bl [93] from rfl, qUC (by simp only [List.length_append, List.length_cons, List.length_nil]; omega), bd]
      rfl
    · have ep : partW (encF d) ⟨5, 0, ByteArray.empty, l, ns⟩ 0 = objW (encF d) ns l := rfl
      have hlen' : (((123 :: (Lib.join (objW (encF d) ns l) [44] ++ [125])).length : Nat) : Int) + 150 ≤ 300 * sizeF (d + 1) ⟨5, 0, ByteArray.empty, l, ns⟩ := hlen
      simp only [List.length_cons, List.length_append, List.length_nil] at hlen'
      show joinK _ _ = _
      rw [qP]
      dsimp only
      rw [show ((lenI l) - 0).toNat + 1 = l.length + 1 by rw [qt]; omega]
      refine (qXI ⟨5, 0, ByteArray.empty, l, ns⟩ (encF d) _ _ hl (fun _ => e) (fun n h => qAE (qAF hn n h)) hx _ 0 [] (by omega) (by show l.length < _; omega) (by simp)).trans ?_
      rw [List.nil_append, ep, qhD]
      show (addO (bl [123]) _).bind _ = _
      rw [qUC (by simp only [List.length_cons, List.length_nil]; omega), bd, show ByteArray.mk #[125] = bl [125] from rfl, qUC (by simp only [List.length_append, List.length_cons, List.length_nil]; omega), bd]
      rfl
theorem qfQ (s : List UInt8) (hs : s.length ≤ 10000000) : ∀ (k i : Nat) (acc : List UInt8), i ≤ s.length → s.length < i + k → acc.length ≤ 2 * i + 1 → qPB.l0 (bl s) k (chs acc) (s.length : Int) (i : Int) = some (bl (acc ++ ((s.drop i).flatMap escC ++ [34]))) := by
 intro k
 induction k with
 | zero => intro i acc h1 h2; omega
 | succ k ih =>
  intro i acc h1 h2 h3
  rw [qPB.l0]
  by_cases hi : i < s.length
  ·
   have hx := List.getElem?_eq_getElem hi
   rw [decide_eq_true (by omega), cond_true, qwD hi, bd]
   have hg : ∀ b : Bool, (gd b (some ()) : Option Unit) = some () := fun b => by cases b <;> rfl
   rw [hg, bd, q34 hx, List.drop_eq_getElem_cons hi, List.flatMap_cons]
   by_cases hc : s[i] = 34 ∨ s[i] = 92
   ·
    rw [decide_eq_true hc, cond_true, bd, qHT (by omega), bd, bd, sx_bl hx, bd, qzD (by rw [List.length_append, List.length_singleton]; omega), bd, qq (by omega), ih (i + 1) _ (by omega) (by omega) (by simp only [List.length_append, List.length_cons, List.length_nil]; omega)]
    unfold escC
    rw [if_pos hc]
    simp
   rw [decide_eq_false hc, cond_false, bd, sx_bl hx, bd, qzD (by omega), bd, qq (by omega), ih (i + 1) _ (by omega) (by omega) (by simp only [List.length_append, List.length_cons, List.length_nil]; omega)]
   rw [show escC s[i] = [s[i]] from if_neg hc]
   simp
  rw [decide_eq_false (by omega), cond_false, bd, qIT (by omega), bd, bd, qzG, List.drop_eq_nil_of_le (by omega)]
  simp
theorem qvF (s : List UInt8) (hs : s.length ≤ 10000000) : qPB.f (bl s) = some (bl (quoteL s)) := by
 unfold qPB.f
 rw [bd, sl_bl]
 refine (qfQ s hs _ 0 [34] (by omega) (by omega) (by simp)).trans ?_
 rw [List.drop_zero]
 rfl
theorem qBF (ws : List (List UInt8)) (sep : List UInt8) (h : ws.length ≤ 140737488355328) (h2 : (Lib.join ws sep).length ≤ 140737488355328) : strings_Join.f (ws.map bl) (bl sep) = some (bl (Lib.join ws sep)) := by
 have e : (ws.map bl).map (·.data.toList) = ws := by simp [bl, Function.comp_def]
 have e2 : (bl sep).data.toList = sep := by simp [bl]
 unfold strings_Join.f joinO
 rw [e, e2, if_pos ⟨by simpa using h, h2⟩]
 rfl
theorem qZI (n : Int) (h : -9223372036854775808 ≤ n ∧ n ≤ 9223372036854775807) : strconv_Itoa.f n = some (bl (Lib.itoa n)) := by
 unfold strconv_Itoa.f itoaO
 rw [if_pos h]; rfl
theorem qMP (j : Json) (f : Json → List UInt8) (self : Json → Option ByteArray) (K : List ByteArray → Option ByteArray) (hl : j.List_.length ≤ 400) (hn : j.Kind = 5 → j.Names.length = j.List_.length) (hs : ∀ n ∈ j.Names, n.data.toList.length ≤ 60) (hx : ∀ x ∈ j.List_, self x = some (bl (f x)) ∧ (f x).length ≤ 1000000) : ∀ (k i : Nat) (acc : List (List UInt8)), i ≤ j.List_.length → j.List_.length < i + k → acc.length ≤ i → qg.l0 j self K k (acc.map bl) (i : Int) = K ((acc ++ partW f j i).map bl) := by
 intro k
 induction k with
 | zero => intro i acc h1 h2; omega
 | succ k ih =>
  intro i acc h1 h2 h3
  rw [qg.l0, qt]
  by_cases hi : i < j.List_.length
  ·
   have hg := List.getElem?_eq_getElem hi
   obtain ⟨e1, e2⟩ := hx _ (List.getElem_mem hi)
   rw [decide_eq_true (by omega), cond_true, qrB, hg, bd, e1, bd]
   by_cases hk : j.Kind = 5
   ·
    have hin : i < j.Names.length := by have := hn hk; omega
    have hgn := List.getElem?_eq_getElem hin
    have hlen := hs _ (List.getElem_mem hin)
    have hq := qcG j.Names[i].data.toList
    have en : j.Names[i] = bl j.Names[i].data.toList := (qeC _).symm
    rw [decide_eq_true hk, cond_true, qrB, hgn, bd, en, qvF _ (by omega), bd, show ByteArray.mk #[58] = bl [58] from rfl, qUC (by simp only [List.length_cons, List.length_nil]; omega), bd, qUC (by simp only [List.length_append, List.length_cons, List.length_nil]; omega), bd, bd, qeB (by simp only [List.length_map, List.length_cons, List.length_nil]; omega), bd, qq (by omega)]
    have e : acc.map bl ++ [bl (quoteL j.Names[i].data.toList ++ [58] ++ f j.List_[i])] = (acc ++ [quoteL j.Names[i].data.toList ++ 58 :: f j.List_[i]]).map bl := by
     rw [List.map_append]; simp
    rw [e, ih (i + 1) _ (by omega) (by omega) (by rw [List.length_append, List.length_singleton]; omega), List.append_assoc]
    unfold partW
    rw [if_pos hk, if_pos hk, List.drop_eq_getElem_cons hi, List.drop_eq_getElem_cons hin]
    rfl
   rw [decide_eq_false hk, cond_false, bd, qeB (by simp only [List.length_map, List.length_cons, List.length_nil]; omega), bd, qq (by omega)]
   have e : acc.map bl ++ [bl (f j.List_[i])] = (acc ++ [f j.List_[i]]).map bl := by rw [List.map_append]; rfl
   rw [e, ih (i + 1) _ (by omega) (by omega) (by rw [List.length_append, List.length_singleton]; omega), List.append_assoc]
   unfold partW
   rw [if_neg hk, if_neg hk, List.drop_eq_getElem_cons hi]
   rfl
  rw [decide_eq_false (by omega), cond_false]
  have : partW f j i = [] := by
   unfold partW
   rw [show j.List_.drop i = [] from List.drop_eq_nil_of_le (by omega)]
   split
   · cases j.Names.drop i <;> rfl
   rfl
  rw [this, List.append_nil]
theorem qKJ : ∀ (k d : Nat) (j : Json), d ≤ k → sizeF d j ≤ 400 → qg.g k j = some (bl (encF d j)) := by
  intro k
  induction k with
  | zero => intro d j h1 h2; have : d = 0 := by omega
            subst this; rw [sizeF] at h2; omega
  | succ k ih =>
    intro d j h1 h2
    obtain ⟨d, rfl⟩ := qbF h2
    obtain ⟨ho, h3, h4, h5⟩ := qaC h2
    have hlen := qUK (d + 1) j h2
    have hx : ∀ x ∈ j.List_, qg.g k x = some (bl (encF d x)) ∧ (encF d x).length ≤ 1000000 := fun x hx => ⟨ih d x (by omega) (h4 x hx), by have := qUK d x (h4 x hx); have := h4 x hx; omega⟩
    have hl : j.List_.length ≤ 400 := by omega
    have hns : (j.Kind = 5 → j.Names.length = j.List_.length) ∧ ∀ n ∈ j.Names, n.data.toList.length ≤ 60 := by
      rcases qfC ho with rfl | ⟨n, hn, rfl⟩ | ⟨n, hn, rfl⟩ | ⟨s, hs, rfl⟩ | ⟨l, rfl⟩ | ⟨l, ns, e, hn, rfl⟩
      · exact ⟨fun h => by simp [nullJ] at h, by simp [nullJ]⟩
      · exact ⟨fun h => by simp at h, by simp⟩
      · exact ⟨fun h => by simp at h, by simp⟩
      · exact ⟨fun h => by simp at h, by simp⟩
      · exact ⟨fun h => by simp at h, by simp⟩
      · exact ⟨fun _ => e, fun n h => qAE (qAF hn n h)⟩
    rw [qg.g, qg.b, qP, show ((lenI j.List_) - 0).toNat + 1 = j.List_.length + 1 by rw [qt]; omega]
    refine (qMP j (encF d) _ _ hl hns.1 hns.2 hx _ 0 [] (by omega) (by omega) (by simp)).trans ?_
    rw [List.nil_append]
    rcases qfC ho with rfl | ⟨n, hn, rfl⟩ | ⟨n, hn, rfl⟩ | ⟨s, hs, rfl⟩ | ⟨l, rfl⟩ | ⟨l, ns, e, hn, rfl⟩
    · rfl
    · rcases hn with rfl | rfl <;> rfl
    · show (strconv_Itoa.f n).bind _ = _
      rw [qZI n (by omega)]
      rfl
    · show (qPB.f s).bind _ = _
      have := qAE hs
      have h := qvF s.data.toList (by omega)
      rw [qeC] at h
      rw [h]; rfl
    · have ep : partW (encF d) ⟨4, 0, ByteArray.empty, l, []⟩ 0 = l.map (encF d) := rfl
      rw [ep]
      show (strings_Join.f ((l.map (encF d)).map bl) (bl [44])).bind _ = _
      have hlen' : (((91 :: (Lib.join (l.map (encF d)) [44] ++ [93])).length : Nat) : Int) + 150 ≤ 300 * sizeF (d + 1) ⟨4, 0, ByteArray.empty, l, []⟩ := hlen
      simp only [List.length_cons, List.length_append, List.length_nil] at hlen'
      have hl' : l.length ≤ 400 := hl
      rw [qBF _ _ (by rw [List.length_map]; omega) (by omega), bd, show ByteArray.mk #[91] = bl [91] from rfl, qUC (by simp only [List.length_cons, List.length_nil]; omega), bd, show ByteArray.mk #[93] = bl [93] from rfl, qUC (by simp only [List.length_append, List.length_cons, List.length_nil]; omega), bd]
      rfl
    · have ep : partW (encF d) ⟨5, 0, ByteArray.empty, l, ns⟩ 0 = objW (encF d) ns l := rfl
      rw [ep]
      show (strings_Join.f ((objW (encF d) ns l).map bl) (bl [44])).bind _ = _
      have hlen' : (((123 :: (Lib.join (objW (encF d) ns l) [44] ++ [125])).length : Nat) : Int) + 150 ≤ 300 * sizeF (d + 1) ⟨5, 0, ByteArray.empty, l, ns⟩ := hlen
      simp only [List.length_cons, List.length_append, List.length_nil] at hlen'
      have hl' : l.length ≤ 400 := hl
      rw [qBF _ _ (by rw [qqH _ _ _ e]; omega) (by omega), bd, show ByteArray.mk #[123] = bl [123] from rfl, qUC (by simp only [List.length_cons, List.length_nil]; omega), bd, show ByteArray.mk #[125] = bl [125] from rfl, qUC (by simp only [List.length_append, List.length_cons, List.length_nil]; omega), bd]
      rfl
theorem qWK (n : Int) : qGE.f n = some (decide (-1000000000 ≤ n ∧ n ≤ 1000000000)) := by
 unfold qGE.f
 rw [qFD, Option.bind_some]
theorem qXK (j : Json) (h : Jw j) : qHE.f j = some (ownB j) := by
 obtain ⟨h1, h2, h3, h4, _⟩ := (Jw_eq j).1 h
 unfold qHE.f ownB
 rw [qtF _ h1, qUI _ h3 h2, qFD, qWK, qt, qt, qgN]
 have e1 : decide (0 < (j.List_.length : Int)) = decide (0 < j.List_.length) := decide_eq_decide.2 (by omega)
 have e2 : decide (0 < (j.Names.length : Int)) = decide (0 < j.Names.length) := decide_eq_decide.2 (by omega)
 have e3 : decide ((j.Names.length : Int) = j.List_.length) = decide (j.Names.length = j.List_.length) := decide_eq_decide.2 (by omega)
 rw [e1, e2, e3]
 simp only [qxG, qSQ]
 generalize decide (0 < j.List_.length) = b1
 generalize decide (0 < j.Names.length) = b2
 generalize decide (j.S ≠ ByteArray.mk #[]) = b3
 generalize decide (j.Names.length = j.List_.length) = b4
 generalize namesB j.Names = b5
 generalize txtB j.S = b6
 by_cases k1 : j.Kind = 1
 ·
  simp [k1]
  cases b1 <;> cases b2 <;> cases b3 <;> simp
 by_cases k2 : j.Kind = 2
 ·
  simp [k2]
  cases b1 <;> cases b2 <;> cases b3 <;> simp
 by_cases k3 : j.Kind = 3
 ·
  simp [k3]
  cases b1 <;> cases b2 <;> cases decide (j.N = 0) <;> simp
 by_cases k5 : j.Kind = 5
 ·
  simp [k5]
  cases b4 <;> cases b3 <;> cases decide (j.N = 0) <;> simp [gd]
 simp only [k1, k2, k3, k5, if_false, decide_false, cond_false, ne_eq, not_false_eq_true, decide_true, Bool.and_true, bo3]
 have e9 : (decide ¬j.Kind = 4) = !decide (j.Kind = 4) := by by_cases c : j.Kind = 4 <;> simp [c]
 have e7 : (decide ¬j.N = 0) = !decide (j.N = 0) := by by_cases c : j.N = 0 <;> simp [c]
 rw [e9, e7]
 generalize decide (j.N = 0) = b7'
 generalize decide (j.Kind = 0) = b8
 generalize decide (j.Kind = 4) = b9'
 cases b1 <;> cases b2 <;> cases b3 <;> cases b7' <;> cases b8 <;> cases b9' <;> simp
theorem qLJ (j : Json) (d : Int) (self : Json → Int → Option Int) (f : Json → Int) (hf : ∀ x, 1 ≤ f x ∧ f x ≤ 401) (hl : (j.List_.length : Int) ≤ 4611686018427387904) (hs : ∀ x ∈ j.List_, self x (w64 (d - 1)) = some (f x)) :
  ∀ (k i : Nat) (n : Int), i ≤ j.List_.length → j.List_.length < i + k → 1 ≤ n → n ≤ 401 → qp.l0 j d self k n i = some (capL f n (j.List_.drop i)) := by
 intro k
 induction k with
 | zero => intro i n h h'; omega
 | succ k ih =>
  intro i n h h' hn hn'
  rw [qp.l0, qt]
  by_cases hi : i < j.List_.length
  ·
   have := hf j.List_[i]
   rw [decide_eq_true (by omega), cond_true, qrB, List.getElem?_eq_getElem hi, Option.bind_some, hs _ (List.getElem_mem hi), Option.bind_some, qIB (by omega), List.drop_eq_getElem_cons hi, capL, qq (by omega)]
   by_cases c : 400 < n + f j.List_[i]
   · rw [decide_eq_true c, cond_true, if_pos c]
   rw [decide_eq_false c, cond_false, if_neg c]
   exact ih (i + 1) _ (by omega) (by omega) (by omega) (by omega)
  rw [decide_eq_false (by omega), cond_false, List.drop_eq_nil_of_le (by omega), capL]
theorem qYK : ∀ (k d : Nat) (j : Json), d < k → d ≤ 1000 → Jw j → qp.g k j d = some (sizeF d j) := by
 intro k
 induction k with
 | zero => intro d j h; omega
 | succ k ih =>
  intro d j h hd hj
  obtain ⟨h1, h2, h3, h4, h5⟩ := (Jw_eq j).1 hj
  rw [qp.g, qp.b, qXK j hj]
  cases d with
  | zero => rw [decide_eq_true (by omega), sizeF]; rfl
  | succ d =>
   rw [decide_eq_false (by omega), sizeF]
   cases ho : ownB j with
   | false => rfl
   | true =>
    rw [if_pos rfl]
    simp only [qSD, Bool.not_false, qHB, Option.bind_some, bo3_F, Bool.not_true, cond_false]
    exact qLJ j ((d + 1 : Nat) : Int) (qp.g k) (sizeF d) (qIC d) h4 (fun x hx => by
     rw [qIB (by omega), show ((d + 1 : Nat) : Int) - 1 = (d : Int) by omega]
     exact ih d x (by omega) (by omega) (h5 x hx)) (((lenI j.List_) - 0).toNat + 1) 0 1 (by omega) (by rw [qt]; omega) (by omega) (by omega)
theorem qBE (j : Json) (h : Jw j) : qTC.f j = some (jsonB j) := by
 unfold qTC.f qp.f
 have := qYK 20 6 j (by omega) (by omega) h
 rw [show (6 : Int) = ((6 : Nat) : Int) from rfl, this, Option.bind_some]
 rfl
def encL (j : Json) : List UInt8 := if jsonB j = true ∧ (encF 6 j).length ≤ 6000 then encF 6 j else []
theorem qgC (j : Json) (hw : Jw j) : qHC.f j = some (bl (encL j)) := by
 unfold qHC.f encL
 rw [qBE j hw, bd, qSD]
 cases h : jsonB j with
 | false => rfl
 | true =>
  have h' := h
  unfold jsonB at h'
  rw [Bool.not_true, cond_false, qg.f, qKJ 20 6 j (by omega) (of_decide_eq_true h'), bd, sl_bl]
  by_cases c : (encF 6 j).length ≤ 6000
  · rw [decide_eq_false (by omega), cond_false, if_pos ⟨rfl, c⟩]
  rw [decide_eq_true (by omega), cond_true, if_neg (by simp [c])]; rfl
theorem qhC (j : Json) (hw : Jw j) : qQC.f j = some (bl (encL j)) := by
 unfold qQC.f encL
 rw [quF j hw, bd, qSD]
 cases h : jsonB j with
 | false => rfl
 | true =>
  have h' := h
  unfold jsonB at h'
  rw [Bool.not_true, cond_false, qX.f, qYI 20 6 j (by omega) (of_decide_eq_true h'), bd, sl_bl]
  by_cases c : (encF 6 j).length ≤ 6000
  · rw [decide_eq_false (by omega), cond_false, if_pos ⟨rfl, c⟩]
  rw [decide_eq_true (by omega), cond_true, if_neg (by simp [c])]; rfl
theorem qXS (j : Json) : (encL j).length ≤ 6000 := by
 unfold encL
 split
 · rename_i h; exact h.2
 simp
theorem qZK (code : List Int) (hl : (code.length : Int) ≤ 1048576) : ∃ t, qBC.f code = some (bl t) := by
 unfold qBC.f
 obtain ⟨h0, e0, k0⟩ := qSK code hl
 rw [qv e0]
 obtain ⟨i1, h1, j, e1, k1, hj, _⟩ := qGJ code 0 h0 k0
 rw [qv e1]
 dsimp only
 rw [qv (qhC j hj)]
 have ht := qXS j
 generalize encL j = t at ht
 obtain ⟨i3, h3, x3, e3, k3, l3, u3, _⟩ := qlB h1 (w64 ((Ls.sl (bl t)) + 1)) k1
 rw [sl_bl, qIB (by omega)] at u3
 have hx3 := u3 (by omega)
 rw [qv e3]
 dsimp only
 obtain ⟨i4, h4, x4, e4, k4, l4, u4, _⟩ := qlB h3 5 k3
 rw [qv e4]
 dsimp only
 have hn : x3 = ((x3.toNat : Nat) : Int) := by omega
 have hc : cutS (bl t) 0 x3 = some () := by rw [hn]; exact qTD (lo := 0) (by omega) (by omega)
 have hc2 : cutS (bl t) x3 (Ls.sl (bl t)) = some () := by rw [sl_bl, hn]; exact qTD (by omega) (by omega)
 have hs : Ls.ss (bl t) 0 x3 = bl (t.take x3.toNat) := by
  rw [hn]
  exact ss_bl t 0 x3.toNat
 have hs2 : Ls.ss (bl t) x3 (Ls.sl (bl t)) = bl (t.drop x3.toNat) := by
  rw [sl_bl, hn, ss_bl, List.take_length, Int.toNat_natCast]
 rw [hc, hc2, hs, hs2]
 by_cases c0 : x4 = 0
 ·
  rw [decide_eq_true c0, cond_true, bd]
  exact ⟨_, rfl⟩
 rw [decide_eq_false c0, cond_false]
 by_cases c1 : x4 = 1
 ·
  rw [decide_eq_true c1, cond_true, bd, bd]
  obtain ⟨i5, h5, x5, e5, k5, m5⟩ := qyE (l := [(ByteArray.mk #[32]), (ByteArray.mk #[44]), (ByteArray.mk #[48]), (ByteArray.mk #[34]), (ByteArray.mk #[91]), (ByteArray.mk #[93]), (ByteArray.mk #[123]), (ByteArray.mk #[125]), (ByteArray.mk #[45]), (ByteArray.mk #[120]), (ByteArray.mk #[92]), (ByteArray.mk #[110, 117, 108, 108]), (ByteArray.mk #[58])]) h4 (by simp) k4
  have hx5 : x5.size ≤ 12 := by
   clear e5
   simp only [List.mem_cons, List.not_mem_nil, or_false] at m5
   rcases m5 with rfl | rfl | rfl | rfl | rfl | rfl | rfl | rfl | rfl | rfl | rfl | rfl | rfl <;> decide
  obtain ⟨y, rfl⟩ := bl_ex x5
  rw [qEC] at hx5
  rw [qv e5]
  dsimp only
  rw [qUC (by rw [List.length_take]; omega), bd, bd, qUC (by rw [List.length_append, List.length_take, List.length_drop]; omega), bd]
  exact ⟨_, rfl⟩
 rw [decide_eq_false c1, cond_false]
 exact ⟨_, rfl⟩
def pk (s : List UInt8) (i : Nat) : Int := match s[i]? with
 | some c => (c.toNat : Int)
 | none => 0
theorem pk_in {s : List UInt8} {i : Nat} (h : pk s i ≠ 0) : i < s.length := by
 unfold pk at h
 split at h
 · rename_i c hc; exact at_lt hc
 exact absurd rfl h
theorem qW (s : List UInt8) (i : Nat) (ok : Bool) (left : Int) : qVB.f ⟨bl s, (i : Int), ok, left⟩ = some (pk s i) := by
 unfold qVB.f pk
 dsimp only
 rw [sl_bl]
 by_cases h : i < s.length
 ·
  have hx := List.getElem?_eq_getElem h
  rw [decide_eq_false (by omega), cond_false, qwD h, bd, sx_bl hx, hx]
 rw [decide_eq_true (by omega), cond_true, List.getElem?_eq_none (by omega)]
theorem qdG (w s : List UInt8) : w.isPrefixOf s = decide (w.length ≤ s.length ∧ s.take w.length = w) := by
 rw [Bool.eq_iff_iff, List.isPrefixOf_iff_prefix, decide_eq_true_eq, List.prefix_iff_eq_take]
 constructor
 ·
  intro h
  refine ⟨?_, h.symm⟩
  have := congrArg List.length h
  rw [List.length_take] at this
  omega
 rintro ⟨_, h⟩; exact h.symm
theorem qjN (w s : List UInt8) : w.isPrefixOf (w ++ s) = true := by simp
theorem qJT {a c : UInt8} {w s : List UInt8} (h : a ≠ c) : (a :: w).isPrefixOf (c :: s) = false := by simp [List.isPrefixOf, h]
theorem qgQ {a : UInt8} {w : List UInt8} : (a :: w).isPrefixOf [] = false := rfl
theorem qpC (s w : List UInt8) : qo.f (bl s) (bl w) = some (w.isPrefixOf s) := by
 unfold qo.f
 rw [sl_bl, sl_bl, qdG]
 by_cases h : w.length ≤ s.length
 ·
  have e : (0 : Int) = ((0 : Nat) : Int) := rfl
  rw [decide_eq_true (by omega), qHB, e, qTD (Nat.zero_le _) h, bd, ss_bl, List.drop_zero, quJ]
  congr 1
  by_cases h2 : s.take w.length = w
  · rw [decide_eq_true h2, decide_eq_true ⟨h, h2⟩]; rfl
  rw [decide_eq_false h2, decide_eq_false (fun q => h2 q.2)]; rfl
 rw [decide_eq_false (by omega), decide_eq_false (fun q => h q.1), qRK, bd]; rfl
theorem qzL (s : List UInt8) (hs : s.length ≤ 10000000) (i : Nat) (hi : i ≤ s.length) (ok : Bool) (left : Int) (w : List UInt8) (hw : w.length ≤ 100) : qm.f ⟨bl s, (i : Int), ok, left⟩ (bl w) = some (if w.isPrefixOf (s.drop i) = true then ⟨bl s, ((i + w.length : Nat) : Int), ok, left⟩ else ⟨bl s, (i : Int), false, left⟩) := by
 unfold qm.f
 dsimp only
 rw [sl_bl, sl_bl, qIB (x := (s.length : Int) - i) (by omega), qIB (x := (i : Int) + w.length) (by omega), show (i : Int) + w.length = ((i + w.length : Nat) : Int) by omega, qdG, List.length_drop]
 by_cases h : w.length ≤ s.length - i
 ·
  rw [decide_eq_false (by omega), show bo3 false false true = true from rfl, qHB, qTD (by omega) (by omega), bd, ss_bl, qTI]
  have e : (s.take (i + w.length)).drop i = (s.drop i).take w.length := by
   rw [List.drop_take, show i + w.length - i = w.length by omega]
  rw [e]
  by_cases h2 : (s.drop i).take w.length = w
  · rw [decide_eq_true h2, decide_eq_true ⟨h, h2⟩]; rfl
  rw [decide_eq_false h2, decide_eq_false (fun q => h2 q.2)]; rfl
 rw [decide_eq_true (by omega), decide_eq_false (p := w.length ≤ s.length - i ∧ _) (fun q => h q.1), show bo3 true false true = false from rfl, qRK, bd]
 rfl
theorem qJE (s : List UInt8) (hs : s.length ≤ 10000000) (i : Nat) (hi : i ≤ s.length) (ok : Bool) (left : Int) (w : List UInt8) (hw : w.length ≤ 100) : ∃ (i' : Nat) (ok' : Bool), qm.f ⟨bl s, (i : Int), ok, left⟩ (bl w) = some ⟨bl s, (i' : Int), ok', left⟩ ∧ i ≤ i' ∧ i' ≤ s.length ∧ (ok = false → ok' = false) := by
 rw [qzL s hs i hi ok left w hw]
 split
 ·
  rename_i h
  rw [qdG, decide_eq_true_eq, List.length_drop] at h
  exact ⟨i + w.length, ok, rfl, by omega, by omega, fun h => h⟩
 exact ⟨i, false, rfl, Nat.le_refl _, hi, fun _ => rfl⟩
theorem qiC {s w rest : List UInt8} {i : Nat} (h : s.drop i = w ++ rest) : s.drop (i + w.length) = rest := by
 rw [← List.drop_drop, h, List.drop_left]
theorem qaK {s : List UInt8} {i : Nat} {c : UInt8} {r : List UInt8} (h : s.drop i = c :: r) : i < s.length := by
 have := congrArg List.length h
 rw [List.length_drop, List.length_cons] at this
 omega
theorem qqC {s : List UInt8} (hs : s.length ≤ 10000000) {i : Nat} {w rest : List UInt8} (h : s.drop i = w ++ rest) (hw : w.length ≤ 100) (hw0 : 0 < w.length) (left : Int) (ok : Bool) : qm.f ⟨bl s, (i : Int), ok, left⟩ (bl w) = some ⟨bl s, ((i + w.length : Nat) : Int), ok, left⟩ := by
 have hi : i ≤ s.length := by
  have := congrArg List.length h
  rw [List.length_drop, List.length_append] at this
  omega
 rw [qzL s hs i hi ok left w hw, h, if_pos (qjN w rest)]
theorem qVC {s : List UInt8} {i : Nat} {c : UInt8} {r : List UInt8} (h : s.drop i = c :: r) : pk s i = (c.toNat : Int) ∧ s[i]? = some c := by
 have e : s[i]? = some c := by
  have := congrArg (fun l => l[0]?) h
  simpa [List.getElem?_drop] using this
 exact ⟨by unfold pk; rw [e], e⟩
theorem qSU (s : List UInt8) (hs : s.length ≤ 1000000) (at0 left : Int) (ok : Bool) (K : Int → Bool → (List Int) → Option (l2Cur × ByteArray)) : ∀ (k i : Nat) (acc : List UInt8), i ≤ s.length → s.length < i + k → acc.length ≤ i → ∃ (i' : Nat) (ok' : Bool) (acc' : List UInt8), qc.l0 ⟨bl s, at0, ok, left⟩ K k (i : Int) (chs acc) = K (i' : Int) ok' (chs acc') ∧ i ≤ i' ∧ i' ≤ s.length ∧ acc'.length ≤ i' ∧ (ok = false → ok' = false) := by
 intro k
 induction k with
 | zero => intro i acc h1 h2; omega
 | succ k ih =>
  intro i acc h1 h2 h3
  rw [qc.l0]
  dsimp only
  cases ok with
  | false => exact ⟨i, false, acc, rfl, Nat.le_refl _, h1, h3, fun _ => rfl⟩
  | true =>
   rw [qHB, qW, bd, show ∀ y, bo3 true y false = y from fun _ => rfl]
   by_cases hq : pk s i = 34
   ·
    rw [decide_eq_false (p := pk s i ≠ 34) (by simp [hq]), cond_false]
    exact ⟨i, true, acc, rfl, Nat.le_refl _, h1, h3, fun h => by cases h⟩
   rw [decide_eq_true (p := pk s i ≠ 34) hq, cond_true, qP, bd]
   have go : ∀ y : Nat, i ≤ y → y ≤ s.length → y ≤ i + 1 → ∃ (i' : Nat) (ok' : Bool) (acc' : List UInt8), (bif (decide ((Ls.sl (bl s)) ≤ (y : Int))) then (K (y : Int) false (chs acc)) else ((inS (bl s) (y : Int)).bind fun u25 => (some [(Ls.sx (bl s) (y : Int))]).bind fun l26 => (appO 1 (chs acc) l26).bind fun l27 => qc.l0 ⟨bl s, at0, true, left⟩ K k (w64 ((y : Int) + 1)) l27)) = K (i' : Int) ok' (chs acc') ∧ i ≤ i' ∧ i' ≤ s.length ∧ acc'.length ≤ i' ∧ (true = false → ok' = false) := by
    intro y hy1 hy2 hy3
    rw [sl_bl]
    by_cases hlt : y < s.length
    ·
     have hx := List.getElem?_eq_getElem hlt
     rw [decide_eq_false (by omega), cond_false, qwD hlt, bd, sx_bl hx, bd, qzD (by omega), bd, qq (by omega)]
     obtain ⟨i', ok', acc', e, a1, a2, a3, a4⟩ := ih (y + 1) (acc ++ [s[y]]) (by omega) (by omega) (by rw [List.length_append, List.length_singleton]; omega)
     exact ⟨i', ok', acc', e, by omega, a2, a3, a4⟩
    rw [decide_eq_true (by omega), cond_true]
    exact ⟨y, false, acc, rfl, hy1, hy2, by omega, fun _ => rfl⟩
   by_cases h92 : pk s i = 92
   ·
    have hin := pk_in (s := s) (i := i) (by omega)
    rw [decide_eq_true h92, cond_true, qq (by omega)]
    exact go (i + 1) (by omega) (by omega) (by omega)
   rw [decide_eq_false h92, cond_false]
   exact go i (Nat.le_refl _) h1 (by omega)
theorem qaI (s : List UInt8) (hs : s.length ≤ 1000000) (i : Nat) (hi : i ≤ s.length) (ok : Bool) (left : Int) : ∃ (i' : Nat) (ok' : Bool) (q : List UInt8), qc.f ⟨bl s, (i : Int), ok, left⟩ = some (⟨bl s, (i' : Int), ok', left⟩, bl q) ∧ i ≤ i' ∧ i' ≤ s.length ∧ q.length ≤ s.length := by
 unfold qc.f
 obtain ⟨i1, ok1, e1, a1, a2, _⟩ := qJE s (by omega) i hi ok left [34] (by simp)
 rw [show ByteArray.mk #[34] = bl [34] from rfl, e1, bd, qP]
 dsimp only
 obtain ⟨i2, ok2, acc, e2, b1, b2, b3, _⟩ := qSU s hs (i1 : Int) left ok1 (fun (y2 : Int) (y3 : Bool) (y4 : List Int) =>
  (qm.f (l2Cur.mk (bl s) y2 y3 left) (bl [34])).bind fun r28 =>
  (some (bsO y4)).bind fun s29 =>
  some (r28, s29)) ((bl s).size + 2) i1 [] a2 (by rw [qEC]; omega) (by simp)
 obtain ⟨i3, ok3, e3, c1, c2, _⟩ := qJE s (by omega) i2 b2 ok2 left [34] (by simp)
 refine ⟨i3, ok3, acc, e2.trans ?_, by omega, c2, by omega⟩
 rw [e3, bd, bd, qzG]
theorem qYS (s : List UInt8) (hs : s.length ≤ 1000000) (at0 left : Int) (K : Int → Bool → (List Int) → Option (l2Cur × ByteArray)) (rest : List UInt8) : ∀ (q : List UInt8) (k i : Nat) (acc : List UInt8), s.drop i = q.flatMap escC ++ 34 :: rest → q.length < k → acc.length ≤ i → qc.l0 ⟨bl s, at0, true, left⟩ K k (i : Int) (chs acc) = K ((i + (q.flatMap escC).length : Nat) : Int) true (chs (acc ++ q)) := by
 intro q
 induction q with
 | nil =>
  intro k i acc hd hk ha
  cases k with
  | zero => simp at hk
  | succ k =>
   obtain ⟨hp, _⟩ := qVC (c := 34) (r := rest) hd
   rw [qc.l0]
   dsimp only
   rw [qHB, qW, bd, hp, show bo3 true (decide (((34 : UInt8).toNat : Int) ≠ 34)) false = false from rfl, cond_false, List.append_nil]
   rfl
 | cons c q ih =>
  intro k i acc hd hk ha
  cases k with
  | zero => simp at hk
  | succ k =>
   simp only [List.length_cons] at hk
   rw [List.flatMap_cons] at hd ⊢
   have go : ∀ y : Nat, s.drop y = c :: (q.flatMap escC ++ 34 :: rest) → i ≤ y → (bif (decide ((Ls.sl (bl s)) ≤ (y : Int))) then (K (y : Int) false (chs acc)) else ((inS (bl s) (y : Int)).bind fun u25 => (some [(Ls.sx (bl s) (y : Int))]).bind fun l26 => (appO 1 (chs acc) l26).bind fun l27 => qc.l0 ⟨bl s, at0, true, left⟩ K k (w64 ((y : Int) + 1)) l27)) = K ((y + 1 + (q.flatMap escC).length : Nat) : Int) true (chs (acc ++ c :: q)) := by
    intro y hy hiy
    have hlt := qaK hy
    obtain ⟨_, hx⟩ := qVC hy
    have hd2 : s.drop (y + 1) = q.flatMap escC ++ 34 :: rest := by rw [← List.drop_drop, hy]; rfl
    rw [sl_bl, decide_eq_false (by omega), cond_false, qwD hlt, bd, sx_bl hx, bd, qzD (by omega), bd, qq (by omega), ih k (y + 1) (acc ++ [c]) hd2 (by omega) (by rw [List.length_append, List.length_singleton]; omega), List.append_assoc]
    rfl
   rw [qc.l0]
   dsimp only
   by_cases hc : c = 34 ∨ c = 92
   ·
    have e : escC c = [92, c] := if_pos hc
    rw [e] at hd ⊢
    have hd1 : s.drop i = 92 :: (c :: (q.flatMap escC ++ 34 :: rest)) := by rw [hd]; simp
    obtain ⟨hp, _⟩ := qVC hd1
    have hlt := qaK hd1
    rw [qHB, qW, bd, hp, show bo3 true (decide (((92 : UInt8).toNat : Int) ≠ 34)) false = true from rfl, cond_true, qP, bd, show decide (((92 : UInt8).toNat : Int) = 92) = true from rfl, cond_true, qq (by omega)]
    refine (go (i + 1) (by rw [← List.drop_drop, hd1]; rfl) (by omega)).trans ?_
    congr 2
    simp only [List.length_append, List.length_cons, List.length_nil]; omega
   have e : escC c = [c] := if_neg hc
   rw [e] at hd ⊢
   have hd1 : s.drop i = c :: (q.flatMap escC ++ 34 :: rest) := by rw [hd]; simp
   obtain ⟨hp, _⟩ := qVC hd1
   have n34 : (c.toNat : Int) ≠ 34 := fun h => hc (.inl (UInt8.toNat_inj.1 (by have e : (34 : UInt8).toNat = 34 := rfl; omega)))
   have n92 : ¬ (c.toNat : Int) = 92 := fun h => hc (.inr (UInt8.toNat_inj.1 (by have e : (92 : UInt8).toNat = 92 := rfl; omega)))
   rw [qHB, qW, bd, hp, decide_eq_true n34, show bo3 true true false = true from rfl, cond_true, qP, bd, decide_eq_false n92, cond_false]
   refine (go i hd1 (Nat.le_refl _)).trans ?_
   congr 2
   simp only [List.length_append, List.length_cons, List.length_nil]; omega
theorem qwF {s : List UInt8} (hs : s.length ≤ 1000000) {i : Nat} (q rest : List UInt8) (h : s.drop i = quoteL q ++ rest) (left : Int) : qc.f ⟨bl s, (i : Int), true, left⟩ = some (⟨bl s, ((i + (quoteL q).length : Nat) : Int), true, left⟩, bl q) := by
  unfold qc.f
  have h0 : s.drop i = [34] ++ (q.flatMap escC ++ 34 :: rest) := by rw [h]; simp [quoteL]
  have h1 : s.drop (i + 1) = q.flatMap escC ++ 34 :: rest := qiC h0
  rw [show ByteArray.mk #[34] = bl [34] from rfl, qqC (by omega) h0 (by simp) (by simp), bd, qP]
  dsimp only
  have hl : q.length ≤ (q.flatMap escC).length := by
    clear h h0 h1
    induction q with
    | nil => exact Nat.le_refl _
    | cons c q ih => rw [List.flatMap_cons, List.length_append, List.length_cons]; have : 1 ≤ (escC c).length := by unfold escC; split <;> simp
                     omega
  have hle : q.length < (bl s).size + 2 := by
    rw [qEC]
    have := congrArg List.length h1
    rw [List.length_drop, List.length_append] at this
    omega
  refine (qYS s hs _ left _ rest q ((bl s).size + 2) (i + 1) [] h1 hle (by simp)).trans ?_
  have h2 : s.drop (i + 1 + (q.flatMap escC).length) = [34] ++ rest := qiC h1
  rw [qqC (by omega) h2 (by simp) (by simp), bd, bd, qzG, List.nil_append]
  congr 4
  unfold quoteL
  simp only [List.length_append, List.length_cons, List.length_nil]; omega
theorem qAM (d : UInt8) : ∀ (l : List UInt8) (acc : Nat), Lib.parseUint10 acc (l ++ [d]) = match Lib.parseUint10 acc l with
  | .ok v => Lib.parseUint10 v [d]
  | e => e
 | [], acc => rfl
 | c :: r, acc => by
  rw [List.cons_append]
  simp only [Lib.parseUint10]
  split
  ·
   split
   · rfl
   split
   · rfl
   rw [qAM d r]; simp only [Lib.parseUint10]
  rfl
theorem qBM : ∀ (u : Nat), u < 10000000000000000000 → Lib.parseUint10 0 (Lib.decDigits u) = .ok u := by
 intro u
 induction u using Nat.strongRecOn with
 | ind u ih =>
  intro hu
  rw [Lib.decDigits]
  split
  ·
   rename_i h
   have : (UInt8.ofNat (48 + u)).toNat = 48 + u := by simp; omega
   simp only [Lib.parseUint10, this]
   rw [if_pos (by omega), if_neg (by omega), if_neg (by omega)]
   congr 1; omega
  rename_i h
  have h1 := ih (u / 10) (by omega) (by omega)
  have : (UInt8.ofNat (48 + u % 10)).toNat = 48 + u % 10 := by simp; omega
  rw [qAM, h1]
  simp only [Lib.parseUint10, this]
  rw [if_pos (by omega), if_neg (by omega), if_neg (by omega)]
  congr 1; omega
theorem qZD (u : Nat) : ∃ c r, Lib.decDigits u = c :: r ∧ 48 ≤ c.toNat ∧ c.toNat ≤ 57 := by
 induction u using Nat.strongRecOn with
 | ind u ih =>
  rw [Lib.decDigits]
  split
  ·
   rename_i h
   have : (UInt8.ofNat (48 + u)).toNat = 48 + u := by simp; omega
   exact ⟨_, [], rfl, by omega, by omega⟩
  rename_i h
  obtain ⟨c, r, e, h1, h2⟩ := ih (u / 10) (by omega)
  exact ⟨c, _, by rw [e]; rfl, h1, h2⟩
theorem qhQ {n : Int} (h : -9223372036854775808 ≤ n ∧ n ≤ 9223372036854775807) : Lib.atoiAll (Lib.itoa n) = .ok n := by
 unfold Lib.itoa
 split
 ·
  rename_i hn
  obtain ⟨c, r, e, h1, h2⟩ := qZD n.natAbs
  have hp := qBM n.natAbs (by omega)
  have hm : Lib.parseMag (Lib.decDigits n.natAbs) = .ok n.natAbs := by
   unfold Lib.parseMag
   rw [if_neg (by rw [e]; simp), hp]
  rw [Lib.atoiAll_minus, hm]
  simp only [Lib.signed]
  rw [if_neg (by omega)]
  congr 1; omega
 rename_i hn
 obtain ⟨c, r, e, h1, h2⟩ := qZD n.toNat
 have hp := qBM n.toNat (by omega)
 have hm : Lib.parseMag (Lib.decDigits n.toNat) = .ok n.toNat := by
  unfold Lib.parseMag
  rw [if_neg (by rw [e]; simp), hp]
 rw [e, Lib.atoiAll_plain c r (by omega) (by omega), ← e, hm]
 simp only [Lib.signless]
 rw [if_neg (by omega)]
 congr 1; omega
def numOf (w : List UInt8) : Int × Bool := match Lib.atoiAll w with
 | .ok v => (v, true)
 | .range => (Lib.atoiSat w, false)
 | _ => (0, false)
theorem qbK {w : List UInt8} (h : w.length ≤ 281474976710656) : atoiO (bl w) = some (numOf w) := by
 unfold atoiO numOf
 rw [qEC, if_pos h]
 have : (bl w).data.toList = w := by simp [bl]
 rw [this]
 cases Lib.atoiAll w <;> rfl
theorem qNP {n : Int} (h : -9223372036854775808 ≤ n ∧ n ≤ 9223372036854775807) : numOf (Lib.itoa n) = (n, true) := by
 unfold numOf
 rw [qhQ h]
def In64i (x : Int) : Prop := -9223372036854775808 ≤ x ∧ x ≤ 9223372036854775807
theorem qKT (x : Int) : In64i (w64 x) := by
 unfold In64i w64
 rw [IntKind.wrap_i64]
 omega
def dval (x : Int) : List UInt8 → Int
 | [] => x
 | c :: r => dval (10 * x + (c.toNat : Int) - 48) r
theorem qgO (x : Int) : ∀ (l : List UInt8) (d : UInt8), dval x (l ++ [d]) = 10 * dval x l + (d.toNat : Int) - 48
 | [], d => rfl
 | c :: r, d => by rw [List.cons_append, dval, dval, qgO _ r d]
theorem qhO : ∀ u : Nat, dval 0 (Lib.decDigits u) = (u : Int) := by
 intro u
 induction u using Nat.strongRecOn with
 | ind u ih =>
  rw [Lib.decDigits]
  split
  ·
   rename_i h
   have : (UInt8.ofNat (48 + u)).toNat = 48 + u := by simp; omega
   simp only [dval, this]; omega
  rename_i h
  have : (UInt8.ofNat (48 + u % 10)).toNat = 48 + u % 10 := by simp; omega
  rw [qgO, ih (u / 10) (by omega), this]; omega
theorem qwT (s : List UInt8) (hs : s.length ≤ 1048576) (a0 : l2Cur) (ha : a0.s = bl s) (fr : Nat) (hfr : fr ≤ 1048577) (K : Int → Int → Option (l2Cur × Int)) : ∀ (k p : Nat) (x : Int), fr ≤ p → p ≤ fr + 11 → fr + 12 ≤ p + k → In64i x → ∃ (p' : Nat) (x' : Int), qk.l0 a0 (fr : Int) K k (p : Int) x = K (p' : Int) x' ∧ p ≤ p' ∧ (p ≤ s.length → p' ≤ s.length) ∧ In64i x' ∧ (pk s p < 48 ∨ 57 < pk s p → p' = p) := by
 intro k
 induction k with
 | zero => intro p x h1 h2 h3; omega
 | succ k ih =>
  intro p x h1 h2 h3 hx
  rw [qk.l0, ha, qW, bd, gd_of, bd]
  by_cases c1 : 48 ≤ pk s p
  ·
   rw [decide_eq_true c1, cond_true, show ∀ y, bo3 true y false = y from fun _ => rfl]
   by_cases c2 : pk s p ≤ 57
   ·
    rw [decide_eq_true c2, show ∀ y, bo3 true y false = y from fun _ => rfl, qIB (x := (p : Int) - fr) (by omega)]
    by_cases c3 : (p : Int) - fr < 11
    ·
     have hin := pk_in (s := s) (i := p) (by omega)
     rw [decide_eq_true c3, cond_true, bd, qq (by omega)]
     obtain ⟨p', x', e, l1, l2, l3, _⟩ := ih (p + 1) (w64 (w64 (w64 (10 * x) + w64 (pk s p)) - 48)) (by omega) (by omega) (by omega) (qKT _)
     exact ⟨p', x', e, by omega, fun _ => l2 (by omega), l3, fun h => by omega⟩
    rw [decide_eq_false c3, cond_false]
    exact ⟨p, x, rfl, Nat.le_refl _, fun h => h, hx, fun _ => rfl⟩
   rw [decide_eq_false c2, show ∀ y, bo3 false y false = false from fun _ => rfl, cond_false]
   exact ⟨p, x, rfl, Nat.le_refl _, fun h => h, hx, fun _ => rfl⟩
  rw [decide_eq_false c1, cond_false]
  exact ⟨p, x, rfl, Nat.le_refl _, fun h => h, hx, fun _ => rfl⟩
theorem qAH (s : List UInt8) (hs : s.length ≤ 1048576) (i : Nat) (hi : i ≤ s.length) (ok : Bool) (left : Int) : ∃ (i' : Nat) (ok' : Bool) (x : Int), qk.f ⟨bl s, (i : Int), ok, left⟩ = some (⟨bl s, (i' : Int), ok', left⟩, x) ∧ i ≤ i' ∧ i' ≤ s.length ∧ In64i x ∧ (ok = false → ok' = false) ∧ (ok' = true → i < i') := by
 unfold qk.f
 rw [qW, bd, qP]
 have hz : In64i 0 := by unfold In64i; omega
 have key : ∀ (fr : Nat) (b : Bool), i ≤ fr → fr ≤ s.length → ∃ (i' : Nat) (ok' : Bool) (x : Int), joinK (fun (y6 : Int) (y7 : Int) =>
   joinK (fun (y36 : Bool) =>
   bif b then (
   some ((l2Cur.mk (bl s) y6 y36 left), (w64 (0 - y7))))
   else (
   some ((l2Cur.mk (bl s) y6 y36 left), y7))) (fun K37 =>
   bif (decide (y6 = (fr : Int))) then (
   K37 false)
   else (
   K37 ok))) (fun K8 =>
   qk.l0 ⟨bl s, (i : Int), ok, left⟩ (fr : Int) K8 20 (fr : Int) 0) = some (⟨bl s, (i' : Int), ok', left⟩, x) ∧ i ≤ i' ∧ i' ≤ s.length ∧ In64i x ∧ (ok = false → ok' = false) ∧ (ok' = true → i < i') := by
  intro fr b h1 h2
  rw [qP]
  obtain ⟨p', x', e, l1, l2, l3, _⟩ := qwT s hs ⟨bl s, (i : Int), ok, left⟩ rfl fr (by omega) (fun (y6 : Int) (y7 : Int) =>
   joinK (fun (y36 : Bool) =>
   bif b then (
   some ((l2Cur.mk (bl s) y6 y36 left), (w64 (0 - y7))))
   else (
   some ((l2Cur.mk (bl s) y6 y36 left), y7))) (fun K37 =>
   bif (decide (y6 = (fr : Int))) then (
   K37 false)
   else (
   K37 ok))) 20 fr 0 (Nat.le_refl _) (by omega) (by omega) hz
  refine ⟨p', (bif decide ((p' : Int) = fr) then false else ok), (bif b then w64 (0 - x') else x'), e.trans ?_, by omega, l2 h2, ?_, ?_, ?_⟩
  ·
   rw [qP]
   cases decide ((p' : Int) = fr) <;> cases b <;> rfl
  ·
   cases b with
   | true => exact qKT _
   | false => exact l3
  · intro h; cases decide ((p' : Int) = fr) <;> simp [h]
  ·
   intro h
   by_cases c : (p' : Int) = fr
   · rw [decide_eq_true c] at h; cases h
   omega
 by_cases c : pk s i = 45
 ·
  have hin := pk_in (s := s) (i := i) (by omega)
  rw [decide_eq_true c, cond_true, qq (by omega)]
  exact key (i + 1) true (by omega) (by omega)
 rw [decide_eq_false c, cond_false]
 exact key i false (Nat.le_refl _) hi
theorem qCM (s : List UInt8) (hs : s.length ≤ 1048576) (a0 : l2Cur) (ha : a0.s = bl s) (fr : Nat) (K : Int → Int → Option (l2Cur × Int)) : ∀ (ds : List UInt8) (k p : Nat) (x : Int) (rest : List UInt8), (∀ c ∈ ds, 48 ≤ c.toNat ∧ c.toNat ≤ 57) → s.drop p = ds ++ rest → (∀ c ∈ rest.head?, c.toNat < 48 ∨ 57 < c.toNat) → fr ≤ p → p + ds.length ≤ fr + 10 → ds.length < k → 0 ≤ x → x < 10 ^ (p - fr) → qk.l0 a0 (fr : Int) K k (p : Int) x = K ((p + ds.length : Nat) : Int) (dval x ds) := by
 intro ds
 induction ds with
 | nil =>
  intro k p x rest _ hd hr h1 h2 h3 h4 h5
  cases k with
  | zero => simp at h3
  | succ k =>
   rw [qk.l0, ha, qW, bd, gd_of, bd]
   have hp : pk s p < 48 ∨ 57 < pk s p := by
    unfold pk
    have e : s[p]? = rest.head? := by
     have := congrArg (fun l => l[0]?) hd
     simpa [List.getElem?_drop, List.head?_eq_getElem?] using this
    rw [e]
    cases hh : rest.head? with
    | none => exact .inl (by show (0 : Int) < 48; omega)
    | some c => have := hr c (by rw [hh]; rfl); show (c.toNat : Int) < 48 ∨ 57 < (c.toNat : Int); omega
   have : bo3 (bo3 (decide (48 ≤ pk s p)) (decide ((bif decide (48 ≤ pk s p) then pk s p else default) ≤ 57)) false) (decide (w64 ((p : Int) - fr) < 11)) false = false := by
    by_cases c1 : 48 ≤ pk s p
    · rw [decide_eq_true c1, cond_true, decide_eq_false (by omega)]; rfl
    rw [decide_eq_false c1]; rfl
   rw [this, cond_false]
   rfl
 | cons c ds ih =>
  intro k p x rest hc hd hr h1 h2 h3 h4 h5
  cases k with
  | zero => simp at h3
  | succ k =>
   simp only [List.length_cons] at h2 h3
   have hx : s[p]? = some c := by
    have := congrArg (fun l => l[0]?) hd
    simpa [List.getElem?_drop] using this
   have hin := at_lt hx
   have hcc := hc c (by simp)
   have hp : pk s p = (c.toNat : Int) := by unfold pk; rw [hx]
   have h6 : (10 : Int) ^ (p - fr) ≤ 10 ^ 10 := by
    have : (10 : Nat) ^ (p - fr) ≤ 10 ^ 10 := Nat.pow_le_pow_right (by decide) (by omega)
    exact_mod_cast this
   rw [qk.l0, ha, qW, bd, gd_of, bd, hp, decide_eq_true (by omega), cond_true, decide_eq_true (by omega), qIB (x := (p : Int) - fr) (by omega), decide_eq_true (by omega), show bo3 (bo3 true true false) true false = true from rfl, cond_true, bd, qq (by omega), qIB (x := 10 * x) (by omega), qIB (x := (c.toNat : Int)) (by omega), qIB (x := 10 * x + (c.toNat : Int)) (by omega), qIB (by omega)]
   rw [ih k (p + 1) _ rest (fun c hc' => hc c (by simp [hc'])) ?_ hr (by omega) (by omega) (by omega) (by omega) ?_]
   · rw [dval, show p + 1 + ds.length = p + (c :: ds).length by simp only [List.length_cons]; omega]
   · rw [← List.drop_drop, hd]; rfl
   rw [show p + 1 - fr = (p - fr) + 1 by omega, Int.pow_succ]; omega
theorem qeG (s : List UInt8) (hs : s.length ≤ 1048576) {n : Int} (hn : -1000000000 ≤ n ∧ n ≤ 1000000000) (i : Nat) (ok : Bool) (left : Int) (rest : List UInt8) (hd : s.drop i = Lib.itoa n ++ rest) (hr : ∀ c ∈ rest.head?, c.toNat < 48 ∨ 57 < c.toNat) : qk.f ⟨bl s, (i : Int), ok, left⟩ = some (⟨bl s, ((i + (Lib.itoa n).length : Nat) : Int), ok, left⟩, n) := by
 unfold qk.f
 rw [qW, bd, qP]
 have hlen : i + (Lib.itoa n).length ≤ s.length := by
  have := congrArg List.length hd
  simp only [List.length_drop, List.length_append] at this
  obtain ⟨c, r, e, _⟩ := qZD n.natAbs
  have : 0 < (Lib.itoa n).length := by
   unfold Lib.itoa
   split
   · simp
   rw [show n.toNat = n.natAbs by omega, e]; simp
  omega
 have dl : ∀ u : Nat, u ≤ 1000000000 → (Lib.decDigits u).length ≤ 10 := by
  intro u hu
  have := qXE 10 u (by omega)
  unfold digs at this
  split at this
  · rename_i h0; rw [h0, Lib.decDigits, dif_pos (by decide)]; simp
  exact this
 by_cases hneg : n < 0
 ·
  have e : Lib.itoa n = 45 :: Lib.decDigits n.natAbs := if_pos hneg
  rw [e] at hd hlen ⊢
  have hx : s[i]? = some 45 := by
   have := congrArg (fun l => l[0]?) hd
   simpa [List.getElem?_drop] using this
  have hp : pk s i = 45 := by unfold pk; rw [hx]; rfl
  have hin := at_lt hx
  obtain ⟨c, r, ed, _⟩ := qZD n.natAbs
  rw [hp, decide_eq_true rfl, cond_true, qq (by omega)]
  dsimp only
  rw [qP]
  have hd' : s.drop (i + 1) = Lib.decDigits n.natAbs ++ rest := by rw [← List.drop_drop, hd]; rfl
  refine (qCM s hs _ rfl (i + 1) _ (Lib.decDigits n.natAbs) 20 (i + 1) 0 rest (qyG _) hd' hr (Nat.le_refl _) (by have := dl n.natAbs (by omega); omega) (by have := dl n.natAbs (by omega); omega) (by omega) (by rw [Nat.sub_self]; decide)).trans ?_
  rw [qP, decide_eq_false (by rw [ed]; simp only [List.length_cons]; omega), cond_false]
  dsimp only
  rw [cond_true, qhO, qIB (by omega)]
  congr 3
  · simp only [List.length_cons]; omega
  omega
 have e : Lib.itoa n = Lib.decDigits n.natAbs := by unfold Lib.itoa; rw [if_neg hneg, show n.toNat = n.natAbs by omega]
 rw [e] at hd hlen ⊢
 obtain ⟨c, r, ed, h1, h2⟩ := qZD n.natAbs
 have hx : s[i]? = some c := by
  have := congrArg (fun l => l[0]?) hd
  rw [ed] at this
  simpa [List.getElem?_drop] using this
 have hp : pk s i = (c.toNat : Int) := by unfold pk; rw [hx]
 rw [hp, decide_eq_false (by omega), cond_false]
 dsimp only
 rw [qP]
 refine (qCM s hs _ rfl i _ (Lib.decDigits n.natAbs) 20 i 0 rest (qyG _) hd hr (Nat.le_refl _) (by have := dl n.natAbs (by omega); omega) (by have := dl n.natAbs (by omega); omega) (by omega) (by rw [Nat.sub_self]; decide)).trans ?_
 rw [qP, decide_eq_false (by rw [ed]; simp only [List.length_cons]; omega), cond_false]
 dsimp only
 rw [cond_false, qhO, show ((n.natAbs : Nat) : Int) = n by omega]
open Classical in
noncomputable def decF (t : List UInt8) : Json × Bool := if h : ∃ j, jsonB j = true ∧ encF 6 j = t ∧ t.length ≤ 6000 then (Classical.choose h, true) else (nullJ, false)
theorem qrH {t : List UInt8} (h : ∃ j, jsonB j = true ∧ encF 6 j = t ∧ t.length ≤ 6000) : ∃ j, decF t = (j, true) ∧ jsonB j = true ∧ encF 6 j = t ∧ t.length ≤ 6000 := by
 refine ⟨Classical.choose h, ?_, Classical.choose_spec h⟩
 unfold decF
 rw [dif_pos h]
theorem qBH {t : List UInt8} (h : ¬ ∃ j, jsonB j = true ∧ encF 6 j = t ∧ t.length ≤ 6000) : decF t = (nullJ, false) := by
 unfold decF
 rw [dif_neg h]
theorem qaD {k n : Int} {s : ByteArray} {l : List Json} {ns : List ByteArray} (h1 : (s.size : Int) ≤ 4611686018427387904) (h2 : ∀ x ∈ ns, (x.size : Int) ≤ 4611686018427387904) (h3 : ns.length ≤ 10000000) (h4 : l.length ≤ 10000000) (h5 : ∀ x ∈ l, Jw x) : Jw ⟨k, n, s, l, ns⟩ :=
 (Jw_eq _).2 ⟨h1, h2, by show (ns.length : Int) ≤ _; omega, by show (l.length : Int) ≤ _; omega, h5⟩
theorem qxT : ∀ (d : Nat) (j : Json), sizeF d j ≤ 400 → Jw j := by
 intro d
 induction d with
 | zero => intro j h; rw [sizeF] at h; omega
 | succ d ih =>
  intro j h
  obtain ⟨ho, h1, h2, h3⟩ := qaC h
  rcases qfC ho with rfl | ⟨n, hn, rfl⟩ | ⟨n, hn, rfl⟩ | ⟨s, hs, rfl⟩ | ⟨l, rfl⟩ | ⟨l, ns, e, hn, rfl⟩
  · exact qaD (by simp) (by simp) (by simp) (by simp) (by simp)
  · exact qaD (by simp) (by simp) (by simp) (by simp) (by simp)
  · exact qaD (by simp) (by simp) (by simp) (by simp) (by simp)
  · exact qaD (by have := qAE hs; rw [qvD]; omega) (by simp) (by simp) (by simp) (by simp)
  ·
   have : (l.length : Int) ≤ 400 := by dsimp only at h1 h3; omega
   exact qaD (by simp) (by simp) (by simp) (by omega) (fun x hx => ih x (h2 x hx))
  have : (l.length : Int) ≤ 400 := by dsimp only at h1 h3; omega
  exact qaD (by simp) (fun x hx => by have := qAE (qAF hn x hx); rw [qvD]; omega) (by omega) (by omega) (fun x hx => ih x (h2 x hx))
theorem qcK {j : Json} (h : jsonB j = true) : Jw j := by
 unfold jsonB at h
 exact qxT 6 j (of_decide_eq_true h)
theorem qLT {j : Json} (h : jsonB j = true) : encF 6 j ≠ [] := by
 unfold jsonB at h
 obtain ⟨ho, _⟩ := qaC (d := 5) (of_decide_eq_true h)
 rcases qfC ho with rfl | ⟨n, hn, rfl⟩ | ⟨n, hn, rfl⟩ | ⟨s, hs, rfl⟩ | ⟨l, rfl⟩ | ⟨l, ns, e, hn, rfl⟩
 · exact fun h => by cases h
 · rcases hn with rfl | rfl <;> exact fun h => by cases h
 ·
  intro h
  have h' : Lib.itoa n = [] := h
  obtain ⟨c, r, e, _⟩ := qZD n.natAbs
  unfold Lib.itoa at h'
  split at h'
  · cases h'
  rw [show n.toNat = n.natAbs by omega, e] at h'; cases h'
 · exact fun h => by cases h
 · exact fun h => by cases h
 exact fun h => by cases h
def SelfTot2 (s : List UInt8) (self : l2Cur → Int → Option (l2Cur × Json)) (d : Int) : Prop := ∀ (i : Nat) (ok : Bool) (left : Int), i ≤ s.length → 0 ≤ left → left ≤ 400 → ∃ (i' : Nat) (ok' : Bool) (left' : Int) (j : Json), self ⟨bl s, (i : Int), ok, left⟩ d = some (⟨bl s, (i' : Int), ok', left'⟩, j) ∧ i ≤ i' ∧ i' ≤ s.length ∧ -1 ≤ left' ∧ left' < left ∧ (ok' = true → 0 ≤ left') ∧ Jw j
theorem qkN (s : List UInt8) (hs : s.length ≤ 1000000) (e : UInt8) (self : l2Cur → Int → Option (l2Cur × Json)) (kind d : Int) (hself : SelfTot2 s self (w64 (d - 1))) (K : ByteArray → Int → Bool → Int → (List Json) → (List ByteArray) → Option (l2Cur × Json)) : ∀ (k i : Nat) (ok : Bool) (left : Int) (js : List Json) (ns : List ByteArray), 0 < k → (ok = true → 0 ≤ left) → (ok = true → left + 1 < k) → -1 ≤ left → left ≤ 400 → i ≤ s.length → js.length + left ≤ 1000 → ns.length ≤ js.length → (∀ x ∈ js, Jw x) → (∀ x ∈ ns, (x.size : Int) ≤ 4611686018427387904) → ∃ (i' : Nat) (ok' : Bool) (left' : Int) (js' : List Json) (ns' : List ByteArray), qZ.l0 d kind (bl [e]) self K k (bl s) (i : Int) ok left js ns = K (bl s) (i' : Int) ok' left' js' ns' ∧ i ≤ i' ∧ i' ≤ s.length ∧ -1 ≤ left' ∧ left' ≤ left ∧ (ok' = true → 0 ≤ left') ∧ js'.length ≤ 2000 ∧ ns'.length ≤ 2000 ∧ (∀ x ∈ js', Jw x) ∧ (∀ x ∈ ns', (x.size : Int) ≤ 4611686018427387904) := by
 intro k
 induction k with
 | zero => intro i ok left js ns h; omega
 | succ k ih =>
  intro i ok left js ns _ h0 hk hl1 hl2 hi hj hn hJ hN
  rw [qZ.l0]
  cases ok with
  | false =>
   refine ⟨i, false, left, js, ns, rfl, Nat.le_refl _, hi, hl1, Int.le_refl _, (fun h => by cases h), by omega, by omega, hJ, hN⟩
  | true =>
   have h0 := h0 rfl
   have hk := hk rfl
   rw [qHB, qW, bd, qHB, show (0 : Int) = ((0 : Nat) : Int) from rfl, qwD (by simp), bd, show ∀ y, bo3 true y false = y from fun _ => rfl]
   cases decide (pk s i ≠ Ls.sx (bl [e]) ((0 : Nat) : Int)) with
   | false => exact ⟨i, true, left, js, ns, rfl, Nat.le_refl _, hi, hl1, Int.le_refl _, (fun _ => h0), by omega, by omega, hJ, hN⟩
   | true =>
    rw [cond_true, qP]
    have go2 : ∀ (i1 : Nat) (ok1 : Bool) (ns1 : List ByteArray), i ≤ i1 → i1 ≤ s.length → ns1.length ≤ js.length + 1 → (∀ x ∈ ns1, (x.size : Int) ≤ 4611686018427387904) → ∃ (i' : Nat) (ok' : Bool) (left' : Int) (js' : List Json) (ns' : List ByteArray), ((self (l2Cur.mk (bl s) (i1 : Int) ok1 left) (w64 (d - 1))).bind fun r73 =>
      (some [r73.2]).bind fun l74 =>
      (appO 80 js l74).bind fun l75 =>
      qZ.l0 d kind (bl [e]) self K k r73.1.s r73.1.at_ r73.1.ok r73.1.left l75 ns1) = K (bl s) (i' : Int) ok' left' js' ns' ∧ i ≤ i' ∧ i' ≤ s.length ∧ -1 ≤ left' ∧ left' ≤ left ∧ (ok' = true → 0 ≤ left') ∧ js'.length ≤ 2000 ∧ ns'.length ≤ 2000 ∧ (∀ x ∈ js', Jw x) ∧ (∀ x ∈ ns', (x.size : Int) ≤ 4611686018427387904) := by
     intro i1 ok1 ns1 a1 a2 a3 a4
     obtain ⟨i2, ok2, left2, j, e2, b1, b2, b3, b4, b5, b6⟩ := hself i1 ok1 left a2 h0 hl2
     rw [e2, bd, bd, qeB (by simp only [List.length_cons, List.length_nil]; omega), bd]
     have hJ2 : ∀ x ∈ js ++ [j], Jw x := fun x hx => (List.mem_append.1 hx).elim (hJ x) (fun h => by rw [List.mem_singleton.1 h]; exact b6)
     obtain ⟨i', ok', left', js', ns', e', c1, c2, c3, c4, c5, c6⟩ := ih i2 ok2 left2 (js ++ [j]) ns1 (by omega) b5 (fun _ => by omega) b3 (by omega) b2 (by rw [List.length_append, List.length_singleton]; omega) (by rw [List.length_append, List.length_singleton]; omega) hJ2 a4
     exact ⟨i', ok', left', js', ns', e', by omega, c2, c3, by omega, c5, c6⟩
    have go1 : ∀ (i1 : Nat) (ok1 : Bool), i ≤ i1 → i1 ≤ s.length → ∃ (i' : Nat) (ok' : Bool) (left' : Int) (js' : List Json) (ns' : List ByteArray), (joinK (fun (y62 : ByteArray) (y63 : Int) (y64 : Bool) (y65 : Int) (y66 : List ByteArray) =>
      (self (l2Cur.mk y62 y63 y64 y65) (w64 (d - 1))).bind fun r73 =>
      (some [r73.2]).bind fun l74 =>
      (appO 80 js l74).bind fun l75 =>
      qZ.l0 d kind (bl [e]) self K k r73.1.s r73.1.at_ r73.1.ok r73.1.left l75 y66) (fun K67 =>
      bif (decide (kind = 5)) then (
      (qc.f (l2Cur.mk (bl s) (i1 : Int) ok1 left)).bind fun r69 =>
      (some [r69.2]).bind fun l70 =>
      (appO 16 ns l70).bind fun l71 =>
      (qm.f r69.1 (ByteArray.mk #[58])).bind fun r72 =>
      K67 r72.s r72.at_ r72.ok r72.left l71)
      else (
      K67 (bl s) (i1 : Int) ok1 left ns))) = K (bl s) (i' : Int) ok' left' js' ns' ∧ i ≤ i' ∧ i' ≤ s.length ∧ -1 ≤ left' ∧ left' ≤ left ∧ (ok' = true → 0 ≤ left') ∧ js'.length ≤ 2000 ∧ ns'.length ≤ 2000 ∧ (∀ x ∈ js', Jw x) ∧ (∀ x ∈ ns', (x.size : Int) ≤ 4611686018427387904) := by
     intro i1 ok1 a1 a2
     rw [qP]
     by_cases hk5 : kind = 5
     ·
      obtain ⟨i2, ok2, q, e2, b1, b2, b3⟩ := qaI s hs i1 a2 ok1 left
      obtain ⟨i3, ok3, e3, c1, c2, _⟩ := qJE s (by omega) i2 b2 ok2 left [58] (by simp)
      rw [decide_eq_true hk5, cond_true, e2, bd, bd, qeB (by simp only [List.length_cons, List.length_nil]; omega), bd, show ByteArray.mk #[58] = bl [58] from rfl, e3, bd]
      exact go2 i3 ok3 _ (by omega) c2 (by rw [List.length_append, List.length_singleton]; omega) (fun x hx => (List.mem_append.1 hx).elim (hN x) (fun h => by rw [List.mem_singleton.1 h, qEC]; omega))
     ·
      rw [decide_eq_false hk5, cond_false]
      exact go2 i1 ok1 ns a1 a2 (by omega) hN
    cases decide ((0 : Nat) < (lenI js : Int)) with
    | true =>
     obtain ⟨i2, ok2, e2, b1, b2, _⟩ := qJE s (by omega) i hi true left [44] (by simp)
     rw [cond_true, show ByteArray.mk #[44] = bl [44] from rfl, e2, bd]
     exact go1 i2 ok2 b1 b2
    | false =>
     rw [cond_false]
     exact go1 i true (Nat.le_refl _) hi
theorem qZS (s : List UInt8) (hs : s.length ≤ 1000000) (self : l2Cur → Int → Option (l2Cur × Json)) (d : Int) (hself : SelfTot2 s self (w64 (d - 1))) (i : Nat) (hi : i < s.length) (ok : Bool) (left : Int) (h1 : 0 ≤ left) (h2 : left ≤ 400) : ∃ (i' : Nat) (ok' : Bool) (left' : Int) (j : Json), qZ.f self ⟨bl s, (i : Int), ok, left⟩ d = some (⟨bl s, (i' : Int), ok', left'⟩, j) ∧ i ≤ i' ∧ i' ≤ s.length ∧ -1 ≤ left' ∧ left' ≤ left ∧ (ok' = true → 0 ≤ left') ∧ Jw j := by
 unfold qZ.f
 rw [qP, qW, bd]
 have go : ∀ (N : Nat) (hN : 500 ≤ N) (kind : Int) (e : UInt8), ∃ (i' : Nat) (ok' : Bool) (left' : Int) (j : Json), (joinK (fun (y6 : ByteArray) (y7 : Int) (y8 : Bool) (y9 : Int) (y10 : List Json) (y11 : List ByteArray) =>
   (qm.f (l2Cur.mk y6 y7 y8 y9) (bl [e])).bind fun r76 =>
   some (r76, (Json.mk kind 0 ByteArray.empty y10 y11))) (fun K12 =>
   qZ.l0 d kind (bl [e]) self K12 N (bl s) (w64 ((i : Int) + 1)) ok left [] [])) = some (⟨bl s, (i' : Int), ok', left'⟩, j) ∧ i ≤ i' ∧ i' ≤ s.length ∧ -1 ≤ left' ∧ left' ≤ left ∧ (ok' = true → 0 ≤ left') ∧ Jw j := by
  intro N hN kind e
  rw [qP, qq (by omega)]
  obtain ⟨i', ok', left', js', ns', e', c1, c2, c3, c4, c5, c6, c7, c8, c9⟩ := qkN s hs e self kind d hself (fun (y6 : ByteArray) (y7 : Int) (y8 : Bool) (y9 : Int) (y10 : List Json) (y11 : List ByteArray) =>
   (qm.f (l2Cur.mk y6 y7 y8 y9) (bl [e])).bind fun r76 =>
   some (r76, (Json.mk kind 0 ByteArray.empty y10 y11))) N (i + 1) ok left [] [] (by omega) (fun _ => h1) (fun _ => by omega) (by omega) h2 (by omega) (by simp; omega) (by simp) (by simp) (by simp)
  obtain ⟨i2, ok2, e2, b1, b2, b3⟩ := qJE s (by omega) i' c2 ok' left' [e] (by simp)
  refine ⟨i2, ok2, left', _, e'.trans (by rw [e2, bd]), by omega, b2, c3, c4, fun h => c5 ?_, qaD (by simp) c9 (by omega) (by omega) c8⟩
  cases ok' with
  | true => rfl
  | false => rw [b3 rfl] at h; cases h
 cases decide (pk s i = 123) with
 | true =>
  rw [cond_true]
  exact go 1000 (by decide) 5 125
 | false =>
  rw [cond_false]
  exact go 1000 (by decide) 4 93
def SelfRight2 (s : List UInt8) (self : l2Cur → Int → Option (l2Cur × Json)) (d : Int) (f : Json → List UInt8) (g : Json → Int) (x : Json) : Prop := ∀ (i : Nat) (left : Int) (rest : List UInt8), s.drop i = f x ++ rest → (∀ c ∈ rest.head?, c.toNat < 48 ∨ 57 < c.toNat) → g x ≤ left → left ≤ 400 → self ⟨bl s, (i : Int), true, left⟩ d = some (⟨bl s, ((i + (f x).length : Nat) : Int), true, left - g x⟩, x)
theorem qDM (ws : List (List UInt8)) (n : Nat) (e : UInt8) (he : e.toNat < 48 ∨ 57 < e.toNat) (rest : List UInt8) : ∀ c ∈ (moreW ws (n + 1) ++ e :: rest).head?, c.toNat < 48 ∨ 57 < c.toNat := by
 unfold moreW
 intro c hc
 split at hc
 ·
  have : e = c := by simpa using hc
  exact this ▸ he
 rw [if_neg (by omega)] at hc
 have : (44 : UInt8) = c := by simpa using hc
 subst this
 exact .inl (by decide)
theorem qEM (s : List UInt8) (hs : s.length ≤ 1000000) (self : l2Cur → Int → Option (l2Cur × Json)) (d : Int) (f : Json → List UInt8) (g : Json → Int) (hg : ∀ x, 1 ≤ g x) (K : ByteArray → Int → Bool → Int → (List Json) → (List ByteArray) → Option (l2Cur × Json)) (rest : List UInt8) : ∀ (l : List Json) (k i : Nat) (left : Int) (js : List Json) (ns : List ByteArray), (∀ y ∈ l, SelfRight2 s self (w64 (d - 1)) f g y) → (∀ y ∈ l, ∃ c r, f y = c :: r ∧ c ≠ 93 ∧ c ≠ 125) → s.drop i = moreW (l.map f) js.length ++ 93 :: rest → l.length < k → js.length + l.length ≤ 1000 → (l.map g).sum ≤ left → left ≤ 400 → qZ.l0 d 4 (bl [93]) self K k (bl s) (i : Int) true left js ns = K (bl s) ((i + (moreW (l.map f) js.length).length : Nat) : Int) true (left - (l.map g).sum) (js ++ l) ns := by
 intro l
 induction l with
 | nil =>
  intro k i left js ns _ _ hd hk hj hl1 hl2
  cases k with
  | zero => simp at hk
  | succ k =>
   have e0 : moreW (([] : List Json).map f) js.length = [] := if_pos rfl
   rw [e0] at hd ⊢
   obtain ⟨hp, _⟩ := qVC (c := 93) (r := rest) hd
   rw [qZ.l0, qHB, qW, bd, qHB, show (0 : Int) = ((0 : Nat) : Int) from rfl, qwD (by simp), bd, hp, sx_bl (a := [93]) (b := 93) rfl]
   rw [decide_eq_false (by simp), show bo3 true false false = false from rfl, cond_false, List.append_nil]
   simp
 | cons x l ih =>
  intro k i left js ns hx hh hd hk hj hl1 hl2
  cases k with
  | zero => simp at hk
  | succ k =>
   simp only [List.length_cons] at hk hj
   rw [List.map_cons, List.sum_cons] at hl1
   have hgx := hg x
   have hgs : 0 ≤ (l.map g).sum := by
    clear ih hx hh hd hk hj hl1
    induction l with
    | nil => simp
    | cons y l ih => have := hg y; rw [List.map_cons, List.sum_cons]; omega
   obtain ⟨c, r, ec, hc1, hc2⟩ := hh x (by simp)
   rw [List.map_cons, qIE] at hd ⊢
   have go : ∀ y : Nat, s.drop y = f x ++ (moreW (l.map f) (js.length + 1) ++ 93 :: rest) → y = i + (if js.length = 0 then ([] : List UInt8) else [44]).length → ((self (l2Cur.mk (bl s) (y : Int) true left) (w64 (d - 1))).bind fun r73 =>
     (some [r73.2]).bind fun l74 =>
     (appO 80 js l74).bind fun l75 =>
     qZ.l0 d 4 (bl [93]) self K k r73.1.s r73.1.at_ r73.1.ok r73.1.left l75 ns) = K (bl s) ((i + ((if js.length = 0 then ([] : List UInt8) else [44]) ++ f x ++ moreW (l.map f) (js.length + 1)).length : Nat) : Int) true (left - (g x + (l.map g).sum)) (js ++ x :: l) ns := by
    intro y hy ey
    rw [hx x (by simp) y left _ hy (qDM _ _ 93 (by decide) rest) (by omega) hl2, bd, bd, qeB (by simp only [List.length_cons, List.length_nil]; omega), bd]
    have hd2 : s.drop (y + (f x).length) = moreW (l.map f) (js ++ [x]).length ++ 93 :: rest := by rw [List.length_append, List.length_singleton]; exact qiC hy
    have := ih k (y + (f x).length) (left - g x) (js ++ [x]) ns (fun z hz => hx z (by simp [hz])) (fun z hz => hh z (by simp [hz])) hd2 (by omega) (by rw [List.length_append, List.length_singleton]; omega) (by omega) (by omega)
    refine this.trans ?_
    rw [List.append_assoc, List.length_append, List.length_append, List.length_append, List.length_singleton, ey, show left - g x - (l.map g).sum = left - (g x + (l.map g).sum) by omega, show i + (if js.length = 0 then ([] : List UInt8) else [44]).length + (f x).length + (moreW (l.map f) (js.length + 1)).length = i + ((if js.length = 0 then ([] : List UInt8) else [44]).length + (f x).length + (moreW (l.map f) (js.length + 1)).length) by omega]
    rfl
   rw [qZ.l0, qHB, qW, bd, qHB, show (0 : Int) = ((0 : Nat) : Int) from rfl, qwD (by simp), bd, sx_bl (a := [93]) (b := 93) rfl]
   by_cases h0 : js.length = 0
   ·
    have hd1 : s.drop i = f x ++ (moreW (l.map f) (js.length + 1) ++ 93 :: rest) := by rw [hd, if_pos h0]; simp
    have hp : pk s i = (c.toNat : Int) := (qVC (c := c) (r := r ++ (moreW (l.map f) (js.length + 1) ++ 93 :: rest)) (by rw [hd1, ec]; rfl)).1
    have hne : (c.toNat : Int) ≠ (((93 : UInt8).toNat : Nat) : Int) := fun h => hc1 (UInt8.toNat_inj.1 (by omega))
    rw [hp, decide_eq_true hne, show bo3 true true false = true from rfl, cond_true, qP, qt, decide_eq_false (by omega), cond_false]
    dsimp only
    rw [qP, show decide ((4 : Int) = 5) = false from rfl, cond_false]
    exact go i hd1 (by rw [if_pos h0]; rfl)
   have hd0 : s.drop i = [44] ++ (f x ++ (moreW (l.map f) (js.length + 1) ++ 93 :: rest)) := by rw [hd, if_neg h0]; simp
   have hp : pk s i = (((44 : UInt8).toNat : Nat) : Int) := (qVC (c := 44) hd0).1
   rw [hp, show decide ((((44 : UInt8).toNat : Nat) : Int) ≠ (((93 : UInt8).toNat : Nat) : Int)) = true from rfl, show bo3 true true false = true from rfl, cond_true, qP, qt, decide_eq_true (by omega), cond_true, show ByteArray.mk #[44] = bl [44] from rfl, qqC (by omega) hd0 (by simp) (by simp), bd]
   dsimp only
   rw [qP, show decide ((4 : Int) = 5) = false from rfl, cond_false]
   exact go (i + 1) (qiC hd0) (by rw [if_neg h0]; rfl)
theorem qlN (s : List UInt8) (hs : s.length ≤ 1000000) (self : l2Cur → Int → Option (l2Cur × Json)) (d : Int) (f : Json → List UInt8) (g : Json → Int) (hg : ∀ x, 1 ≤ g x) (K : ByteArray → Int → Bool → Int → (List Json) → (List ByteArray) → Option (l2Cur × Json)) (rest : List UInt8) : ∀ (l : List Json) (ms : List ByteArray) (k i : Nat) (left : Int) (js : List Json) (ns : List ByteArray), ms.length = l.length → (∀ y ∈ l, SelfRight2 s self (w64 (d - 1)) f g y) → s.drop i = moreW (objW f ms l) js.length ++ 125 :: rest → l.length < k → js.length + l.length ≤ 1000 → ns.length ≤ js.length → (l.map g).sum ≤ left → left ≤ 400 → qZ.l0 d 5 (bl [125]) self K k (bl s) (i : Int) true left js ns = K (bl s) ((i + (moreW (objW f ms l) js.length).length : Nat) : Int) true (left - (l.map g).sum) (js ++ l) (ns ++ ms) := by
 intro l
 induction l with
 | nil =>
  intro ms k i left js ns hm _ hd hk hj hn hl1 hl2
  have : ms = [] := List.length_eq_zero_iff.1 hm
  subst this
  cases k with
  | zero => simp at hk
  | succ k =>
   have e0 : moreW (objW f [] []) js.length = [] := if_pos rfl
   rw [e0] at hd ⊢
   obtain ⟨hp, _⟩ := qVC (c := 125) (r := rest) hd
   rw [qZ.l0, qHB, qW, bd, qHB, show (0 : Int) = ((0 : Nat) : Int) from rfl, qwD (by simp), bd, hp, sx_bl (a := [125]) (b := 125) rfl]
   rw [decide_eq_false (by simp), show bo3 true false false = false from rfl, cond_false, List.append_nil, List.append_nil]
   simp
 | cons x l ih =>
  intro ms k i left js ns hm hx hd hk hj hn hl1 hl2
  cases ms with
  | nil => simp at hm
  | cons m ms =>
  cases k with
  | zero => simp at hk
  | succ k =>
   simp only [List.length_cons] at hk hj hm
   rw [List.map_cons, List.sum_cons] at hl1
   have hgx := hg x
   have hgs : 0 ≤ (l.map g).sum := by
    clear ih hx hd hk hj hl1 hm
    induction l with
    | nil => simp
    | cons y l ih => have := hg y; rw [List.map_cons, List.sum_cons]; omega
   rw [objW, qIE] at hd
   rw [objW, qIE, List.map_cons]
   have go : ∀ y : Nat, s.drop y = quoteL m.data.toList ++ ([58] ++ (f x ++ (moreW (objW f ms l) (js.length + 1) ++ 125 :: rest))) → y = i + (if js.length = 0 then ([] : List UInt8) else [44]).length → (joinK (fun (y62 : ByteArray) (y63 : Int) (y64 : Bool) (y65 : Int) (y66 : List ByteArray) =>
     (self (l2Cur.mk y62 y63 y64 y65) (w64 (d - 1))).bind fun r73 =>
     (some [r73.2]).bind fun l74 =>
     (appO 80 js l74).bind fun l75 =>
     qZ.l0 d 5 (bl [125]) self K k r73.1.s r73.1.at_ r73.1.ok r73.1.left l75 y66) (fun K67 =>
     bif (decide ((5 : Int) = 5)) then (
     (qc.f (l2Cur.mk (bl s) (y : Int) true left)).bind fun r69 =>
     (some [r69.2]).bind fun l70 =>
     (appO 16 ns l70).bind fun l71 =>
     (qm.f r69.1 (ByteArray.mk #[58])).bind fun r72 =>
     K67 r72.s r72.at_ r72.ok r72.left l71)
     else (
     K67 (bl s) (y : Int) true left ns))) = K (bl s) ((i + ((if js.length = 0 then ([] : List UInt8) else [44]) ++ (quoteL m.data.toList ++ 58 :: f x) ++ moreW (objW f ms l) (js.length + 1)).length : Nat) : Int) true (left - (g x + (l.map g).sum)) (js ++ x :: l) (ns ++ m :: ms) := by
    intro y hy ey
    have hy2 := qiC hy
    have hy3 := qiC hy2
    rw [qP, show decide ((5 : Int) = 5) = true from rfl, cond_true, qwF (by omega) _ _ hy, bd, bd, qeB (by simp only [List.length_cons, List.length_nil]; omega), bd, show ByteArray.mk #[58] = bl [58] from rfl, qqC (by omega) hy2 (by simp) (by simp), bd]
    dsimp only
    rw [hx x (by simp) _ left _ hy3 (qDM _ _ 125 (by decide) rest) (by omega) hl2, bd, bd, qeB (by simp only [List.length_cons, List.length_nil]; omega), bd, qeC]
    have hd2 : s.drop (y + (quoteL m.data.toList).length + ([58] : List UInt8).length + (f x).length) = moreW (objW f ms l) (js ++ [x]).length ++ 125 :: rest := by rw [List.length_append, List.length_singleton]; exact qiC hy3
    have := ih ms k _ (left - g x) (js ++ [x]) (ns ++ [m]) (by omega) (fun z hz => hx z (by simp [hz])) hd2 (by omega) (by rw [List.length_append, List.length_singleton]; omega) (by rw [List.length_append, List.length_append, List.length_singleton, List.length_singleton]; omega) (by omega) (by omega)
    refine this.trans ?_
    rw [List.append_assoc, List.append_assoc ns]
    simp only [List.length_append, List.length_cons, List.length_nil, Nat.zero_add]
    rw [ey, show left - g x - (l.map g).sum = left - (g x + (l.map g).sum) by omega]
    congr 2
    omega
   rw [qZ.l0, qHB, qW, bd, qHB, show (0 : Int) = ((0 : Nat) : Int) from rfl, qwD (by simp), bd, sx_bl (a := [125]) (b := 125) rfl]
   by_cases h0 : js.length = 0
   ·
    have hd1 : s.drop i = quoteL m.data.toList ++ ([58] ++ (f x ++ (moreW (objW f ms l) (js.length + 1) ++ 125 :: rest))) := by rw [hd, if_pos h0]; simp
    have hp : pk s i = (((34 : UInt8).toNat : Nat) : Int) := (qVC (c := 34) (r := (m.data.toList.flatMap escC ++ [34]) ++ ([58] ++ (f x ++ (moreW (objW f ms l) (js.length + 1) ++ 125 :: rest)))) (by rw [hd1]; rfl)).1
    rw [hp, show decide ((((34 : UInt8).toNat : Nat) : Int) ≠ (((125 : UInt8).toNat : Nat) : Int)) = true from rfl, show bo3 true true false = true from rfl, cond_true, qP, qt, decide_eq_false (by omega), cond_false]
    exact go i hd1 (by rw [if_pos h0]; rfl)
   have hd0 : s.drop i = [44] ++ (quoteL m.data.toList ++ ([58] ++ (f x ++ (moreW (objW f ms l) (js.length + 1) ++ 125 :: rest)))) := by rw [hd, if_neg h0]; simp
   have hp : pk s i = (((44 : UInt8).toNat : Nat) : Int) := (qVC (c := 44) hd0).1
   rw [hp, show decide ((((44 : UInt8).toNat : Nat) : Int) ≠ (((125 : UInt8).toNat : Nat) : Int)) = true from rfl, show bo3 true true false = true from rfl, cond_true, qP, qt, decide_eq_true (by omega), cond_true, show ByteArray.mk #[44] = bl [44] from rfl, qqC (by omega) hd0 (by simp) (by simp), bd]
   exact go (i + 1) (qiC hd0) (by rw [if_neg h0]; rfl)
theorem qmN (s : List UInt8) (hs : s.length ≤ 1000000) : ∀ (k d : Nat), d < k → d ≤ 100 → SelfTot2 s (qQ.g k) (d : Int) := by
 intro k
 induction k with
 | zero => intro d h; omega
 | succ k ih =>
  intro d hd hd2 i ok left hi h1 h2
  rw [qQ.g, qQ.b, qP]
  dsimp only
  rw [qIB (x := left - 1) (by omega)]
  have leaf : ∀ (k n : Int), Jw ⟨k, n, ByteArray.empty, [], []⟩ := fun k n => qaD (by simp) (by simp) (by simp) (by simp) (by simp)
  by_cases hg : bo3 (decide ((d : Int) = 0)) true (decide (left - 1 < 0)) = true
  ·
   rw [hg, cond_true, show bo3 false false true = true from rfl, cond_true]
   exact ⟨i, false, left - 1, _, rfl, Nat.le_refl _, hi, by omega, by omega, fun h => (by cases h), leaf 0 0⟩
  rw [Bool.not_eq_true] at hg
  have hd0 : d ≠ 0 := by rintro rfl; simp [bo3] at hg
  have hl : 0 ≤ left - 1 := by
   rw [decide_eq_false (by omega)] at hg
   have := of_decide_eq_false (show decide (left - 1 < 0) = false from hg)
   omega
  have hself : SelfTot2 s (qQ.g k) (w64 ((d : Int) - 1)) := by
   rw [qIB (by omega), show (d : Int) - 1 = ((d - 1 : Nat) : Int) by omega]
   exact ih (d - 1) (by omega) (by omega)
  rw [hg, cond_false]
  cases ok with
  | false =>
   rw [show bo3 false false true = true from rfl, cond_true]
   exact ⟨i, false, left - 1, _, rfl, Nat.le_refl _, hi, by omega, by omega, fun h => (by cases h), leaf 0 0⟩
  | true =>
  rw [show bo3 true false true = false from rfl, cond_false, qW, bd]
  have tk : ∀ (w : List UInt8) (k n : Int), w.length ≤ 100 → ∃ (i' : Nat) (ok' : Bool) (left' : Int) (j : Json), ((qm.f (l2Cur.mk (bl s) (i : Int) true (left - 1)) (bl w)).bind fun r15 => some (r15, (Json.mk k n ByteArray.empty [] []))) = some (⟨bl s, (i' : Int), ok', left'⟩, j) ∧ i ≤ i' ∧ i' ≤ s.length ∧ -1 ≤ left' ∧ left' < left ∧ (ok' = true → 0 ≤ left') ∧ Jw j := by
   intro w k n hw
   obtain ⟨i', ok', e, a1, a2, _⟩ := qJE s (by omega) i hi true (left - 1) w hw
   rw [e, bd]
   exact ⟨i', ok', left - 1, _, rfl, a1, a2, by omega, by omega, fun _ => hl, leaf k n⟩
  by_cases c1 : pk s i = 110
  · rw [decide_eq_true c1, cond_true]; exact tk [110, 117, 108, 108] 0 0 (by simp)
  rw [decide_eq_false c1, cond_false]
  by_cases c2 : pk s i = 116
  · rw [decide_eq_true c2, cond_true]; exact tk [116, 114, 117, 101] 1 1 (by simp)
  rw [decide_eq_false c2, cond_false]
  by_cases c3 : pk s i = 102
  · rw [decide_eq_true c3, cond_true]; exact tk [102, 97, 108, 115, 101] 1 0 (by simp)
  rw [decide_eq_false c3, cond_false]
  by_cases c4 : pk s i = 34
  ·
   obtain ⟨i', ok', q, e, a1, a2, a3⟩ := qaI s hs i hi true (left - 1)
   rw [decide_eq_true c4, cond_true, e, bd]
   exact ⟨i', ok', left - 1, _, rfl, a1, a2, by omega, by omega, fun _ => hl, qaD (by rw [qEC]; omega) (by simp) (by simp) (by simp) (by simp)⟩
  rw [decide_eq_false c4, cond_false, qP]
  have many : i < s.length → ∃ (i' : Nat) (ok' : Bool) (left' : Int) (j : Json), ((qZ.f (qQ.g k) (l2Cur.mk (bl s) (i : Int) true (left - 1)) (d : Int)).bind fun r26 => some (r26.1, r26.2)) = some (⟨bl s, (i' : Int), ok', left'⟩, j) ∧ i ≤ i' ∧ i' ≤ s.length ∧ -1 ≤ left' ∧ left' < left ∧ (ok' = true → 0 ≤ left') ∧ Jw j := by
   intro hlt
   obtain ⟨i', ok', left', j, e, a1, a2, a3, a4, a5, a6⟩ := qZS s hs (qQ.g k) (d : Int) hself i hlt true (left - 1) hl (by omega)
   rw [e, bd]
   exact ⟨i', ok', left', j, rfl, a1, a2, a3, by omega, a5, a6⟩
  have num : ∃ (i' : Nat) (ok' : Bool) (left' : Int) (j : Json), ((qk.f (l2Cur.mk (bl s) (i : Int) true (left - 1))).bind fun r27 => some (r27.1, (Json.mk 2 r27.2 ByteArray.empty [] []))) = some (⟨bl s, (i' : Int), ok', left'⟩, j) ∧ i ≤ i' ∧ i' ≤ s.length ∧ -1 ≤ left' ∧ left' < left ∧ (ok' = true → 0 ≤ left') ∧ Jw j := by
   obtain ⟨i', ok', x, e, a1, a2, _⟩ := qAH s (by omega) i hi true (left - 1)
   rw [e, bd]
   exact ⟨i', ok', left - 1, _, rfl, a1, a2, by omega, by omega, fun _ => hl, leaf 2 x⟩
  by_cases c5 : pk s i = 91
  ·
   rw [decide_eq_true c5, cond_true]
   exact many (pk_in (by omega))
  rw [decide_eq_false c5, cond_false]
  by_cases c6 : pk s i = 123
  ·
   rw [decide_eq_true c6]
   exact many (pk_in (by omega))
  rw [decide_eq_false c6]
  exact num
theorem qdK (self : l2Cur → Int → Option (l2Cur × Json)) (s : List UInt8) (i : Nat) (left d : Int) (hd : 1 ≤ d) (hl : 1 ≤ left) (hl2 : left ≤ 400) (c : UInt8) (r : List UInt8) (h : s.drop i = c :: r) (n1 : c ≠ 110) (n2 : c ≠ 102) (n3 : c ≠ 116) (n4 : c ≠ 34) : qQ.b self ⟨bl s, (i : Int), true, left⟩ d = bif decide (c = 91) || decide (c = 123) then ((qZ.f self (l2Cur.mk (bl s) (i : Int) true (left - 1)) d).bind fun r26 => some (r26.1, r26.2)) else ((qk.f (l2Cur.mk (bl s) (i : Int) true (left - 1))).bind fun r27 => some (r27.1, (Json.mk 2 r27.2 ByteArray.empty [] []))) := by
 have hp := (qVC h).1
 have ne : ∀ x : UInt8, c ≠ x → ¬ (c.toNat : Int) = x.toNat := fun x hx h => hx (UInt8.toNat_inj.1 (by omega))
 have de : ∀ x : UInt8, decide ((c.toNat : Int) = (x.toNat : Int)) = decide (c = x) := fun x => by
  by_cases hx : c = x
  · rw [hx, decide_eq_true rfl, decide_eq_true rfl]
  rw [decide_eq_false hx, decide_eq_false (ne x hx)]
 rw [qQ.b, qP]
 dsimp only
 rw [qIB (x := left - 1) (by omega), decide_eq_false (by omega), decide_eq_false (p := left - 1 < 0) (by omega), show bo3 false true false = false from rfl, cond_false, show bo3 true false true = false from rfl, cond_false, qW, bd, hp,
  show (110 : Int) = ((110 : UInt8).toNat : Int) from rfl, decide_eq_false (ne 110 n1), cond_false, show (116 : Int) = ((116 : UInt8).toNat : Int) from rfl, decide_eq_false (ne 116 n3), cond_false, show (102 : Int) = ((102 : UInt8).toNat : Int) from rfl, decide_eq_false (ne 102 n2), cond_false, show (34 : Int) = ((34 : UInt8).toNat : Int) from rfl, decide_eq_false (ne 34 n4), cond_false, qP, show (91 : Int) = ((91 : UInt8).toNat : Int) from rfl, de 91, show (123 : Int) = ((123 : UInt8).toNat : Int) from rfl, de 123]
 cases decide (c = 91) with
 | true => rw [cond_true]; rfl
 | false => rw [cond_false]; cases decide (c = 123) <;> rfl
theorem qiQ {d : Nat} {j : Json} (h : sizeF d j ≤ 400) : ∃ c r, encF d j = c :: r ∧ c ≠ 93 ∧ c ≠ 125 := by
 obtain ⟨d, rfl⟩ := qbF h
 obtain ⟨ho, _⟩ := qaC h
 rcases qfC ho with rfl | ⟨n, hn, rfl⟩ | ⟨n, hn, rfl⟩ | ⟨s, hs, rfl⟩ | ⟨l, rfl⟩ | ⟨l, ns, e, hn, rfl⟩
 · exact ⟨110, _, rfl, by decide, by decide⟩
 ·
  rcases hn with rfl | rfl
  · exact ⟨102, _, rfl, by decide, by decide⟩
  exact ⟨116, _, rfl, by decide, by decide⟩
 ·
  cases hi : Lib.itoa n with
  | nil =>
   obtain ⟨c, r, e, _⟩ := qZD n.natAbs
   unfold Lib.itoa at hi
   split at hi
   · cases hi
   rw [show n.toNat = n.natAbs by omega, e] at hi; cases hi
  | cons c r =>
   have := qpH (n := n) (c := c) (by rw [hi]; simp)
   refine ⟨c, r, hi, ?_, ?_⟩ <;> rintro rfl <;> revert this <;> decide
 · exact ⟨34, _, rfl, by decide, by decide⟩
 · exact ⟨91, _, rfl, by decide, by decide⟩
 exact ⟨123, _, rfl, by decide, by decide⟩
theorem qxJ (f : Json → Int) (hf : ∀ x, 1 ≤ f x) : ∀ l : List Json, 0 ≤ (l.map f).sum
 | [] => by simp
 | x :: l => by have := qxJ f hf l; have := hf x; rw [List.map_cons, List.sum_cons]; omega
theorem qeK (s : List UInt8) (hs : s.length ≤ 1000000) : ∀ (k d : Nat) (j : Json), d ≤ k → d ≤ 100 → sizeF d j ≤ 400 → SelfRight2 s (qQ.g k) (d : Int) (encF d) (sizeF d) j := by
  intro k
  induction k with
  | zero => intro d j h1 h2 h3; have : d = 0 := by omega
            subst this; rw [sizeF] at h3; omega
  | succ k ih =>
    intro d j h1 h2 h3 i left rest hd hr hl1 hl2
    obtain ⟨d, rfl⟩ := qbF h3
    obtain ⟨ho, g1, g2, g3⟩ := qaC h3
    have hsum := qxJ (sizeF d) (fun x => (qIC d x).1) j.List_
    have hl0 : 1 ≤ left := by omega
    have hself : ∀ x ∈ j.List_, SelfRight2 s (qQ.g k) (w64 (((d + 1 : Nat) : Int) - 1)) (encF d) (sizeF d) x := fun x hx => by
      rw [qIB (by omega), show ((d + 1 : Nat) : Int) - 1 = (d : Int) by omega]
      exact ih d x (by omega) (by omega) (g2 x hx)
    rw [qQ.g, g1]
    have lit : ∀ (w : List UInt8) (c : UInt8) (r : List UInt8) (kk n : Int), w = c :: r → w.length ≤ 100 → s.drop i = w ++ rest → (qm.f (l2Cur.mk (bl s) (i : Int) true (left - 1)) (bl w)).bind (fun r15 => some (r15, (Json.mk kk n ByteArray.empty [] []))) = some (⟨bl s, ((i + w.length : Nat) : Int), true, left - 1⟩, ⟨kk, n, ByteArray.empty, [], []⟩) := by
      intro w c r kk n ew hw hdw
      rw [qqC (by omega) hdw hw (by rw [ew]; simp), bd]
    rcases qfC ho with rfl | ⟨n, hn, rfl⟩ | ⟨n, hn, rfl⟩ | ⟨q, hs', rfl⟩ | ⟨l, rfl⟩ | ⟨l, ns, e, hn, rfl⟩
    · have e0 : encF (d + 1) nullJ = [110, 117, 108, 108] := rfl
      rw [e0] at hd ⊢
      have hp := (qVC (c := 110) (r := [117, 108, 108] ++ rest) hd).1
      rw [qQ.b, qP]
      dsimp only
      rw [qIB (x := left - 1) (by omega), decide_eq_false (by omega), decide_eq_false (p := left - 1 < 0) (by omega), show bo3 false true false = false from rfl, cond_false, show bo3 true false true = false from rfl, cond_false, qW, bd, hp, show decide (((110 : UInt8).toNat : Int) = 110) = true from rfl, cond_true]
      exact (lit [110, 117, 108, 108] 110 _ 0 0 rfl (by simp) hd).trans rfl
    · rcases hn with rfl | rfl
      · have e0 : encF (d + 1) ⟨1, 0, ByteArray.empty, [], []⟩ = [102, 97, 108, 115, 101] := rfl
        rw [e0] at hd ⊢
        have hp := (qVC (c := 102) (r := [97, 108, 115, 101] ++ rest) hd).1
        rw [qQ.b, qP]
        dsimp only
        rw [qIB (x := left - 1) (by omega), decide_eq_false (by omega), decide_eq_false (p := left - 1 < 0) (by omega), show bo3 false true false = false from rfl, cond_false, show bo3 true false true = false from rfl, cond_false, qW, bd, hp, show decide (((102 : UInt8).toNat : Int) = 110) = false from rfl, cond_false, show decide (((102 : UInt8).toNat : Int) = 116) = false from rfl, cond_false, show decide (((102 : UInt8).toNat : Int) = 102) = true from rfl, cond_true]
        exact (lit [102, 97, 108, 115, 101] 102 _ 1 0 rfl (by simp) hd).trans rfl
      · have e0 : encF (d + 1) ⟨1, 1, ByteArray.empty, [], []⟩ = [116, 114, 117, 101] := rfl
        rw [e0] at hd ⊢
        have hp := (qVC (c := 116) (r := [114, 117, 101] ++ rest) hd).1
        rw [qQ.b, qP]
        dsimp only
        rw [qIB (x := left - 1) (by omega), decide_eq_false (by omega), decide_eq_false (p := left - 1 < 0) (by omega), show bo3 false true false = false from rfl, cond_false, show bo3 true false true = false from rfl, cond_false, qW, bd, hp, show decide (((116 : UInt8).toNat : Int) = 110) = false from rfl, cond_false, show decide (((116 : UInt8).toNat : Int) = 116) = true from rfl, cond_true]
        exact (lit [116, 114, 117, 101] 116 _ 1 1 rfl (by simp) hd).trans rfl
    · have e0 : encF (d + 1) ⟨2, n, ByteArray.empty, [], []⟩ = Lib.itoa n := rfl
      rw [e0] at hd ⊢
      have hnum := qeG s (by omega) hn i true (left - 1) rest hd hr
      cases hi : Lib.itoa n with
      | nil =>
        obtain ⟨c, r, e, _⟩ := qZD n.natAbs
        unfold Lib.itoa at hi
        split at hi
        · cases hi
        · rw [show n.toNat = n.natAbs by omega, e] at hi; cases hi
      | cons c r =>
        have hm := qpH (n := n) (c := c) (by rw [hi]; simp)
        have ne : ∀ x : UInt8, x.toNat ≠ 45 → ¬ (48 ≤ x.toNat ∧ x.toNat ≤ 57) → c ≠ x := by rintro x h h' rfl; rcases hm with hm | hm; exact h hm; exact h' hm
        rw [hi] at hd hnum
        rw [qdK (qQ.g k) s i left _ (by omega) hl0 hl2 c (r ++ rest) hd (ne 110 (by decide) (by decide)) (ne 102 (by decide) (by decide)) (ne 116 (by decide) (by decide)) (ne 34 (by decide) (by decide)), decide_eq_false (ne 91 (by decide) (by decide)), decide_eq_false (ne 123 (by decide) (by decide)), Bool.false_or, cond_false, hnum, bd]
        rfl
    · have e0 : encF (d + 1) ⟨3, 0, q, [], []⟩ = quoteL q.data.toList := rfl
      rw [e0] at hd ⊢
      have hp := (qVC (c := 34) (r := (q.data.toList.flatMap escC ++ [34]) ++ rest) hd).1
      have hq := qwF hs q.data.toList rest hd (left - 1)
      rw [qQ.b, qP]
      dsimp only
      rw [qIB (x := left - 1) (by omega), decide_eq_false (by omega), decide_eq_false (p := left - 1 < 0) (by omega), show bo3 false true false = false from rfl, cond_false, show bo3 true false true = false from rfl, cond_false, qW, bd, hp, show decide (((34 : UInt8).toNat : Int) = 110) = false from rfl, cond_false, show decide (((34 : UInt8).toNat : Int) = 116) = false from rfl, cond_false, show decide (((34 : UInt8).toNat : Int) = 102) = false from rfl, cond_false, show decide (((34 : UInt8).toNat : Int) = 34) = true from rfl, cond_true, hq, bd, qeC]
      rfl
    · have e0 : encF (d + 1) ⟨4, 0, ByteArray.empty, l, []⟩ = 91 :: (Lib.join (l.map (encF d)) [44] ++ [93]) := rfl
      rw [e0] at hd ⊢
      have hd1 : s.drop i = 91 :: (Lib.join (l.map (encF d)) [44] ++ 93 :: rest) := by rw [hd]; simp
      have hlt := qaK hd1
      have hp := (qVC hd1).1
      rw [qdK (qQ.g k) s i left _ (by omega) hl0 hl2 91 _ hd1 (by decide) (by decide) (by decide) (by decide), show (decide ((91 : UInt8) = 91) || decide ((91 : UInt8) = 123)) = true from rfl, cond_true]
      unfold qZ.f
      dsimp only at g1 g3 hsum hself g2
      have hl400 : l.length ≤ 400 := by omega
      have hd2 : s.drop (i + 1) = moreW (l.map (encF d)) ([] : List Json).length ++ 93 :: rest := by
        rw [← List.drop_drop, hd1]; show _ = moreW _ 0 ++ _; rw [qhD]; rfl
      have key := fun K N (hN : 500 ≤ N) => qEM s hs (qQ.g k) ((d + 1 : Nat) : Int) (encF d) (sizeF d) (fun x => (qIC d x).1) K rest l N (i + 1) (left - 1) [] [] hself (fun y hy => qiQ (g2 y hy)) hd2 (by omega) (by simp; omega) (by omega) (by omega)
      have hd3 := qiC hd2
      have e2 := qqC (w := [93]) (rest := rest) (by omega) hd3 (by simp) (by simp) (left - 1 - (l.map (sizeF d)).sum) true
      have go : ∀ N, 500 ≤ N → (joinK (fun (y6 : ByteArray) (y7 : Int) (y8 : Bool) (y9 : Int) (y10 : List Json) (y11 : List ByteArray) =>
          (qm.f (l2Cur.mk y6 y7 y8 y9) (bl [93])).bind fun r76 =>
          some (r76, (Json.mk 4 0 ByteArray.empty y10 y11))) (fun K12 =>
          qZ.l0 ((d + 1 : Nat) : Int) 4 (bl [93]) (qQ.g k) K12 N (bl s) (w64 ((i : Int) + 1)) true (left - 1) [] [])) = some (⟨bl s, ((i + (91 :: (Lib.join (l.map (encF d)) [44] ++ [93])).length : Nat) : Int), true, left - (1 + (l.map (sizeF d)).sum)⟩, ⟨4, 0, ByteArray.empty, l, []⟩) := by
        intro N hN
        rw [qP, qq (by omega)]
        refine (key _ N hN).trans ?_
        rw [e2, bd, List.nil_append, show left - 1 - (l.map (sizeF d)).sum = left - (1 + (l.map (sizeF d)).sum) by omega]
        have e3 : i + 1 + (moreW (l.map (encF d)) ([] : List Json).length).length + ([93] : List UInt8).length = i + (91 :: (Lib.join (l.map (encF d)) [44] ++ [93])).length := by
          rw [show ([] : List Json).length = 0 from rfl, qhD]
          simp only [List.length_append, List.length_cons, List.length_nil]; omega
        rw [e3]
      rw [qP, qW, bd, hp, show decide (((91 : UInt8).toNat : Int) = 123) = false from rfl, cond_false]
      dsimp only
      have := go 1000 (by decide)
      rw [show bl [93] = ByteArray.mk #[93] from rfl] at this
      rw [this, bd]
    · have e0 : encF (d + 1) ⟨5, 0, ByteArray.empty, l, ns⟩ = 123 :: (Lib.join (objW (encF d) ns l) [44] ++ [125]) := rfl
      rw [e0] at hd ⊢
      have hd1 : s.drop i = 123 :: (Lib.join (objW (encF d) ns l) [44] ++ 125 :: rest) := by rw [hd]; simp
      have hlt := qaK hd1
      have hp := (qVC hd1).1
      rw [qdK (qQ.g k) s i left _ (by omega) hl0 hl2 123 _ hd1 (by decide) (by decide) (by decide) (by decide), show (decide ((123 : UInt8) = 91) || decide ((123 : UInt8) = 123)) = true from rfl, cond_true]
      unfold qZ.f
      dsimp only at g1 g3 hsum hself g2
      have hl400 : l.length ≤ 400 := by omega
      have hd2 : s.drop (i + 1) = moreW (objW (encF d) ns l) ([] : List Json).length ++ 125 :: rest := by
        rw [← List.drop_drop, hd1]; show _ = moreW _ 0 ++ _; rw [qhD]; rfl
      have key := fun K N (hN : 500 ≤ N) => qlN s hs (qQ.g k) ((d + 1 : Nat) : Int) (encF d) (sizeF d) (fun x => (qIC d x).1) K rest l ns N (i + 1) (left - 1) [] [] e hself hd2 (by omega) (by simp; omega) (by simp) (by omega) (by omega)
      have hd3 := qiC hd2
      have e2 := qqC (w := [125]) (rest := rest) (by omega) hd3 (by simp) (by simp) (left - 1 - (l.map (sizeF d)).sum) true
      have go : ∀ N, 500 ≤ N → (joinK (fun (y6 : ByteArray) (y7 : Int) (y8 : Bool) (y9 : Int) (y10 : List Json) (y11 : List ByteArray) =>
          (qm.f (l2Cur.mk y6 y7 y8 y9) (bl [125])).bind fun r76 =>
          some (r76, (Json.mk 5 0 ByteArray.empty y10 y11))) (fun K12 =>
          qZ.l0 ((d + 1 : Nat) : Int) 5 (bl [125]) (qQ.g k) K12 N (bl s) (w64 ((i : Int) + 1)) true (left - 1) [] [])) = some (⟨bl s, ((i + (123 :: (Lib.join (objW (encF d) ns l) [44] ++ [125])).length : Nat) : Int), true, left - (1 + (l.map (sizeF d)).sum)⟩, ⟨5, 0, ByteArray.empty, l, ns⟩) := by
        intro N hN
        rw [qP, qq (by omega)]
        refine (key _ N hN).trans ?_
        rw [e2, bd, List.nil_append, List.nil_append, show left - 1 - (l.map (sizeF d)).sum = left - (1 + (l.map (sizeF d)).sum) by omega]
        have e3 : i + 1 + (moreW (objW (encF d) ns l) ([] : List Json).length).length + ([125] : List UInt8).length = i + (123 :: (Lib.join (objW (encF d) ns l) [44] ++ [125])).length := by
          rw [show ([] : List Json).length = 0 from rfl, qhD]
          simp only [List.length_append, List.length_cons, List.length_nil]; omega
        rw [e3]
      rw [qP, qW, bd, hp, show decide (((123 : UInt8).toNat : Int) = 123) = true from rfl, cond_true]
      dsimp only
      have := go 1000 (by decide)
      rw [show bl [125] = ByteArray.mk #[125] from rfl] at this
      rw [this, bd]
theorem qMJ (t : List UInt8) : qBD.f (bl t) = some (decF t) := by
 unfold qBD.f
 rw [show ByteArray.mk #[] = bl [] from rfl, quJ, sl_bl]
 by_cases h0 : t = []
 ·
  rw [decide_eq_true h0, show ∀ y, bo3 true true y = true from fun _ => rfl, cond_true, qBH ?_]
  · rfl
  rintro ⟨j, hj, e, _⟩
  exact qLT hj (e.trans h0)
 rw [decide_eq_false h0, show ∀ y, bo3 false true y = y from fun _ => rfl]
 by_cases hl : t.length ≤ 6000
 ·
  rw [decide_eq_false (by omega), cond_false]
  unfold qQ.f
  by_cases h : ∃ j, jsonB j = true ∧ encF 6 j = t ∧ t.length ≤ 6000
  ·
   obtain ⟨j, e, hj, rfl, _⟩ := qrH h
   have hsz : sizeF 6 j ≤ 400 := by unfold jsonB at hj; exact of_decide_eq_true hj
   have hv := qeK (encF 6 j) (by omega) 20 6 j (by omega) (by omega) hsz 0 400 [] (by simp) (fun c hc => by cases hc) (by omega) (by omega)
   rw [show ((0 : Nat) : Int) = 0 from rfl, show ((6 : Nat) : Int) = 6 from rfl, Nat.zero_add] at hv
   rw [hv, bd, e]
   dsimp only
   rw [decide_eq_false (p := ((encF 6 j).length : Int) ≠ ((encF 6 j).length : Int)) (by simp), show bo3 (bo3 (bo3 true false true) true false) false true = true from rfl, qHB, qhC j (qcK hj), bd, show encL j = encF 6 j from if_pos ⟨hj, hl⟩, qTI, decide_eq_true rfl]
   rfl
  rw [qBH h]
  obtain ⟨i', ok', left', j, e, _, _, _, _, _, hw⟩ := qmN t (by omega) 20 6 (by omega) (by omega) 0 true 400 (Nat.zero_le _) (by omega) (by omega)
  rw [show ((0 : Nat) : Int) = 0 from rfl, show ((6 : Nat) : Int) = 6 from rfl] at e
  rw [e, bd]
  dsimp only
  generalize bo3 (bo3 ok' false true) true (decide ((i' : Int) ≠ (t.length : Int))) = B
  cases B with
  | true => rfl
  | false =>
   rw [show bo3 false false true = true from rfl, qHB, qhC j hw, bd, qTI, decide_eq_false ?_]
   · rfl
   unfold encL
   split
   · rename_i hh; exact fun e => h ⟨j, hh.1, e, hl⟩
   exact fun e => h0 e.symm
 rw [decide_eq_true (by omega), cond_true, qBH (fun ⟨j, _, _, h⟩ => hl h)]
 rfl
theorem qfK (code : List Int) (hl : (code.length : Int) ≤ 1048576) : ∃ s, qRC.f code = some s ∧ s.size ≤ 100 := by
 unfold qRC.f
 obtain ⟨h0, e0, k0⟩ := qSK code hl
 rw [qv e0, Option.bind_some]
 obtain ⟨i1, h1, x, e, k, m⟩ := qyE (l := [(ByteArray.mk #[]), (ByteArray.mk #[97]), (ByteArray.mk #[10]), (ByteArray.mk #[127]), (ByteArray.mk #[97, 34, 98]), (ByteArray.mk #[48, 49, 50, 51, 52, 53, 54, 55, 56, 57, 48, 49, 50, 51, 52, 53, 54, 55, 56, 57, 48, 49, 50, 51, 52, 53, 54, 55, 56, 57, 48, 49, 50, 51, 52, 53, 54, 55, 56, 57, 48, 49, 50, 51, 52, 53, 54, 55, 56, 57, 48, 49, 50, 51, 52, 53, 54, 55, 56, 57]), (ByteArray.mk #[48, 49, 50, 51, 52, 53, 54, 55, 56, 57, 48, 49, 50, 51, 52, 53, 54, 55, 56, 57, 48, 49, 50, 51, 52, 53, 54, 55, 56, 57, 48, 49, 50, 51, 52, 53, 54, 55, 56, 57, 48, 49, 50, 51, 52, 53, 54, 55, 56, 57, 48, 49, 50, 51, 52, 53, 54, 55, 56, 57, 48])]) h0 (by simp) k0
 have hx : x.size ≤ 100 := by
  clear e
  simp only [List.mem_cons, List.not_mem_nil, or_false] at m
  rcases m with rfl | rfl | rfl | rfl | rfl | rfl | rfl <;> decide
 rw [qv e]
 exact ⟨_, rfl, hx⟩
theorem qFM (code : List Int) (hl : (code.length : Int) ≤ 1048576) : ∃ s, qKC.f code = some s ∧ s.size ≤ 100 := by
 unfold qKC.f
 obtain ⟨s, e, h⟩ := qfK code hl
 rw [qv e]
 exact ⟨s, rfl, h⟩
def orJ (j : Json) : Json := if jsonB j = true then j else nullJ
theorem qNJ (j : Json) (h : Jw j) : qmD.f j = some (orJ j) := by
 unfold qmD.f orJ
 rw [qBE j h, Option.bind_some, qSD]
 cases jsonB j <;> rfl
theorem Jw_dr {k n : Int} {s : ByteArray} {l : List Json} {ns : List ByteArray} (h1 : (s.size : Int) ≤ 4611686018427387904) (h2 : ∀ x ∈ ns, (x.size : Int) ≤ 4611686018427387904) (h3 : ns.length ≤ 1000) (h4 : l.length ≤ 1000) (h5 : ∀ x ∈ l, Jw x) : Jw ⟨k, n, s, l, ns⟩ :=
 (Jw_eq _).2 ⟨h1, h2, by show (ns.length : Int) ≤ _; omega, by show (l.length : Int) ≤ _; omega, h5⟩
def textJ (s : ByteArray) : Json := ⟨3, 0, s, [], []⟩
theorem qnN {s : ByteArray} (h : s.size ≤ 10000) : Jw (textJ s) := Jw_dr (by omega) (by simp) (by simp) (by simp) (by simp)
def txF (s : ByteArray) : Json := if jsonB (textJ s) = true then textJ s else nullJ
theorem qTU : Jw nullJ := Jw_dr (by decide) (by simp) (by simp) (by simp) (by simp)
theorem txF_w {s : ByteArray} (h : s.size ≤ 10000) : Jw (txF s) := by
 unfold txF
 split
 · exact qnN h
 exact qTU
theorem qxF (s : ByteArray) (h : s.size ≤ 10000) : qCD.f s = some (txF s) := by
 unfold qCD.f txF
 rw [show Json.mk 3 0 s [] [] = textJ s from rfl, quF _ (qnN h), Option.bind_some]
 cases jsonB (textJ s) <;> rfl
theorem qOJ (s : ByteArray) (h : s.size ≤ 10000) : qnD.f s = some (txF s) := by
 unfold qnD.f txF
 rw [show Json.mk 3 0 s [] [] = textJ s from rfl, qNJ _ (qnN h), Option.bind_some]
 rfl
theorem qgK (s : ByteArray) (h : s.size ≤ 10000) : qfD.f s = some (bl (encL (txF s))) := by
 unfold qfD.f
 rw [qOJ s h, Option.bind_some, qgC _ (txF_w h), Option.bind_some]
theorem qhK (s : ByteArray) (h : s.size ≤ 10000) : qgD.f s = some (bl (encL (txF s))) := by
 unfold qgD.f
 rw [qxF s h, Option.bind_some, qhC _ (txF_w h), Option.bind_some]
theorem qoN (l : List Int) : qaG.f l = some (decide (1048576 < (l.length : Int))) := by unfold qaG.f; rw [qt]
theorem qjQ {b : List Int} {i : Int} (h : Int) (n : Int) (hc : CI b i) : ∃ i' h' x, qoD.f (l1Cur.mk b i h) n = some (l1Cur.mk b i' h', x) ∧ CI b i' := by
 unfold qoD.f
 obtain ⟨i1, h1, x1, e1, k1, _⟩ := qlB h n hc
 rw [e1, Option.bind_some]
 exact ⟨_, _, _, rfl, k1⟩
theorem qaS (J : Json) (n : ByteArray) (x : Json) (K : List Json → List ByteArray → Bool → Option Json) : ∀ (k : Nat) (L : List Json) (N : List ByteArray) (p : Bool) (i : Int), qKB.l0 J n x K k L N p i = qJB.l0 J n x K k L N p i := by
 intro k
 induction k with
 | zero => intros; rfl
 | succ k ih =>
  intro L N p i
  rw [qKB.l0, qJB.l0]
  simp only [ih]
theorem put_w (J : Json) (n : ByteArray) (x : Json) : qKB.f J n x = qJB.f J n x := by
 unfold qKB.f qJB.f
 simp only [qaS]
theorem qyT (a : l1Cur) (d : Int) : ∀ (k : Nat) (i h : Int) (L : List Json) (n : Int), qO.l0 a d k i h L n = qF.l0 a d qF.f k i h L n := by
 intro k
 induction k with
 | zero => intros; rfl
 | succ k ih =>
  intro i h L n
  rw [qO.l0, qF.l0]
  simp only [ih]
theorem qzT (a : l1Cur) (d : Int) : ∀ (k : Nat) (i h kk nn : Int) (s : ByteArray) (L : List Json) (N : List ByteArray) (n : Int), qO.l1 a d k i h kk nn s L N n = qF.l1 a d qF.f k i h kk nn s L N n := by
 intro k
 induction k with
 | zero => intros; rfl
 | succ k ih =>
  intro i h kk nn s L N n
  rw [qO.l1, qF.l1]
  simp only [ih, put_w]
theorem dr_w (a : l1Cur) (d : Int) : qO.f a d = qF.b qF.f a d := by
 unfold qO.f qF.b
 simp only [qyT, qzT]
theorem qbI : SelfD qO.f 4 := by
 intro b i h hc
 rw [dr_w]
 exact drawB _ 4 (fun _ => by rw [qIB (by omega)]; exact drawG 19 3 (by omega) (by omega) (by omega)) b i h hc
theorem ld_l0 (a : l1Cur) (r : l1Cur × Int) (hc : CI a.b r.1.i) : ∀ (k i : Nat) (kk nn : Int) (s : ByteArray) (L : List Json) (N : List ByteArray), i ≤ 5 → 5 < i + k → Jw ⟨kk, nn, s, L, N⟩ → ∃ i' h' j', qnB.l0 a r k kk nn s L N i = some (l1Cur.mk a.b i' h', j') ∧ CI a.b i' ∧ Jw j' := by
 intro k
 induction k with
 | zero => intro i kk nn s L N h h'; omega
 | succ k ih =>
  intro i kk nn s L N h h' hj
  rw [qnB.l0]
  by_cases c : (i : Int) < 5
  ·
   rw [decide_eq_true c, cond_true, Option.bind_some, qq (by omega)]
   exact ih (i + 1) 4 0 ByteArray.empty [⟨kk, nn, s, L, N⟩] [] (by omega) (by omega) (Jw_dr (by decide) (by simp) (by simp) (by simp) (fun x hx => by rw [List.mem_singleton.1 hx]; exact hj))
  rw [decide_eq_false c, cond_false]
  exact ⟨_, _, _, rfl, hc, hj⟩
theorem qkQ {b : List Int} {i : Int} (h : Int) (hc : CI b i) : ∃ i' h' j, qnB.f (l1Cur.mk b i h) = some (l1Cur.mk b i' h', j) ∧ CI b i' ∧ Jw j := by
 unfold qnB.f
 obtain ⟨i1, h1, j, e1, k1, hj, hn, hl⟩ := qbI b i h hc
 obtain ⟨jk, jn, js, jl, jm⟩ := j
 rw [qv e1]
 dsimp only at hn hl ⊢
 have hj' := (Jw_eq _).1 hj
 dsimp only at hj'
 obtain ⟨q1, q2, q3, q4, q5⟩ := hj'
 obtain ⟨i2, h2, x2, e2, k2, _⟩ := qlB h1 20 k1
 rw [qv e2]
 dsimp only
 by_cases c0 : x2 = 0
 ·
  obtain ⟨i3, h3, x3, e3, k3, _⟩ := qlB h2 8 k2
  rw [decide_eq_true c0, cond_true, qv e3]
  exact ⟨_, _, _, rfl, k3, Jw_dr q1 q2 (by omega) (by omega) q5⟩
 rw [decide_eq_false c0, cond_false]
 by_cases c1 : x2 = 1
 ·
  obtain ⟨i3, h3, x3, e3, k3, _⟩ := qQH (l := [1, 2, (-1), 1000000001]) h2 (by simp) k2
  rw [decide_eq_true c1, cond_true, Option.bind_some, qv e3]
  exact ⟨_, _, _, rfl, k3, Jw_dr q1 q2 (by omega) (by omega) q5⟩
 rw [decide_eq_false c1, cond_false]
 by_cases c2 : x2 = 2
 ·
  obtain ⟨i3, h3, x3, e3, k3, m⟩ := qyE (l := [(ByteArray.mk #[120]), (ByteArray.mk #[1]), (ByteArray.mk #[127])]) h2 (by simp) k2
  have hx : (x3.size : Int) ≤ 4611686018427387904 := by
   clear e3
   simp only [List.mem_cons, List.not_mem_nil, or_false] at m
   rcases m with rfl | rfl | rfl <;> decide
  rw [decide_eq_true c2, cond_true, Option.bind_some, qv e3]
  exact ⟨_, _, _, rfl, k3, Jw_dr hx q2 (by omega) (by omega) q5⟩
 rw [decide_eq_false c2, cond_false]
 by_cases c3 : x2 = 3
 ·
  rw [decide_eq_true c3, cond_true, Option.bind_some, qeB (by simp only [List.length_cons, List.length_nil]; omega), Option.bind_some]
  exact ⟨_, _, _, rfl, k2, Jw_dr q1 (snocJ q2 (by decide)) (by simp; omega) (by omega) q5⟩
 rw [decide_eq_false c3, cond_false]
 by_cases c4 : x2 = 4
 ·
  rw [decide_eq_true c4, cond_true]
  exact ld_l0 (l1Cur.mk b i h) (l1Cur.mk b i2 h2, x2) k2 _ 0 jk jn js jl jm (by omega) (by decide) hj
 rw [decide_eq_false c4, cond_false]
 by_cases c5 : x2 = 5
 ·
  obtain ⟨i3, h3, x3, e3, k3, l3, u3, _⟩ := qlB h2 2 k2
  have := u3 (by omega)
  rw [decide_eq_true c5, cond_true, qv e3]
  dsimp only
  rw [qIB (by omega), qPU (by omega), Option.bind_some]
  exact ⟨_, _, _, rfl, k3, Jw_dr (by decide) (by simp) (by simp) (by rw [List.length_replicate]; omega) (fun x hx => by
   rw [List.eq_of_mem_replicate hx]
   exact Jw_dr (by decide) (by simp) (by simp) (by simp) (by simp))⟩
 rw [decide_eq_false c5, cond_false]
 exact ⟨_, _, _, rfl, k2, hj⟩
theorem de_l0 : ∀ (k i : Nat) (L : List Json), i ≤ 120 → 120 < i + k → L.length = i → (∀ x ∈ L, Jw x) → ∃ j, qEB.l0 k L i = some j ∧ Jw j := by
 intro k
 induction k with
 | zero => intro i L h h'; omega
 | succ k ih =>
  intro i L h h' hl hx
  rw [qEB.l0]
  by_cases c : (i : Int) < 120
  ·
   rw [decide_eq_true c, cond_true, qxF _ (by decide), Option.bind_some, Option.bind_some, qeB (by simp only [List.length_cons, List.length_nil]; omega), Option.bind_some, qq (by omega)]
   exact ih (i + 1) _ (by omega) (by omega) (by simp [hl]) (snocJ hx (txF_w (by decide)))
  rw [decide_eq_false c, cond_false]
  exact ⟨_, rfl, Jw_dr (by decide) (by simp) (by simp) (by omega) hx⟩
theorem qiK (code : List Int) (hl : (code.length : Int) ≤ 1048576) : ∃ j, qEB.f code = some j ∧ Jw j := by
 unfold qEB.f
 obtain ⟨h0, e0, k0⟩ := qSK code hl
 rw [qv e0, qP]
 obtain ⟨i1, h1, x1, e1, k1⟩ := qjQ h0 60 k0
 rw [qv e1]
 dsimp only
 cases x1 with
 | true =>
  rw [cond_true]
  exact de_l0 _ 0 [] (by omega) (by decide) rfl (by simp)
 | false =>
  rw [cond_false]
  obtain ⟨i2, h2, j, e2, _, hj⟩ := qkQ h1 k1
  rw [qv e2]
  exact ⟨j, rfl, hj⟩
theorem qKE (s w : List UInt8) : qy.f (bl s) (bl w) = some (if w.isPrefixOf s = true then (bl (s.drop w.length), true) else (bl s, false)) := by
 unfold qy.f
 rw [qpC, bd, qSD]
 cases h : w.isPrefixOf s with
 | false => rfl
 | true =>
  rw [qdG, decide_eq_true_eq] at h
  rw [Bool.not_true, cond_false, sl_bl, sl_bl, qTD h.1 (Nat.le_refl _), bd, ss_bl, if_pos rfl, List.take_of_length_le (Nat.le_refl _)]
theorem qiF (s w : List UInt8) : qCC.f (bl s) (bl w) = some (if w.isPrefixOf s = true then (bl (s.drop w.length), true) else (bl s, false)) := by
 unfold qCC.f
 rw [qKE, bd]
theorem qGD (s : List UInt8) (b : Bool) (w : List UInt8) : qS.f ⟨bl s, b⟩ (bl w) = some (if w.isPrefixOf s = true then (⟨bl (s.drop w.length), b⟩, !b) else (⟨bl s, b⟩, false)) := by
 unfold qS.f
 rw [qiF, bd]
 cases w.isPrefixOf s with
 | false => rfl
 | true => cases b <;> rfl
theorem qAB (w s : List UInt8) : qS.f ⟨bl (w ++ s), false⟩ (bl w) = some (⟨bl s, false⟩, true) := by
 rw [qGD, if_pos (qjN w s), List.drop_left]; rfl
theorem qd {a c : UInt8} (w s : List UInt8) (b : Bool) (h : a ≠ c) : qS.f ⟨bl (c :: s), b⟩ (bl (a :: w)) = some (⟨bl (c :: s), b⟩, false) := by
 rw [qGD, if_neg (by rw [qJT h]; simp)]
theorem qNB (s : List UInt8) (b : Bool) (a : UInt8) (w : List UInt8) : ∃ (s' : List UInt8) (c : Bool), qS.f ⟨bl s, b⟩ (bl (a :: w)) = some (⟨bl s', b⟩, c) ∧ s'.length ≤ s.length ∧ (c = true → s'.length < s.length) := by
 rw [qGD]
 split
 ·
  rename_i h
  rw [qdG, decide_eq_true_eq, List.length_cons] at h
  exact ⟨_, _, rfl, by rw [List.length_drop]; omega, fun _ => by rw [List.length_drop, List.length_cons]; omega⟩
 exact ⟨s, false, rfl, Nat.le_refl _, fun h => by cases h⟩
theorem qzB (s w : List UInt8) : qDC.f (bl s) (bl w) = some (w.isPrefixOf s) := by
 unfold qDC.f
 rw [qpC, bd]
theorem qWC (w s : List UInt8) : qFB.f ⟨bl (w ++ s), false⟩ (bl w) = some ⟨bl s, false⟩ := by
 unfold qFB.f
 rw [qAB, bd]; rfl
theorem qCE (s : List UInt8) (b : Bool) (a : UInt8) (w : List UInt8) : ∃ (s' : List UInt8) (b' : Bool), qFB.f ⟨bl s, b⟩ (bl (a :: w)) = some ⟨bl s', b'⟩ ∧ s'.length ≤ s.length := by
 unfold qFB.f
 obtain ⟨s', c, e, h, _⟩ := qNB s b a w
 rw [e, bd]
 cases c with
 | true => exact ⟨s', b, rfl, h⟩
 | false => exact ⟨s', true, rfl, h⟩
theorem qUU : ∀ (k : Nat) (s : List UInt8) (b : Bool) (acc : List UInt8), s.length < k → acc.length + s.length ≤ 10000000 → ∃ (s' : List UInt8) (b' : Bool) (q : List UInt8), qT.l0 k (bl s) b (chs acc) = some (⟨bl s', b'⟩, bl q) ∧ s'.length ≤ s.length ∧ q.length ≤ acc.length + s.length := by
 intro k
 induction k with
 | zero => intro s b acc h; omega
 | succ k ih =>
  intro s b acc h1 h2
  rw [qT.l0, qSD]
  cases b with
  | true => exact ⟨s, true, [], rfl, Nat.le_refl _, Nat.zero_le _⟩
  | false =>
   rw [Bool.not_false, cond_true]
   obtain ⟨s1, c1, e1, l1, _⟩ := qNB s false 34 []
   rw [show ByteArray.mk #[34] = bl [34] from rfl, e1, bd]
   cases c1 with
   | true => exact ⟨s1, false, acc, by rw [cond_true, bd, qzG], l1, by omega⟩
   | false =>
    rw [cond_false]
    obtain ⟨s2, c2, e2, l2, _⟩ := qNB s1 false 92 []
    rw [show ByteArray.mk #[92] = bl [92] from rfl, e2, bd]
    dsimp only
    rw [show ByteArray.mk #[] = bl [] from rfl, quJ]
    cases s2 with
    | nil => exact ⟨[], true, [], rfl, Nat.zero_le _, Nat.zero_le _⟩
    | cons c s2 =>
     simp only [List.length_cons] at l2
     have hz : (0 : Int) = ((0 : Nat) : Int) := rfl
     rw [decide_eq_false (by simp), cond_false, hz, qwD (by simp), bd, sx_bl (b := c) (by rfl), bd, qzD (by omega), bd, sl_bl, show (1 : Int) = ((1 : Nat) : Int) from rfl, qTD (by simp) (Nat.le_refl _), bd, ss_bl, List.take_of_length_le (Nat.le_refl _)]
     obtain ⟨s3, b3, q3, e3, l3, m3⟩ := ih s2 false (acc ++ [c]) (by omega) (by rw [List.length_append, List.length_singleton]; omega)
     refine ⟨s3, b3, q3, e3, by omega, by rw [List.length_append, List.length_singleton] at m3; omega⟩
theorem qfE (s : List UInt8) (b : Bool) (h : s.length ≤ 1000000) : ∃ (s' : List UInt8) (b' : Bool) (q : List UInt8), qT.f ⟨bl s, b⟩ = some (⟨bl s', b'⟩, bl q) ∧ s'.length ≤ s.length ∧ q.length ≤ s.length := by
 unfold qT.f
 obtain ⟨s1, b1, e1, l1⟩ := qCE s b 34 []
 rw [show ByteArray.mk #[34] = bl [34] from rfl, e1, bd]
 obtain ⟨s2, b2, q, e2, l2, m2⟩ := qUU (s.length + 2) s1 b1 [] (by omega) (by simp; omega)
 exact ⟨s2, b2, q, e2, by omega, by rw [List.length_nil] at m2; omega⟩
theorem qbS (rest : List UInt8) : ∀ (q : List UInt8) (k : Nat) (acc : List UInt8), q.length < k → acc.length + q.length ≤ 10000000 → qT.l0 k (bl (q.flatMap escC ++ 34 :: rest)) false (chs acc) = some (⟨bl rest, false⟩, bl (acc ++ q)) := by
 intro q
 induction q with
 | nil =>
  intro k acc h1 h2
  cases k with
  | zero => simp at h1
  | succ k =>
   rw [qT.l0, show bo3 false false true = true from rfl, cond_true, show ByteArray.mk #[34] = bl [34] from rfl]
   have := qAB [34] rest
   rw [show ([34] : List UInt8) ++ rest = 34 :: rest from rfl] at this
   rw [show ([] : List UInt8).flatMap escC ++ 34 :: rest = 34 :: rest from rfl, this, bd, cond_true, bd, qzG, List.append_nil]
 | cons c q ih =>
  intro k acc h1 h2
  cases k with
  | zero => simp at h1
  | succ k =>
   simp only [List.length_cons] at h1 h2
   rw [qT.l0, show bo3 false false true = true from rfl, cond_true, show ByteArray.mk #[34] = bl [34] from rfl, show ByteArray.mk #[92] = bl [92] from rfl, List.flatMap_cons]
   have fin : ∀ r : List UInt8, r = q.flatMap escC ++ 34 :: rest → (bif (Ls.sc .eql (bl (c :: r)) (ByteArray.mk #[])) then (some ((reader.mk (bl (c :: r)) true), (ByteArray.mk #[]))) else ((inS (bl (c :: r)) 0).bind fun u14 => (some [(Ls.sx (bl (c :: r)) 0)]).bind fun l15 => (appO 1 (chs acc) l15).bind fun l16 => (cutS (bl (c :: r)) 1 (Ls.sl (bl (c :: r)))).bind fun u17 => qT.l0 k (Ls.ss (bl (c :: r)) 1 (Ls.sl (bl (c :: r)))) false l16)) = some (⟨bl rest, false⟩, bl (acc ++ c :: q)) := by
    intro r hr
    have hz : (0 : Int) = ((0 : Nat) : Int) := rfl
    rw [show ByteArray.mk #[] = bl [] from rfl, quJ, decide_eq_false (by simp), cond_false, hz, qwD (by simp), bd, sx_bl (b := c) (by rfl), bd, qzD (by omega), bd, sl_bl, show (1 : Int) = ((1 : Nat) : Int) from rfl, qTD (by simp) (Nat.le_refl _), bd, ss_bl, List.take_of_length_le (Nat.le_refl _), show (c :: r).drop 1 = r from rfl, hr, ih k (acc ++ [c]) (by omega) (by rw [List.length_append, List.length_singleton]; omega), List.append_assoc]
    rfl
   by_cases hc : c = 34 ∨ c = 92
   ·
    rw [show escC c = [92, c] from if_pos hc, show ([92, c] ++ q.flatMap escC) ++ 34 :: rest = 92 :: (c :: (q.flatMap escC ++ 34 :: rest)) by simp, qd [] _ false (show (34 : UInt8) ≠ 92 by decide), bd, cond_false]
    have := qAB [92] (c :: (q.flatMap escC ++ 34 :: rest))
    rw [show ([92] : List UInt8) ++ (c :: (q.flatMap escC ++ 34 :: rest)) = 92 :: (c :: (q.flatMap escC ++ 34 :: rest)) from rfl] at this
    rw [this, bd]
    exact fin _ rfl
   have h34 : (34 : UInt8) ≠ c := fun e => hc (.inl e.symm)
   have h92 : (92 : UInt8) ≠ c := fun e => hc (.inr e.symm)
   rw [show escC c = [c] from if_neg hc, show ([c] ++ q.flatMap escC) ++ 34 :: rest = c :: (q.flatMap escC ++ 34 :: rest) by simp, qd [] _ false h34, bd, cond_false, qd [] _ false h92, bd]
   exact fin _ rfl
theorem qlC (q rest : List UInt8) (h : q.length ≤ 1000000) : qT.f ⟨bl (quoteL q ++ rest), false⟩ = some (⟨bl rest, false⟩, bl q) := by
  unfold qT.f
  have := qWC [34] (q.flatMap escC ++ 34 :: rest)
  have e : ([34] : List UInt8) ++ (q.flatMap escC ++ 34 :: rest) = quoteL q ++ rest := by simp [quoteL]
  rw [e] at this
  rw [show ByteArray.mk #[34] = bl [34] from rfl, this, bd]
  have hl : q.length ≤ (q.flatMap escC).length := by
    clear this e h
    induction q with
    | nil => exact Nat.le_refl _
    | cons c q ih => rw [List.flatMap_cons, List.length_append, List.length_cons]; have : 1 ≤ (escC c).length := by unfold escC; split <;> simp
                     omega
  exact qbS rest q ((bl (quoteL q ++ rest)).size + 2) [] (by rw [qEC, List.length_append]; simp only [quoteL, List.length_cons, List.length_append]; omega) (by simp; omega)
def NoDig (r : List UInt8) : Prop := ∀ c ∈ r.head?, c.toNat < 48 ∨ 57 < c.toNat
def digAt (s : List UInt8) (i : Nat) : Bool := match s[i]? with
 | some c => decide (48 ≤ c.toNat ∧ c.toNat ≤ 57) || (decide (i = 0) && decide (c.toNat = 45))
 | none => false
theorem qlQ (s : List UInt8) (b : Bool) (hs : s.length ≤ 10000000) (K : Int → Option (reader × Json)) (k i : Nat) (hi : i ≤ s.length) : qR.l0 ⟨bl s, b⟩ K (k + 1) (i : Int) = bif digAt s i then qR.l0 ⟨bl s, b⟩ K k ((i + 1 : Nat) : Int) else K (i : Int) := by
 rw [qR.l0]
 dsimp only
 rw [sl_bl]
 by_cases h : i < s.length
 ·
  have hx := List.getElem?_eq_getElem h
  have hb : (s[i]).toNat < 256 := UInt8.toNat_lt _
  have h0 : ∀ B : Bool, (gd B (inS (bl s) 0) : Option Unit) = some () := fun B => by
   cases B with
   | false => rfl
   | true => rw [qHB, show (0 : Int) = ((0 : Nat) : Int) from rfl, qwD (by omega)]
  rw [decide_eq_true (by omega), qHB, qwD h, bd, qHB, sx_bl hx, qIB (by omega), qFD, bd, h0, bd]
  unfold digAt
  rw [hx]
  dsimp only
  have e1 : decide (48 ≤ ((s[i]).toNat : Int) ∧ ((s[i]).toNat : Int) ≤ 57) = decide (48 ≤ (s[i]).toNat ∧ (s[i]).toNat ≤ 57) := by
   rw [decide_eq_decide]; omega
  rw [e1, qq (by omega), show ∀ y, bo3 true y false = y from fun _ => rfl]
  by_cases hz : i = 0
  ·
   subst hz
   have e2 : Ls.sx (bl s) 0 = ((s[0]).toNat : Int) := sx_bl (i := 0) hx
   have e3 : decide (Ls.sx (bl s) 0 = 45) = decide ((s[0]).toNat = 45) := by rw [e2, decide_eq_decide]; omega
   rw [e3]
   rw [show decide (((0 : Nat) : Int) = 0) = true from rfl, show decide ((0 : Nat) = 0) = true from rfl]
   cases decide (48 ≤ (s[0]).toNat ∧ (s[0]).toNat ≤ 57) <;> cases decide ((s[0]).toNat = 45) <;> rfl
  rw [decide_eq_false (p := (i : Int) = 0) (by omega), decide_eq_false hz]
  cases decide (48 ≤ (s[i]).toNat ∧ (s[i]).toNat ≤ 57) <;> rfl
 rw [decide_eq_false (by omega)]
 have : digAt s i = false := by unfold digAt; rw [List.getElem?_eq_none (by omega)]
 rw [this]
 rfl
theorem qVU (s : List UInt8) (b : Bool) (hs : s.length ≤ 10000000) (K : Int → Option (reader × Json)) : ∀ (k i : Nat), i ≤ s.length → s.length < i + k → ∃ n : Nat, qR.l0 ⟨bl s, b⟩ K k (i : Int) = K (n : Int) ∧ n ≤ s.length := by
 intro k
 induction k with
 | zero => intro i h1 h2; omega
 | succ k ih =>
  intro i h1 h2
  rw [qlQ s b hs K k i h1]
  cases hd : digAt s i with
  | false => exact ⟨i, rfl, h1⟩
  | true =>
   have : i < s.length := by
    unfold digAt at hd
    split at hd
    · rename_i c hc; exact at_lt hc
    cases hd
   exact ih (i + 1) (by omega) (by omega)
theorem qiO (s : List UInt8) (b : Bool) (hs : s.length ≤ 10000000) (K : Int → Option (reader × Json)) (m : Nat) (hm : m ≤ s.length) (h1 : ∀ i, i < m → digAt s i = true) (h2 : digAt s m = false) : ∀ (k i : Nat), i ≤ m → m < i + k → qR.l0 ⟨bl s, b⟩ K k (i : Int) = K (m : Int) := by
 intro k
 induction k with
 | zero => intro i h; omega
 | succ k ih =>
  intro i hi hk
  rw [qlQ s b hs K k i (by omega)]
  by_cases c : i = m
  · rw [c, h2, cond_false]
  rw [h1 i (by omega), cond_true]
  exact ih (i + 1) (by omega) (by omega)
theorem qaH (s : List UInt8) (b : Bool) (hs : s.length ≤ 10000000) : ∃ (s' : List UInt8) (b' : Bool) (v : Int), qR.f ⟨bl s, b⟩ = some (⟨bl s', b'⟩, ⟨2, v, ByteArray.empty, [], []⟩) ∧ s'.length ≤ s.length := by
 unfold qR.f
 rw [qP, sl_bl]
 obtain ⟨n, e, hn⟩ := qVU s b hs (fun (y1 : Int) =>
  (cutS (bl s) 0 y1).bind fun u40 =>
  (qFC.f (Ls.ss (bl s) 0 y1)).bind fun r41 =>
  bif r41.2 then (
  bif false then (
  none)
  else (
  (cutS (bl s) y1 (s.length : Int)).bind fun u44 =>
  some ((reader.mk (Ls.ss (bl s) y1 (s.length : Int)) b), (Json.mk 2 r41.1 ByteArray.empty [] []))))
  else (
  bif true then (
  (cutS (bl s) y1 (s.length : Int)).bind fun u46 =>
  some ((reader.mk (Ls.ss (bl s) y1 (s.length : Int)) true), (Json.mk 2 r41.1 ByteArray.empty [] [])))
  else (
  none))) (((s.length : Int) - 0).toNat + 1) 0 (Nat.zero_le _) (by omega)
 have hz : (0 : Int) = ((0 : Nat) : Int) := rfl
 have hcut : cutS (bl s) (n : Int) (s.length : Int) = some () := qTD hn (Nat.le_refl _)
 have hss : Ls.ss (bl s) (n : Int) (s.length : Int) = bl (s.drop n) := by rw [ss_bl, List.take_of_length_le (Nat.le_refl _)]
 have ha : qFC.f (Ls.ss (bl s) 0 (n : Int)) = some (numOf (s.take n)) := by
  rw [hz, ss_bl, List.drop_zero]
  exact qbK (by rw [List.length_take]; omega)
 have hc0 : cutS (bl s) 0 (n : Int) = some () := by rw [hz]; exact qTD (Nat.zero_le _) hn
 refine ⟨s.drop n, (bif (numOf (s.take n)).2 then b else true), (numOf (s.take n)).1, e.trans ?_, by rw [List.length_drop]; omega⟩
 rw [hc0, bd, ha, bd, hcut, hss]
 cases (numOf (s.take n)).2 <;> rfl
theorem qjK (v : Int) : 0 < (Lib.itoa v).length := by
 obtain ⟨c, r, e, _⟩ := qZD v.natAbs
 unfold Lib.itoa
 split
 · simp
 rw [show v.toNat = v.natAbs by omega, e]; simp
theorem qcS (v : Int) (rest : List UInt8) (i : Nat) (h : i < (Lib.itoa v).length) : digAt (Lib.itoa v ++ rest) i = true := by
 unfold digAt
 rw [List.getElem?_append_left h, List.getElem?_eq_getElem h]
 dsimp only
 by_cases hv : v < 0
 ·
  have e : Lib.itoa v = 45 :: Lib.decDigits v.natAbs := if_pos hv
  cases i with
  | zero =>
   have : (Lib.itoa v)[0] = 45 := by simp [e]
   rw [this]; rfl
  | succ i =>
   have hm : (Lib.itoa v)[i + 1] ∈ Lib.decDigits v.natAbs := by simp [e]
   rw [decide_eq_true (qyG _ _ hm)]; rfl
 have e : Lib.itoa v = Lib.decDigits v.toNat := if_neg hv
 have hm : (Lib.itoa v)[i] ∈ Lib.decDigits v.toNat := by
  have := List.getElem_mem h
  rw [← e]; exact this
 rw [decide_eq_true (qyG _ _ hm)]; rfl
theorem qdS (v : Int) (rest : List UInt8) (hr : NoDig rest) : digAt (Lib.itoa v ++ rest) (Lib.itoa v).length = false := by
 unfold digAt
 rw [List.getElem?_append_right (Nat.le_refl _), Nat.sub_self]
 have hp := qjK v
 cases rest with
 | nil => rfl
 | cons c r =>
  have := hr c rfl
  show (decide (48 ≤ c.toNat ∧ c.toNat ≤ 57) || (decide ((Lib.itoa v).length = 0) && decide (c.toNat = 45))) = false
  rw [decide_eq_false (by omega), decide_eq_false (p := (Lib.itoa v).length = 0) (by omega)]
  rfl
theorem qMG {v : Int} (hv : -1000000000 ≤ v ∧ v ≤ 1000000000) (rest : List UInt8) (hr : NoDig rest) (hs : (Lib.itoa v ++ rest).length ≤ 10000000) : qR.f ⟨bl (Lib.itoa v ++ rest), false⟩ = some (⟨bl rest, false⟩, ⟨2, v, ByteArray.empty, [], []⟩) := by
 unfold qR.f
 rw [qP, sl_bl]
 have hm : (Lib.itoa v).length ≤ (Lib.itoa v ++ rest).length := by rw [List.length_append]; omega
 refine (qiO (Lib.itoa v ++ rest) false hs _ (Lib.itoa v).length hm (qcS v rest) (qdS v rest hr) _ 0 (Nat.zero_le _) (by omega)).trans ?_
 have hz : (0 : Int) = ((0 : Nat) : Int) := rfl
 have hcut : cutS (bl (Lib.itoa v ++ rest)) ((Lib.itoa v).length : Int) ((Lib.itoa v ++ rest).length : Int) = some () := qTD hm (Nat.le_refl _)
 have hss : Ls.ss (bl (Lib.itoa v ++ rest)) ((Lib.itoa v).length : Int) ((Lib.itoa v ++ rest).length : Int) = bl rest := by rw [ss_bl, List.take_of_length_le (Nat.le_refl _), List.drop_left]
 have ha : qFC.f (Ls.ss (bl (Lib.itoa v ++ rest)) 0 ((Lib.itoa v).length : Int)) = some (v, true) := by
  rw [hz, ss_bl, List.drop_zero, List.take_left]
  have := qwJ hv
  have e : qFC.f (bl (Lib.itoa v)) = some (numOf (Lib.itoa v)) := qbK (by omega)
  rw [e, qNP (by omega)]
 have hc0 : cutS (bl (Lib.itoa v ++ rest)) 0 ((Lib.itoa v).length : Int) = some () := by rw [hz]; exact qTD (Nat.zero_le _) hm
 rw [hc0, bd, ha, bd, hcut, hss]
 rfl
def SelfTot (self : reader → Int → Option (reader × Json)) (d : Int) : Prop := ∀ (s : List UInt8) (b : Bool), s.length ≤ 1000000 → ∃ (s' : List UInt8) (b' : Bool) (j : Json), self ⟨bl s, b⟩ d = some (⟨bl s', b'⟩, j) ∧ s'.length ≤ s.length ∧ Jw j
theorem Jw_mk {k n : Int} {s : ByteArray} {l : List Json} {ns : List ByteArray} (h1 : (s.size : Int) ≤ 4611686018427387904) (h2 : ∀ x ∈ ns, (x.size : Int) ≤ 4611686018427387904) (h3 : ns.length ≤ 10000000) (h4 : l.length ≤ 10000000) (h5 : ∀ x ∈ l, Jw x) : Jw ⟨k, n, s, l, ns⟩ :=
 (Jw_eq _).2 ⟨h1, h2, by show (ns.length : Int) ≤ _; omega, by show (l.length : Int) ≤ _; omega, h5⟩
theorem qpN (k n : Int) {s : List UInt8} (h : s.length ≤ 10000000) : Jw ⟨k, n, bl s, [], []⟩ := Jw_mk (by rw [qEC]; omega) (by simp) (by simp) (by simp) (by simp)
theorem qGM (self : reader → Int → Option (reader × Json)) (kind d : Int) (hself : SelfTot self (w64 (d - 1))) (K : ByteArray → Bool → List Json → List ByteArray → Option (reader × Json)) : ∀ (k : Nat) (s : List UInt8) (b : Bool) (js : List Json) (ns : List ByteArray) (more : Bool), 0 < k → (more = true → s.length + 1 < k) → js.length + s.length ≤ 2000000 → ns.length ≤ js.length → s.length ≤ 1000000 → (∀ x ∈ js, Jw x) → (∀ x ∈ ns, (x.size : Int) ≤ 4611686018427387904) → ∃ (s' : List UInt8) (b' : Bool) (js' : List Json) (ns' : List ByteArray), qK.l0 kind d self K k (bl s) b js ns more = K (bl s') b' js' ns' ∧ s'.length ≤ s.length ∧ js'.length ≤ 2000001 ∧ ns'.length ≤ 2000001 ∧ (∀ x ∈ js', Jw x) ∧ (∀ x ∈ ns', (x.size : Int) ≤ 4611686018427387904) := by
 intro k
 induction k with
 | zero => intro s b js ns more h; omega
 | succ k ih =>
  intro s b js ns more _ hk hj hn hs hJ hN
  rw [qK.l0]
  by_cases hg : bo3 more (bo3 b false true) false = true
  ·
   have hm : more = true := by cases more <;> simp_all [bo3]
   have hb : b = false := by cases b <;> cases more <;> simp_all [bo3]
   subst hm hb
   have hk := hk rfl
   rw [hg, cond_true, qP]
   have go : ∀ (s1 : List UInt8) (b1 : Bool) (ns1 : List ByteArray), s1.length ≤ s.length → ns1.length ≤ js.length + 1 → (∀ x ∈ ns1, (x.size : Int) ≤ 4611686018427387904) → ∃ (s' : List UInt8) (b' : Bool) (js' : List Json) (ns' : List ByteArray), ((self (reader.mk (bl s1) b1) (w64 (d - 1))).bind fun r56 =>
     (some [r56.2]).bind fun l57 =>
     (appO 80 js l57).bind fun l58 =>
     (qS.f r56.1 (ByteArray.mk #[44])).bind fun r59 =>
     qK.l0 kind d self K k r59.1.text r59.1.bad l58 ns1 r59.2) = K (bl s') b' js' ns' ∧ s'.length ≤ s.length ∧ js'.length ≤ 2000001 ∧ ns'.length ≤ 2000001 ∧ (∀ x ∈ js', Jw x) ∧ (∀ x ∈ ns', (x.size : Int) ≤ 4611686018427387904) := by
    intro s1 b1 ns1 l1 hn1 hN1
    obtain ⟨s2, b2, j, e2, l2, hj2⟩ := hself s1 b1 (by omega)
    obtain ⟨s3, c3, e3, l3, m3⟩ := qNB s2 b2 44 []
    have hJ2 : ∀ x ∈ js ++ [j], Jw x := fun x hx => (List.mem_append.1 hx).elim (hJ x) (fun h => by rw [List.mem_singleton.1 h]; exact hj2)
    rw [e2, bd, bd, qeB (by simp only [List.length_cons, List.length_nil]; omega), bd, show ByteArray.mk #[44] = bl [44] from rfl, e3, bd]
    cases c3 with
    | true =>
     have m3 := m3 rfl
     obtain ⟨s', b', js', ns', e, a1, a2, a3, a4, a5⟩ := ih s3 b2 (js ++ [j]) ns1 true (by omega) (fun _ => by omega) (by rw [List.length_append, List.length_singleton]; omega) (by rw [List.length_append, List.length_singleton]; omega) (by omega) hJ2 hN1
     exact ⟨s', b', js', ns', e, by omega, a2, a3, a4, a5⟩
    | false =>
     cases k with
     | zero => omega
     | succ k =>
      refine ⟨s3, b2, js ++ [j], ns1, ?_, by omega, by rw [List.length_append, List.length_singleton]; omega, by omega, hJ2, hN1⟩
      dsimp only
      rw [qK.l0]
      rfl
   by_cases hk5 : kind = 5
   ·
    obtain ⟨s1, b1, q, e1, l1, m1⟩ := qfE s false hs
    obtain ⟨s2, b2, e2, l2⟩ := qCE s1 b1 58 []
    rw [decide_eq_true hk5, cond_true, e1, bd, show ByteArray.mk #[58] = bl [58] from rfl, e2, bd, bd, qeB (by simp only [List.length_cons, List.length_nil]; omega), bd]
    exact go s2 b2 _ (by omega) (by rw [List.length_append, List.length_singleton]; omega) (fun x hx => (List.mem_append.1 hx).elim (hN x) (fun h => by rw [List.mem_singleton.1 h, qEC]; omega))
   rw [decide_eq_false hk5, cond_false]
   exact go s false ns (Nat.le_refl _) (by omega) hN
  rw [Bool.not_eq_true] at hg
  rw [hg, cond_false]
  exact ⟨s, b, js, ns, rfl, Nat.le_refl _, by omega, by omega, hJ, hN⟩
theorem qHM (self : reader → Int → Option (reader × Json)) (kind d : Int) (e : UInt8) (hself : SelfTot self (w64 (d - 1))) (s : List UInt8) (b : Bool) (hs : s.length ≤ 1000000) : ∃ (s' : List UInt8) (b' : Bool) (j : Json), qK.f self ⟨bl s, b⟩ kind (bl [e]) d = some (⟨bl s', b'⟩, j) ∧ s'.length ≤ s.length ∧ Jw j := by
 unfold qK.f
 obtain ⟨s1, c1, e1, l1, _⟩ := qNB s b e []
 rw [e1, bd]
 cases c1 with
 | true => exact ⟨s1, b, _, rfl, l1, qpN kind 0 (s := []) (by simp)⟩
 | false =>
  rw [cond_false, qP]
  obtain ⟨s2, b2, js, ns, e2, l2, a1, a2, a3, a4⟩ := qGM self kind d hself (fun (y3 : ByteArray) (y4 : Bool) (y5 : List Json) (y6 : List ByteArray) =>
   (qFB.f (reader.mk y3 y4) (bl [e])).bind fun r60 =>
   some (r60, (Json.mk kind 0 ByteArray.empty y5 y6))) ((bl s).size + 2) s1 b [] [] true (by omega) (fun _ => by rw [qEC]; omega) (by simp; omega) (by simp) (by omega) (by simp) (by simp)
  obtain ⟨s3, b3, e3, l3⟩ := qCE s2 b2 e []
  refine ⟨s3, b3, ⟨kind, 0, ByteArray.empty, js, ns⟩, e2.trans ?_, by omega, Jw_mk (by simp) a4 (by omega) (by omega) a3⟩
  rw [e3, bd]
def SelfRight (self : reader → Int → Option (reader × Json)) (d : Int) (f : Json → List UInt8) (x : Json) : Prop := ∀ rest : List UInt8, NoDig rest → (f x ++ rest).length ≤ 1000000 → self ⟨bl (f x ++ rest), false⟩ d = some (⟨bl rest, false⟩, x)
theorem qyJ (a b : List UInt8) (ws : List (List UInt8)) : Lib.join (a :: b :: ws) [44] = a ++ 44 :: Lib.join (b :: ws) [44] := by
 rw [Lib.join_cons, Lib.join_cons]; simp [Lib.joinTail]
theorem qcF {c : UInt8} {r : List UInt8} (h : c.toNat < 48 ∨ 57 < c.toNat) : NoDig (c :: r) := by
 intro x hx
 have : c = x := by simpa using hx
 exact this ▸ h
theorem qkK (self : reader → Int → Option (reader × Json)) (d : Int) (f : Json → List UInt8) (K : ByteArray → Bool → List Json → List ByteArray → Option (reader × Json)) (rest : List UInt8) : ∀ (l : List Json) (x : Json) (k : Nat) (js : List Json) (ns : List ByteArray), (∀ y ∈ x :: l, SelfRight self (w64 (d - 1)) f y) → l.length + 1 < k → js.length + l.length ≤ 1000 → (Lib.join ((x :: l).map f) [44] ++ 93 :: rest).length ≤ 1000000 → qK.l0 4 d self K k (bl (Lib.join ((x :: l).map f) [44] ++ 93 :: rest)) false js ns true = K (bl (93 :: rest)) false (js ++ x :: l) ns := by
 intro l
 induction l with
 | nil =>
  intro x k js ns hx hk hj hlen
  match k, hk with
  | k + 2, _ =>
   have e0 : Lib.join ([x].map f) [44] = f x := Lib.join_one _ _
   rw [e0] at hlen ⊢
   rw [qK.l0, show bo3 true (bo3 false false true) false = true from rfl, cond_true, qP, show decide ((4 : Int) = 5) = false from rfl, cond_false]
   dsimp only
   rw [hx x (by simp) (93 :: rest) (qcF (by decide)) hlen, bd, bd, qeB (by simp only [List.length_cons, List.length_nil]; omega), bd, show ByteArray.mk #[44] = bl [44] from rfl, qd [] rest false (show (44 : UInt8) ≠ 93 by decide), bd]
   dsimp only
   rw [qK.l0]
   rfl
 | cons y l ih =>
  intro x k js ns hx hk hj hlen
  match k, hk with
  | k + 1, hk =>
   simp only [List.length_cons] at hk hj
   have e0 : Lib.join ((x :: y :: l).map f) [44] ++ 93 :: rest = f x ++ 44 :: (Lib.join ((y :: l).map f) [44] ++ 93 :: rest) := by
    rw [List.map_cons, List.map_cons, qyJ]; simp
   rw [e0] at hlen ⊢
   rw [qK.l0, show bo3 true (bo3 false false true) false = true from rfl, cond_true, qP, show decide ((4 : Int) = 5) = false from rfl, cond_false]
   dsimp only
   have ht := qAB [44] (Lib.join ((y :: l).map f) [44] ++ 93 :: rest)
   rw [show ([44] : List UInt8) ++ (Lib.join ((y :: l).map f) [44] ++ 93 :: rest) = 44 :: (Lib.join ((y :: l).map f) [44] ++ 93 :: rest) from rfl] at ht
   rw [hx x (by simp) _ (qcF (by decide)) hlen, bd, bd, qeB (by simp only [List.length_cons, List.length_nil]; omega), bd, show ByteArray.mk #[44] = bl [44] from rfl, ht, bd]
   dsimp only
   rw [ih y k (js ++ [x]) ns (fun z hz => hx z (by simp only [List.mem_cons] at hz ⊢; exact .inr hz)) (by omega) (by rw [List.length_append, List.length_singleton]; omega) (by simp only [List.length_append, List.length_cons] at hlen ⊢; omega), List.append_assoc]
   rfl
theorem qIM (self : reader → Int → Option (reader × Json)) (d : Int) (f : Json → List UInt8) (K : ByteArray → Bool → List Json → List ByteArray → Option (reader × Json)) (rest : List UInt8) : ∀ (l : List Json) (ms : List ByteArray) (x : Json) (m : ByteArray) (k : Nat) (js : List Json) (ns : List ByteArray), ms.length = l.length → (∀ y ∈ x :: l, SelfRight self (w64 (d - 1)) f y) → l.length + 1 < k → js.length + l.length ≤ 1000 → ns.length = js.length → (∀ n ∈ m :: ms, n.data.toList.length ≤ 60) → (Lib.join (objW f (m :: ms) (x :: l)) [44] ++ 125 :: rest).length ≤ 1000000 → qK.l0 5 d self K k (bl (Lib.join (objW f (m :: ms) (x :: l)) [44] ++ 125 :: rest)) false js ns true = K (bl (125 :: rest)) false (js ++ x :: l) (ns ++ m :: ms) := by
 intro l
 induction l with
 | nil =>
  intro ms x m k js ns hm hx hk hj hns hns60 hlen
  have : ms = [] := List.length_eq_zero_iff.1 hm
  subst this
  match k, hk with
  | k + 2, _ =>
   have e0 : Lib.join (objW f [m] [x]) [44] ++ 125 :: rest = quoteL m.data.toList ++ ([58] ++ (f x ++ 125 :: rest)) := by
    show Lib.join [quoteL m.data.toList ++ 58 :: f x] [44] ++ _ = _
    rw [Lib.join_one]; simp
   rw [e0] at hlen ⊢
   have hm60 := hns60 m (by simp)
   rw [qK.l0, show bo3 true (bo3 false false true) false = true from rfl, cond_true, qP, show decide ((5 : Int) = 5) = true from rfl, cond_true, qlC _ _ (by omega), bd, show ByteArray.mk #[58] = bl [58] from rfl, qWC, bd, bd, qeB (by simp only [List.length_cons, List.length_nil]; omega), bd]
   dsimp only
   rw [hx x (by simp) (125 :: rest) (qcF (by decide)) (by simp only [List.length_append, List.length_cons] at hlen ⊢; omega), bd, bd, qeB (by simp only [List.length_cons, List.length_nil]; omega), bd, show ByteArray.mk #[44] = bl [44] from rfl, qd [] rest false (show (44 : UInt8) ≠ 125 by decide), bd]
   dsimp only
   rw [qK.l0, qeC]
   rfl
 | cons y l ih =>
  intro ms x m k js ns hm hx hk hj hns hns60 hlen
  cases ms with
  | nil => simp at hm
  | cons m2 ms =>
  match k, hk with
  | k + 1, hk =>
   simp only [List.length_cons] at hk hj hm
   have e0 : Lib.join (objW f (m :: m2 :: ms) (x :: y :: l)) [44] ++ 125 :: rest = quoteL m.data.toList ++ ([58] ++ (f x ++ 44 :: (Lib.join (objW f (m2 :: ms) (y :: l)) [44] ++ 125 :: rest))) := by
    show Lib.join ((quoteL m.data.toList ++ 58 :: f x) :: (quoteL m2.data.toList ++ 58 :: f y) :: objW f ms l) [44] ++ _ = _
    rw [qyJ]
    show (quoteL m.data.toList ++ 58 :: f x ++ 44 :: Lib.join (objW f (m2 :: ms) (y :: l)) [44]) ++ _ = _
    simp
   rw [e0] at hlen ⊢
   have hm60 := hns60 m (by simp)
   have ht := qAB [44] (Lib.join (objW f (m2 :: ms) (y :: l)) [44] ++ 125 :: rest)
   rw [show ([44] : List UInt8) ++ (Lib.join (objW f (m2 :: ms) (y :: l)) [44] ++ 125 :: rest) = 44 :: (Lib.join (objW f (m2 :: ms) (y :: l)) [44] ++ 125 :: rest) from rfl] at ht
   rw [qK.l0, show bo3 true (bo3 false false true) false = true from rfl, cond_true, qP, show decide ((5 : Int) = 5) = true from rfl, cond_true, qlC _ _ (by omega), bd, show ByteArray.mk #[58] = bl [58] from rfl, qWC, bd, bd, qeB (by simp only [List.length_cons, List.length_nil]; omega), bd]
   dsimp only
   rw [hx x (by simp) _ (qcF (by decide)) (by simp only [List.length_append, List.length_cons] at hlen ⊢; omega), bd, bd, qeB (by simp only [List.length_cons, List.length_nil]; omega), bd, show ByteArray.mk #[44] = bl [44] from rfl, ht, bd]
   dsimp only
   rw [qeC, ih ms y m2 k (js ++ [x]) (ns ++ [m]) (by omega) (fun z hz => hx z (by simp only [List.mem_cons] at hz ⊢; exact .inr hz)) (by omega) (by rw [List.length_append, List.length_singleton]; omega) (by rw [List.length_append, List.length_append, List.length_singleton, List.length_singleton]; omega) (fun n hn => hns60 n (by simp only [List.mem_cons] at hn ⊢; exact .inr hn)) (by simp only [List.length_append, List.length_cons] at hlen ⊢; omega), List.append_assoc, List.append_assoc]
   rfl
theorem qmQ : ∀ (k d : Nat), d < k → d ≤ 100 → SelfTot (qG.g k) (d : Int) := by
 intro k
 induction k with
 | zero => intro d h; omega
 | succ k ih =>
  intro d hd hd2 s b hs
  rw [qG.g, qG.b]
  have leaf : ∀ (k n : Int), Jw ⟨k, n, ByteArray.empty, [], []⟩ := fun k n => qpN k n (s := []) (by simp)
  by_cases hg : bo3 (decide ((d : Int) < 1)) true b = true
  ·
   rw [hg, cond_true]
   exact ⟨s, true, _, rfl, Nat.le_refl _, leaf 0 0⟩
  rw [Bool.not_eq_true] at hg
  have h0 : 1 ≤ d := by
   by_cases h : (d : Int) < 1
   · rw [decide_eq_true h] at hg; cases hg
   omega
  have hself : SelfTot (qG.g k) (w64 ((d : Int) - 1)) := by
   rw [qIB (by omega), show (d : Int) - 1 = ((d - 1 : Nat) : Int) by omega]
   exact ih (d - 1) (by omega) (by omega)
  rw [hg, cond_false]
  obtain ⟨s1, c1, e1, l1, _⟩ := qNB s b 110 [117, 108, 108]
  rw [show ByteArray.mk #[110, 117, 108, 108] = bl [110, 117, 108, 108] from rfl, e1, bd]
  cases c1 with
  | true => exact ⟨s1, b, _, rfl, l1, leaf 0 0⟩
  | false =>
  rw [cond_false]
  obtain ⟨s2, c2, e2, l2, _⟩ := qNB s1 b 102 [97, 108, 115, 101]
  rw [show ByteArray.mk #[102, 97, 108, 115, 101] = bl [102, 97, 108, 115, 101] from rfl, e2, bd]
  cases c2 with
  | true => exact ⟨s2, b, _, rfl, by omega, leaf 1 0⟩
  | false =>
  rw [cond_false]
  obtain ⟨s3, c3, e3, l3, _⟩ := qNB s2 b 116 [114, 117, 101]
  rw [show ByteArray.mk #[116, 114, 117, 101] = bl [116, 114, 117, 101] from rfl, e3, bd]
  cases c3 with
  | true => exact ⟨s3, b, _, rfl, by omega, leaf 1 1⟩
  | false =>
  rw [cond_false]
  dsimp only
  rw [show ByteArray.mk #[34] = bl [34] from rfl, qzB, bd]
  cases ([34] : List UInt8).isPrefixOf s3 with
  | true =>
   obtain ⟨s4, b4, q, e4, l4, m4⟩ := qfE s3 b (by omega)
   rw [cond_true, e4, bd]
   exact ⟨s4, b4, _, rfl, by omega, qpN 3 0 (by omega)⟩
  | false =>
  rw [cond_false]
  obtain ⟨s4, c4, e4, l4, _⟩ := qNB s3 b 91 []
  rw [show ByteArray.mk #[91] = bl [91] from rfl, e4, bd]
  cases c4 with
  | true =>
   obtain ⟨s5, b5, j, e5, l5, hj⟩ := qHM (qG.g k) 4 (d : Int) 93 hself s4 b (by omega)
   rw [cond_true, show ByteArray.mk #[93] = bl [93] from rfl, e5, bd]
   exact ⟨s5, b5, j, rfl, by omega, hj⟩
  | false =>
  rw [cond_false]
  obtain ⟨s5, c5, e5, l5, _⟩ := qNB s4 b 123 []
  rw [show ByteArray.mk #[123] = bl [123] from rfl, e5, bd]
  cases c5 with
  | true =>
   obtain ⟨s6, b6, j, e6, l6, hj⟩ := qHM (qG.g k) 5 (d : Int) 125 hself s5 b (by omega)
   rw [cond_true, show ByteArray.mk #[125] = bl [125] from rfl, e6, bd]
   exact ⟨s6, b6, j, rfl, by omega, hj⟩
  | false =>
  rw [cond_false]
  obtain ⟨s6, b6, v, e6, l6⟩ := qaH s5 b (by omega)
  rw [e6, bd]
  exact ⟨s6, b6, _, rfl, by omega, leaf 2 v⟩
theorem qeS {d : Nat} {j : Json} (h : sizeF d j ≤ 400) : ∃ c r, encF d j = c :: r ∧ c ≠ 93 ∧ c ≠ 125 := by
 obtain ⟨d, rfl⟩ := qbF h
 obtain ⟨ho, _⟩ := qaC h
 rcases qfC ho with rfl | ⟨n, hn, rfl⟩ | ⟨n, hn, rfl⟩ | ⟨s, hs, rfl⟩ | ⟨l, rfl⟩ | ⟨l, ns, e, hn, rfl⟩
 · exact ⟨110, _, rfl, by decide, by decide⟩
 ·
  rcases hn with rfl | rfl
  · exact ⟨102, _, rfl, by decide, by decide⟩
  exact ⟨116, _, rfl, by decide, by decide⟩
 ·
  have hp := qjK n
  cases hi : Lib.itoa n with
  | nil => rw [hi] at hp; simp at hp
  | cons c r =>
   have := qpH (n := n) (c := c) (by rw [hi]; simp)
   refine ⟨c, r, hi, ?_, ?_⟩ <;> rintro rfl <;> revert this <;> decide
 · exact ⟨34, _, rfl, by decide, by decide⟩
 · exact ⟨91, _, rfl, by decide, by decide⟩
 exact ⟨123, _, rfl, by decide, by decide⟩
theorem qcI (self : reader → Int → Option (reader × Json)) (d : Int) (h1 : 1 ≤ d) (c : UInt8) (r : List UInt8) (n1 : c ≠ 110) (n2 : c ≠ 102) (n3 : c ≠ 116) (n4 : c ≠ 34) : qG.b self ⟨bl (c :: r), false⟩ d = ((qS.f ⟨bl (c :: r), false⟩ (bl [91])).bind fun r17 =>
  bif r17.2 then (
  (qK.f self r17.1 4 (bl [93]) d).bind fun r19 =>
  some (r19.1, r19.2))
  else (
  (qS.f r17.1 (bl [123])).bind fun r20 =>
  bif r20.2 then (
  (qK.f self r20.1 5 (bl [125]) d).bind fun r22 =>
  some (r22.1, r22.2))
  else (
  (qR.f r20.1).bind fun r23 =>
  some (r23.1, r23.2)))) := by
 rw [qG.b, decide_eq_false (by omega), show bo3 false true false = false from rfl, cond_false, show ByteArray.mk #[110, 117, 108, 108] = bl [110, 117, 108, 108] from rfl, qd _ r false (fun e => n1 e.symm), bd, cond_false, show ByteArray.mk #[102, 97, 108, 115, 101] = bl [102, 97, 108, 115, 101] from rfl, qd _ r false (fun e => n2 e.symm), bd, cond_false, show ByteArray.mk #[116, 114, 117, 101] = bl [116, 114, 117, 101] from rfl, qd _ r false (fun e => n3 e.symm), bd, cond_false]
 dsimp only
 rw [show ByteArray.mk #[34] = bl [34] from rfl, qzB, bd, qJT (fun e => n4 e.symm), cond_false]
 rfl
theorem qNG : ∀ (k d : Nat) (j : Json), d ≤ k → d ≤ 100 → sizeF d j ≤ 400 → SelfRight (qG.g k) (d : Int) (encF d) j := by
  intro k
  induction k with
  | zero => intro d j h1 h2 h3; have : d = 0 := by omega
            subst this; rw [sizeF] at h3; omega
  | succ k ih =>
    intro d j h1 h2 h3 rest hr hlen
    obtain ⟨d, rfl⟩ := qbF h3
    obtain ⟨ho, g1, g2, g3⟩ := qaC h3
    have hl : j.List_.length ≤ 400 := by omega
    have hself : ∀ x ∈ j.List_, SelfRight (qG.g k) (w64 (((d + 1 : Nat) : Int) - 1)) (encF d) x := fun x hx => by
      rw [qIB (by omega), show ((d + 1 : Nat) : Int) - 1 = (d : Int) by omega]
      exact ih d x (by omega) (by omega) (g2 x hx)
    rw [qG.g]
    rcases qfC ho with rfl | ⟨n, hn, rfl⟩ | ⟨n, hn, rfl⟩ | ⟨s, hs, rfl⟩ | ⟨l, rfl⟩ | ⟨l, ns, e, hn, rfl⟩
    · rw [show encF (d + 1) nullJ = [110, 117, 108, 108] from rfl, qG.b, decide_eq_false (by omega), show bo3 false true false = false from rfl, cond_false, show ByteArray.mk #[110, 117, 108, 108] = bl [110, 117, 108, 108] from rfl, qAB, bd]
      rfl
    · rcases hn with rfl | rfl
      · rw [show encF (d + 1) ⟨1, 0, ByteArray.empty, [], []⟩ = [102, 97, 108, 115, 101] from rfl, qG.b, decide_eq_false (by omega), show bo3 false true false = false from rfl, cond_false, show ByteArray.mk #[110, 117, 108, 108] = bl [110, 117, 108, 108] from rfl]
        have := qd [117, 108, 108] ([97, 108, 115, 101] ++ rest) false (show (110 : UInt8) ≠ 102 by decide)
        rw [show (102 : UInt8) :: ([97, 108, 115, 101] ++ rest) = [102, 97, 108, 115, 101] ++ rest from rfl] at this
        rw [this, bd, cond_false, show ByteArray.mk #[102, 97, 108, 115, 101] = bl [102, 97, 108, 115, 101] from rfl, qAB, bd]
        rfl
      · rw [show encF (d + 1) ⟨1, 1, ByteArray.empty, [], []⟩ = [116, 114, 117, 101] from rfl, qG.b, decide_eq_false (by omega), show bo3 false true false = false from rfl, cond_false, show ByteArray.mk #[110, 117, 108, 108] = bl [110, 117, 108, 108] from rfl]
        have t1 := qd [117, 108, 108] ([114, 117, 101] ++ rest) false (show (110 : UInt8) ≠ 116 by decide)
        have t2 := qd [97, 108, 115, 101] ([114, 117, 101] ++ rest) false (show (102 : UInt8) ≠ 116 by decide)
        rw [show (116 : UInt8) :: ([114, 117, 101] ++ rest) = [116, 114, 117, 101] ++ rest from rfl] at t1 t2
        rw [t1, bd, cond_false, show ByteArray.mk #[102, 97, 108, 115, 101] = bl [102, 97, 108, 115, 101] from rfl, t2, bd, cond_false, show ByteArray.mk #[116, 114, 117, 101] = bl [116, 114, 117, 101] from rfl, qAB, bd]
        rfl
    · have e0 : encF (d + 1) ⟨2, n, ByteArray.empty, [], []⟩ = Lib.itoa n := rfl
      rw [e0] at hlen ⊢
      have hp := qjK n
      have hnum := qMG hn rest hr (by omega)
      cases hi : Lib.itoa n with
      | nil => rw [hi] at hp; simp at hp
      | cons c r =>
        have hm := qpH (n := n) (c := c) (by rw [hi]; simp)
        have ne : ∀ x : UInt8, x.toNat ≠ 45 → ¬ (48 ≤ x.toNat ∧ x.toNat ≤ 57) → c ≠ x := by rintro x h h' rfl; rcases hm with hm | hm; exact h hm; exact h' hm
        rw [hi] at hnum
        rw [List.cons_append] at hnum ⊢
        rw [qcI _ _ (by omega) c _ (ne 110 (by decide) (by decide)) (ne 102 (by decide) (by decide)) (ne 116 (by decide) (by decide)) (ne 34 (by decide) (by decide)), qd [] _ false (fun e => ne 91 (by decide) (by decide) e.symm), bd, cond_false, qd [] _ false (fun e => ne 123 (by decide) (by decide) e.symm), bd, cond_false, hnum, bd]
    · have e0 : encF (d + 1) ⟨3, 0, s, [], []⟩ = quoteL s.data.toList := rfl
      rw [e0] at hlen ⊢
      have hq := qlC s.data.toList rest (by have := qAE hs; omega)
      have ec : quoteL s.data.toList ++ rest = 34 :: ((s.data.toList.flatMap escC ++ [34]) ++ rest) := rfl
      rw [ec] at hq ⊢
      rw [qG.b, decide_eq_false (by omega), show bo3 false true false = false from rfl, cond_false, show ByteArray.mk #[110, 117, 108, 108] = bl [110, 117, 108, 108] from rfl, qd _ _ false (show (110 : UInt8) ≠ 34 by decide), bd, cond_false, show ByteArray.mk #[102, 97, 108, 115, 101] = bl [102, 97, 108, 115, 101] from rfl, qd _ _ false (show (102 : UInt8) ≠ 34 by decide), bd, cond_false, show ByteArray.mk #[116, 114, 117, 101] = bl [116, 114, 117, 101] from rfl, qd _ _ false (show (116 : UInt8) ≠ 34 by decide), bd, cond_false]
      dsimp only
      rw [show ByteArray.mk #[34] = bl [34] from rfl, qzB, bd, show ([34] : List UInt8).isPrefixOf (34 :: ((s.data.toList.flatMap escC ++ [34]) ++ rest)) = true from qjN [34] _, cond_true, hq, bd, qeC]
    · have e0 : encF (d + 1) ⟨4, 0, ByteArray.empty, l, []⟩ ++ rest = 91 :: (Lib.join (l.map (encF d)) [44] ++ 93 :: rest) := by
        show (91 :: (Lib.join (l.map (encF d)) [44] ++ [93])) ++ rest = _
        simp
      rw [e0] at hlen ⊢
      have ht := qAB [91] (Lib.join (l.map (encF d)) [44] ++ 93 :: rest)
      rw [show ([91] : List UInt8) ++ (Lib.join (l.map (encF d)) [44] ++ 93 :: rest) = 91 :: (Lib.join (l.map (encF d)) [44] ++ 93 :: rest) from rfl] at ht
      rw [qcI _ _ (by omega) 91 _ (by decide) (by decide) (by decide) (by decide), ht, bd, cond_true]
      unfold qK.f
      cases l with
      | nil =>
        have := qAB [93] rest
        rw [show ([93] : List UInt8) ++ rest = 93 :: rest from rfl] at this
        rw [show Lib.join (([] : List Json).map (encF d)) [44] ++ 93 :: rest = 93 :: rest from rfl, this]
        rfl
      | cons x l =>
        obtain ⟨c, r, ec, hc1, hc2⟩ := qeS (g2 x (by simp))
        have eh : Lib.join ((x :: l).map (encF d)) [44] ++ 93 :: rest = c :: (r ++ Lib.joinTail [44] (l.map (encF d)) ++ 93 :: rest) := by
          rw [List.map_cons, Lib.join_cons, ec]; simp
        have hlen2 : (Lib.join ((x :: l).map (encF d)) [44] ++ 93 :: rest).length ≤ 1000000 := by simp only [List.length_cons] at hlen; omega
        have hl' : l.length + 1 ≤ 400 := hl
        have hk : l.length + 1 < (bl (Lib.join ((x :: l).map (encF d)) [44] ++ 93 :: rest)).size + 2 := by
          rw [qEC, List.length_append]
          have : (x :: l).length ≤ (Lib.join ((x :: l).map (encF d)) [44]).length + 1 := by
            rw [List.map_cons, Lib.join_length, List.length_map]
            simp only [List.length_cons, List.length_nil]; omega
          simp only [List.length_cons] at this ⊢; omega
        rw [eh, qd [] _ false (fun e => hc1 e.symm), ← eh, bd, cond_false]
        dsimp only
        rw [qP]
        rw [qkK (qG.g k) ((d + 1 : Nat) : Int) (encF d) _ rest l x _ [] [] hself hk (by simp; omega) hlen2]
        have := qWC [93] rest
        rw [show ([93] : List UInt8) ++ rest = 93 :: rest from rfl] at this
        rw [this]
        rfl
    · have e0 : encF (d + 1) ⟨5, 0, ByteArray.empty, l, ns⟩ ++ rest = 123 :: (Lib.join (objW (encF d) ns l) [44] ++ 125 :: rest) := by
        show (123 :: (Lib.join (objW (encF d) ns l) [44] ++ [125])) ++ rest = _
        simp
      rw [e0] at hlen ⊢
      have ht := qAB [123] (Lib.join (objW (encF d) ns l) [44] ++ 125 :: rest)
      rw [show ([123] : List UInt8) ++ (Lib.join (objW (encF d) ns l) [44] ++ 125 :: rest) = 123 :: (Lib.join (objW (encF d) ns l) [44] ++ 125 :: rest) from rfl] at ht
      rw [qcI _ _ (by omega) 123 _ (by decide) (by decide) (by decide) (by decide), qd [] _ false (show (91 : UInt8) ≠ 123 by decide), bd, cond_false, ht, bd, cond_true]
      unfold qK.f
      cases l with
      | nil =>
        have : ns = [] := List.length_eq_zero_iff.1 e
        subst this
        have := qAB [125] rest
        rw [show ([125] : List UInt8) ++ rest = 125 :: rest from rfl] at this
        rw [show Lib.join (objW (encF d) [] []) [44] ++ 125 :: rest = 125 :: rest from rfl, this]
        rfl
      | cons x l =>
        cases ns with
        | nil => simp at e
        | cons m ms =>
        have hms : ms.length = l.length := by simpa using e
        have eh : Lib.join (objW (encF d) (m :: ms) (x :: l)) [44] ++ 125 :: rest = 34 :: ((m.data.toList.flatMap escC ++ [34]) ++ 58 :: encF d x ++ Lib.joinTail [44] (objW (encF d) ms l) ++ 125 :: rest) := by
          show Lib.join ((quoteL m.data.toList ++ 58 :: encF d x) :: objW (encF d) ms l) [44] ++ _ = _
          rw [Lib.join_cons]; simp [quoteL]
        have hlen2 : (Lib.join (objW (encF d) (m :: ms) (x :: l)) [44] ++ 125 :: rest).length ≤ 1000000 := by simp only [List.length_cons] at hlen; omega
        have hl' : l.length + 1 ≤ 400 := hl
        have hk : l.length + 1 < (bl (Lib.join (objW (encF d) (m :: ms) (x :: l)) [44] ++ 125 :: rest)).size + 2 := by
          rw [qEC, List.length_append]
          have : (x :: l).length ≤ (Lib.join (objW (encF d) (m :: ms) (x :: l)) [44]).length + 1 := by
            show _ ≤ (Lib.join ((quoteL m.data.toList ++ 58 :: encF d x) :: objW (encF d) ms l) [44]).length + 1
            rw [Lib.join_length, qqH _ _ _ hms]
            simp only [List.length_cons, List.length_nil]; omega
          simp only [List.length_cons] at this ⊢; omega
        rw [eh, qd [] _ false (show (125 : UInt8) ≠ 34 by decide), ← eh, bd, cond_false]
        dsimp only
        rw [qP]
        rw [qIM (qG.g k) ((d + 1 : Nat) : Int) (encF d) _ rest l ms x m _ [] [] hms hself hk (by simp; omega) rfl (fun n h => qAE (qAF hn n h)) hlen2]
        have := qWC [125] rest
        rw [show ([125] : List UInt8) ++ rest = 125 :: rest from rfl] at this
        rw [this]
        rfl
theorem qXC (b : Bool) (a : UInt8) (w : List UInt8) : qS.f ⟨bl [], b⟩ (bl (a :: w)) = some (⟨bl [], b⟩, false) := by
 rw [qGD, if_neg (by rw [qgQ]; simp)]
theorem qnQ (k : Nat) : qG.g (k + 1) ⟨bl [], false⟩ 6 = some (⟨bl [], true⟩, ⟨2, 0, ByteArray.empty, [], []⟩) := by
 rw [qG.g, qG.b, show bo3 (decide ((6 : Int) < 1)) true false = false from rfl, cond_false, show ByteArray.mk #[110, 117, 108, 108] = bl [110, 117, 108, 108] from rfl, qXC, bd, cond_false, show ByteArray.mk #[102, 97, 108, 115, 101] = bl [102, 97, 108, 115, 101] from rfl, qXC, bd, cond_false, show ByteArray.mk #[116, 114, 117, 101] = bl [116, 114, 117, 101] from rfl, qXC, bd, cond_false]
 dsimp only
 rw [show ByteArray.mk #[34] = bl [34] from rfl, qzB, bd, qgQ, cond_false, show ByteArray.mk #[91] = bl [91] from rfl, qXC, bd, cond_false, show ByteArray.mk #[123] = bl [123] from rfl, qXC, bd, cond_false]
 have : qR.f ⟨bl [], false⟩ = some (⟨bl [], true⟩, ⟨2, 0, ByteArray.empty, [], []⟩) := by
  unfold qR.f
  rw [qP, sl_bl]
  refine (qiO [] false (by simp) _ 0 (Nat.le_refl _) (fun i h => by omega) rfl _ 0 (Nat.le_refl _) (by simp)).trans ?_
  have ha : qFC.f (Ls.ss (bl []) 0 ((0 : Nat) : Int)) = some (0, false) := by
   rw [show (0 : Int) = ((0 : Nat) : Int) from rfl, ss_bl]
   exact qbK (by simp)
  have hc : cutS (bl []) 0 ((0 : Nat) : Int) = some () := qTD (Nat.le_refl _) (Nat.le_refl _)
  have hs : Ls.ss (bl []) ((0 : Nat) : Int) (([] : List UInt8).length : Int) = bl [] := by rw [ss_bl]; rfl
  have hc2 : cutS (bl []) ((0 : Nat) : Int) (([] : List UInt8).length : Int) = some () := hc
  rw [hc, bd, ha, bd, hc2, hs]
  rfl
 rw [this, bd]
theorem qyF (t : List UInt8) : qkC.f (bl t) = some (decF t) := by
 unfold qkC.f
 rw [sl_bl]
 by_cases hl : t.length ≤ 6000
 ·
  rw [decide_eq_false (by omega), cond_false]
  unfold qG.f
  by_cases h : ∃ j, jsonB j = true ∧ encF 6 j = t ∧ t.length ≤ 6000
  ·
   obtain ⟨j, e, hj, rfl, _⟩ := qrH h
   have hsz : sizeF 6 j ≤ 400 := by unfold jsonB at hj; exact of_decide_eq_true hj
   have hv := qNG 20 6 j (by omega) (by omega) hsz [] (fun c hc => by cases hc) (by rw [List.append_nil]; omega)
   rw [List.append_nil] at hv
   rw [show (6 : Int) = ((6 : Nat) : Int) from rfl, hv, bd, e]
   dsimp only
   rw [show bo3 false false true = true from rfl, qHB, qgC j (qcK hj), bd, show encL j = encF 6 j from if_pos ⟨hj, hl⟩, qTI, decide_eq_true rfl]
   rfl
  rw [qBH h]
  by_cases h0 : t = []
  ·
   subst h0
   rw [qnQ 19, bd]
   rfl
  obtain ⟨s', b', j, e, _, hw⟩ := qmQ 20 6 (by omega) (by omega) t false (by omega)
  rw [show (6 : Int) = ((6 : Nat) : Int) from rfl, e, bd]
  dsimp only
  cases b' with
  | true => rfl
  | false =>
   rw [show bo3 false false true = true from rfl, qHB, qgC j hw, bd, qTI, decide_eq_false ?_]
   · rfl
   unfold encL
   split
   · rename_i hh; exact fun e => h ⟨j, hh.1, e, hl⟩
   exact fun e => h0 e.symm
 rw [decide_eq_true (by omega), cond_true, qBH (fun ⟨j, _, _, h⟩ => hl h)]
 rfl
theorem qkE (a b : List ByteArray) (ha : (a.length : Int) ≤ 9223372036854775807) : qi.f a b = some (decide (a = b)) := by
 unfold qi.f
 by_cases hl : a.length = b.length
 ·
  rw [decide_eq_false (by simp only [qt]; omega), cond_false]
  refine (qoT (f := qi.l0 a b) hl (some false) (some true) (fun k i x y hx hy => ?_) (fun k i hi => ?_) _ (by simp only [qt]; omega)).trans ?_
  ·
   have hi := at_lt hx
   rw [qi.l0, qt, decide_eq_true (by omega), cond_true, qrB, hx, Option.bind_some, qrB, hy, Option.bind_some, qgN, qq (by omega)]
   by_cases c : x = y
   · simp [c]
   simp [c]
  · rw [qi.l0, qt, decide_eq_false (by omega), cond_false]
  cases decide (a = b) <;> rfl
 rw [decide_eq_true (by simp only [qt]; omega), cond_true, decide_eq_false (fun e => hl (by rw [e]))]
theorem qpD (self : Json → Json → Option Bool) (a : List Json) (hl : (a.length : Int) ≤ 9223372036854775806) (h : ∀ x ∈ a, self x x = some true) : qH.f self a a = some true := by
 unfold qH.f
 rw [decide_eq_false (by simp), cond_false]
 refine (qZG (f := qH.l0 a a self) (l := a) (fun _ _ => true) (some false) (some true) (fun k' i x hx => ?_) (fun k' i hi => ?_) _ 0 (by omega) (by rw [qt]; omega)).trans ?_
 ·
  have hi := at_lt hx
  rw [qH.l0, qt, decide_eq_true (by omega), cond_true, qrB, hx, Option.bind_some, Option.bind_some, h x (List.mem_of_getElem? hx), Option.bind_some, qSD, Bool.not_true, cond_false, qq (by omega), cond_true]
 · rw [qH.l0, qt, decide_eq_false (by omega), cond_false]
 rw [qvL (q := fun _ => true), List.all_eq_true.2 fun _ _ => rfl]; rfl
theorem qJM : ∀ (k : Nat) (a : Json), dpj a < k → szj a ≤ 1000000000 → qWB.g k a a = some true := by
 intro k
 induction k with
 | zero => intro a h; omega
 | succ k ih =>
  intro a hd hs
  rw [qCT] at hs
  rw [qDT] at hd
  have l0 := qWQ a.List_
  have l1 := szL_0 a.List_
  rw [qWB.g, qWB.b, qrT, qkE _ _ (by omega), qpD _ _ (by omega) fun x hx => ih x (by have := qXQ hx; omega) (by have := qpT hx; omega)]
  simp only [decide_true, bo3_F, bo3_T, qHB, Option.bind_some]
theorem qdI (a : Json) (hd : dpj a < 20) (hs : szj a ≤ 1000000000) : qWB.f a a = some true := qJM 20 a hd hs
theorem qfG (j : Json) (hw : Jw j) (h : jsonB j = true) : qtC.f j j = some true := by
 have h' := h
 unfold jsonB at h'
 rw [decide_eq_true_eq] at h'
 obtain ⟨h1, h2⟩ := qxL 6 j h'
 unfold qtC.f
 rw [qBE j hw, h, Option.bind_some, qHB, Option.bind_some, bo3_T, qHB, qdI j (by omega) (by omega)]
 rfl
theorem qAU {i j : Json} (hi : jsonB i = true) (hj : jsonB j = true) (hl : (encF 6 j).length ≤ 6000) (h : encF 6 i = encF 6 j) : i = j := by
 have si : sizeF 6 i ≤ 400 := by unfold jsonB at hi; exact of_decide_eq_true hi
 have sj : sizeF 6 j ≤ 400 := by unfold jsonB at hj; exact of_decide_eq_true hj
 have vi := qNG 20 6 i (by omega) (by omega) si [] (fun c hc => by cases hc) (by rw [List.append_nil, h]; omega)
 have vj := qNG 20 6 j (by omega) (by omega) sj [] (fun c hc => by cases hc) (by rw [List.append_nil]; omega)
 rw [h, vj] at vi
 exact (Prod.mk.inj (Option.some.inj vi)).2.symm
theorem qfS {j : Json} (hj : jsonB j = true) (hl : (encF 6 j).length ≤ 6000) : decF (encF 6 j) = (j, true) := by
 obtain ⟨i, e, hi, h, _⟩ := qrH (t := encF 6 j) ⟨j, hj, rfl, hl⟩
 rw [e, qAU hi hj hl h]
theorem laws_FnText_pure (a0 : List Int) (b0 : IntS_b a0) (r0 : ∀ y ∈ a0, 0 ≤ y ∧ y ≤ 255) : qWE.f a0 = some true := by
 unfold qWE.f
 rw [qoN, Option.bind_some]
 by_cases hb : 1048576 < (a0.length : Int)
 · rw [decide_eq_true hb]; rfl
 rw [decide_eq_false hb, cond_false]
 obtain ⟨j, e1, hj⟩ := qiK a0 (by omega)
 rw [qv e1, qv (qgC j hj), qv (qhC j hj), qTI, decide_eq_true rfl, Bool.not_true, cond_false, qP]
 have second : ((qBC.f a0).bind fun r19 =>
 (qkC.f r19).bind fun r20 =>
 (qBD.f r19).bind fun r21 =>
 (qKC.f a0).bind fun r22 =>
 (gd (bo3 r20.2 r21.2 (bo3 r21.2 false true)) (qfD.f r22)).bind fun r23 =>
 (gd (bo3 r20.2 r21.2 (bo3 r21.2 false true)) (qgD.f r22)).bind fun r24 =>
 (gd (bo3 (bo3 (bo3 (bo3 r20.2 r21.2 (bo3 r21.2 false true)) (Ls.sc .eql r23 r24) false) (bo3 (bo3 (bo3 r20.2 false true) (decide (r20.1.Kind = 0)) false) false true) false) r20.2 false) (qHC.f r20.1)).bind fun r25 =>
 some (bo3 (bo3 (bo3 r20.2 r21.2 (bo3 r21.2 false true)) (Ls.sc .eql r23 r24) false) (bo3 (bo3 (bo3 r20.2 false true) (decide (r20.1.Kind = 0)) false) true (bo3 r20.2 (Ls.sc .eql r25 r19) false)) false)) = some true := by
  obtain ⟨t, e2⟩ := qZK a0 (by omega)
  obtain ⟨q, e3, hq⟩ := qFM a0 (by omega)
  rw [qv e2, qv (qyF t), qv (qMJ t), qv e3]
  have hx : ∀ b : Bool, bo3 b b (bo3 b false true) = true := by decide
  rw [hx, qHB, qv (qgK q (by omega)), qHB, qv (qhK q (by omega)), quJ, decide_eq_true rfl]
  by_cases h : ∃ j, jsonB j = true ∧ encF 6 j = t ∧ t.length ≤ 6000
  ·
   obtain ⟨i, e, hi, rfl, hl⟩ := qrH h
   rw [e]
   dsimp only
   rw [show bo3 (bo3 (bo3 true true false) (bo3 (bo3 (bo3 true false true) (decide (i.Kind = 0)) false) false true) false) true false = true from rfl, qHB, qv (qgC i (qcK hi)), show encL i = encF 6 i from if_pos ⟨hi, hl⟩, quJ, decide_eq_true rfl]
   rfl
  rw [qBH h]
  rfl
 rw [show ByteArray.mk #[] = bl [] from rfl, qTI]
 by_cases hc : jsonB j = true ∧ (encF 6 j).length ≤ 6000
 ·
  rw [show encL j = encF 6 j from if_pos hc, decide_eq_false (qLT hc.1), Bool.not_false, cond_true, qv (qyF _), qfS hc.1 hc.2]
  dsimp only
  rw [show bo3 (bo3 true false true) false true = true from rfl, qHB, qv (qfG j hj hc.1)]
  exact second
 rw [show encL j = [] from if_neg hc, decide_eq_true rfl, Bool.not_true, cond_false]
 exact second
end Go.Proofs.YtcpekllcbimpmaaGreatDoor.L