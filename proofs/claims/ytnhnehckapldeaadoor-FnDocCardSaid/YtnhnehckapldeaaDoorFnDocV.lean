/- What the pure functions give. -/
import Derived.Test.YtnhnehckapldeaaDoorPv0
import Derived.Test.YtnhnehckapldeaaDoorFnDocU
namespace Go.Proofs.YtnhnehckapldeaaDoor.L
open Go
set_option linter.unusedVariables false
set_option linter.unusedSimpArgs false

theorem impl_within_eq (x y z : Int) : impl_within.f x y z = some (decide (y ≤ x ∧ x ≤ z)) := by
  unfold impl_within.f
  rw [bo3_and, Bool.decide_and]

mutual
def szj : Json → Int
  | ⟨_, _, _, l, ns⟩ => szL l + (ns.length : Int)
def szL : List Json → Int
  | [] => 0
  | x :: l => 1 + szj x + szL l
end
mutual
def dpj : Json → Nat
  | ⟨_, _, _, l, _⟩ => dpL l + 1
def dpL : List Json → Nat
  | [] => 0
  | x :: l => max (dpj x) (dpL l)
end
mutual
theorem szj_0 : ∀ x : Json, 0 ≤ szj x
  | ⟨_, _, _, l, ns⟩ => by have := szL_0 l; rw [szj]; omega
theorem szL_0 : ∀ l : List Json, 0 ≤ szL l
  | [] => by rw [szL]; omega
  | x :: l => by have := szj_0 x; have := szL_0 l; rw [szL]; omega
end
theorem szL_sum : ∀ l : List Json, szL l = (l.map fun x => 1 + szj x).sum
  | [] => by simp [szL]
  | x :: l => by rw [szL, szL_sum l, List.map_cons, List.sum_cons]
theorem szL_len : ∀ l : List Json, (l.length : Int) ≤ szL l
  | [] => by simp [szL]
  | x :: l => by have := szL_len l; have := szj_0 x; rw [szL]; simp only [List.length_cons]; omega
theorem szL_mem {l : List Json} {x : Json} (h : x ∈ l) : 1 + szj x ≤ szL l := by
  rw [szL_sum]; exact sum_mem (s := fun x => 1 + szj x) (fun x => by have := szj_0 x; omega) h
theorem dpL_mem : ∀ {l : List Json} {x : Json}, x ∈ l → dpj x ≤ dpL l
  | y :: l, x, h => by
    rw [dpL]
    rcases List.mem_cons.1 h with rfl | h
    · omega
    · have := dpL_mem h; omega
theorem szj_eq (x : Json) : szj x = szL x.List_ + (x.Names.length : Int) := by cases x; rw [szj]
theorem dpj_eq (x : Json) : dpj x = dpL x.List_ + 1 := by cases x; rw [dpj]
/-- Its size; what is too deep counts as too great. -/
def sz_Json (x : Json) : Int := szj x + (if dpj x ≤ 500 then 0 else 4611686018427387904)
def Json_b (x : Json) : Prop := sz_Json x ≤ 1099511627776
theorem sz_Json_0 (x : Json) : 0 ≤ sz_Json x := by have := szj_0 x; unfold sz_Json; split <;> omega
theorem sz_Json_d {x : Json} (h : sz_Json x ≤ 4611686018427387903) : dpj x ≤ 500 ∧ szj x = sz_Json x := by
  have := szj_0 x
  unfold sz_Json at *
  split at h
  · rename_i c; exact ⟨c, by rw [if_pos c]; omega⟩
  · omega
theorem ba_eq {x y : ByteArray} : (x.toList == y.toList) = decide (x = y) := by
  have h : x.toList = y.toList ↔ x = y := by
    constructor
    · intro h
      have : x.data.toList = y.data.toList := by
        have e : ∀ z : ByteArray, z.toList = z.data.toList := fun z => ByteArray.toList_eq z
        rw [← e, ← e]; exact h
      cases x; cases y; simp_all
    · rintro rfl; rfl
  by_cases c : x = y
  · subst c; simp
  · rw [decide_eq_false c]
    simp only [beq_eq_false_iff_ne, ne_eq]
    exact fun e => c (h.1 e)
theorem sc_neq' (x y : ByteArray) : Ls.sc .neq x y = decide (x ≠ y) := by
  show (!(x.toList == y.toList)) = _
  rw [ba_eq]; by_cases c : x = y <;> simp [c]
theorem sc_eql' (x y : ByteArray) : Ls.sc .eql x y = decide (x = y) := by
  show (x.toList == y.toList) = _
  rw [ba_eq]

def txtB (s : ByteArray) : Bool := (s.data.toList.all fun b => decide (32 ≤ b.toNat ∧ b.toNat ≤ 126)) && decide (s.size ≤ 60)
def namesB (l : List ByteArray) : Bool := allFrom (fun i x => txtB x && !(decide (0 < i) && Ls.sc .geq (l.getD (i - 1) default) x)) l 0
theorem sx_at {s : ByteArray} {i : Nat} {b : UInt8} (h : s.data.toList[i]? = some b) : Ls.sx s (i : Int) = (b.toNat : Int) := by
  show ((s.data.toList.getD (i : Int).toNat 0).toNat : Int) = _
  rw [Int.toNat_natCast, List.getD_eq_getElem?_getD, h]; rfl
theorem sl_len (s : ByteArray) : Ls.sl s = (s.data.toList.length : Int) := by
  show (s.size : Int) = _
  rw [Array.length_toList]; rfl
theorem size_len (s : ByteArray) : s.size = s.data.toList.length := by rw [Array.length_toList]; rfl
theorem inS_ok {s : ByteArray} {i : Nat} (h : i < s.data.toList.length) : inS s (i : Int) = some () := by
  unfold inS; rw [if_pos]; rw [size_len]; omega
/-- What a value has for itself. -/
def ownB (j : Json) : Bool :=
  bif (decide (0 < j.List_.length) && decide (j.Kind ≠ 4) && decide (j.Kind ≠ 5)) || (decide (0 < j.Names.length) && decide (j.Kind ≠ 5)) then false else
  bif (decide (j.N ≠ 0) && decide (j.Kind ≠ 1) && decide (j.Kind ≠ 2)) || (decide (j.S ≠ ByteArray.mk #[]) && decide (j.Kind ≠ 3)) then false else
  if j.Kind = 1 then decide (0 ≤ j.N ∧ j.N ≤ 1) else if j.Kind = 2 then decide (-1000000000 ≤ j.N ∧ j.N ≤ 1000000000) else if j.Kind = 3 then txtB j.S else
  if j.Kind = 5 then decide (j.Names.length = j.List_.length) && namesB j.Names else decide (j.Kind = 0) || decide (j.Kind = 4)
def capL (f : Json → Int) : Int → List Json → Int
  | n, [] => n
  | n, x :: l => if 400 < n + f x then 401 else capL f (n + f x) l
def sizeF : Nat → Json → Int
  | 0, _ => 401
  | d + 1, j => if ownB j = true then capL (sizeF d) 1 j.List_ else 401
theorem capL_range {f : Json → Int} (hf : ∀ x, 1 ≤ f x ∧ f x ≤ 401) : ∀ (l : List Json) (n : Int), 1 ≤ n → n ≤ 401 → 1 ≤ capL f n l ∧ capL f n l ≤ 401
  | [], n, h, h' => ⟨h, h'⟩
  | x :: l, n, h, h' => by
    rw [capL]
    have := hf x
    split
    · omega
    · exact capL_range hf l _ (by omega) (by omega)
theorem sizeF_range : ∀ (d : Nat) (j : Json), 1 ≤ sizeF d j ∧ sizeF d j ≤ 401
  | 0, j => by rw [sizeF]; omega
  | d + 1, j => by
    rw [sizeF]
    split
    · exact capL_range (sizeF_range d) _ _ (by omega) (by omega)
    · omega
def jsonB (j : Json) : Bool := decide (sizeF 6 j ≤ 400)
mutual
def Jw : Json → Prop
  | ⟨_, _, s, l, ns⟩ => (s.size : Int) ≤ 4611686018427387904 ∧ (∀ x ∈ ns, (x.size : Int) ≤ 4611686018427387904) ∧ (ns.length : Int) ≤ 4611686018427387904 ∧ (l.length : Int) ≤ 4611686018427387904 ∧ JwL l
def JwL : List Json → Prop
  | [] => True
  | x :: l => Jw x ∧ JwL l
end
theorem JwL_mem : ∀ {l : List Json}, JwL l → ∀ {x}, x ∈ l → Jw x
  | y :: l, h, x, hx => by
    rw [JwL] at h
    rcases List.mem_cons.1 hx with rfl | hx
    · exact h.1
    · exact JwL_mem h.2 hx
theorem JwL_of : ∀ {l : List Json}, (∀ x ∈ l, Jw x) → JwL l
  | [], _ => by rw [JwL]; trivial
  | y :: l, h => by rw [JwL]; exact ⟨h y (by simp), JwL_of fun x hx => h x (by simp [hx])⟩
theorem Jw_eq (j : Json) : Jw j ↔ (j.S.size : Int) ≤ 4611686018427387904 ∧ (∀ x ∈ j.Names, (x.size : Int) ≤ 4611686018427387904) ∧ (j.Names.length : Int) ≤ 4611686018427387904 ∧ (j.List_.length : Int) ≤ 4611686018427387904 ∧ ∀ x ∈ j.List_, Jw x := by
  cases j
  rw [Jw]
  exact ⟨fun ⟨a, b, c, d, e⟩ => ⟨a, b, c, d, fun x hx => JwL_mem e hx⟩, fun ⟨a, b, c, d, e⟩ => ⟨a, b, c, d, JwL_of e⟩⟩
/-- What the reference asks at the end. -/
def k3B (j : Json) : Bool := (decide (j.Kind ≠ 3) && decide (j.S ≠ ByteArray.mk #[])) || ((decide (j.Kind = 3) || decide (4 ≤ j.Kind)) && decide (j.N ≠ 0)) || (decide (j.Kind < 4) && decide (0 < j.List_.length)) ||
  !(if j.Kind = 5 then namesB j.Names && decide (j.Names.length = j.List_.length) else decide (j.Names.length = 0))
def preB (j : Json) : Bool := if j.Kind = 0 then decide (j.N = 0) else if j.Kind = 1 then decide (0 ≤ j.N ∧ j.N ≤ 1) else if j.Kind = 2 then decide (-1000000000 ≤ j.N ∧ j.N ≤ 1000000000) else if j.Kind = 3 then txtB j.S else decide (j.Kind = 4) || decide (j.Kind = 5)
theorem own_k3 (j : Json) : ownB j = (preB j && !k3B j) := by
  unfold ownB preB k3B
  have e2 : decide (j.Names.length = 0) = !decide (0 < j.Names.length) := by
    cases j.Names <;> simp
  have e7 : decide (j.N ≠ 0) = !decide (j.N = 0) := by by_cases c : j.N = 0 <;> simp [c]
  rw [e2, e7]
  generalize decide (0 < j.List_.length) = b1
  generalize decide (0 < j.Names.length) = b2
  generalize decide (j.S ≠ ByteArray.mk #[]) = b3
  generalize decide (j.Names.length = j.List_.length) = b4
  generalize namesB j.Names = b5
  generalize txtB j.S = b6
  generalize decide (0 ≤ j.N ∧ j.N ≤ 1) = b8
  generalize decide (-1000000000 ≤ j.N ∧ j.N ≤ 1000000000) = b9
  generalize decide (j.N = 0) = b7
  by_cases k0 : j.Kind = 0
  · simp [k0]; cases b1 <;> cases b2 <;> cases b3 <;> cases b7 <;> simp
  · by_cases k1 : j.Kind = 1
    · simp [k1]; cases b1 <;> cases b2 <;> cases b3 <;> cases b8 <;> simp
    · by_cases k2 : j.Kind = 2
      · simp [k2]; cases b1 <;> cases b2 <;> cases b3 <;> cases b9 <;> simp
      · by_cases k3 : j.Kind = 3
        · simp [k3]; cases b1 <;> cases b2 <;> cases b6 <;> cases b7 <;> simp
        · by_cases k4 : j.Kind = 4
          · simp [k4]; cases b1 <;> cases b2 <;> cases b3 <;> cases b7 <;> simp
          · by_cases k5 : j.Kind = 5
            · simp [k5]; cases b3 <;> cases b7 <;> cases b4 <;> cases b5 <;> simp
            · simp [k0, k1, k2, k3, k4, k5]

theorem impl_textOk_l0 (s : ByteArray) (hs : (s.data.toList.length : Int) ≤ 4611686018427387904) : ∀ (k i : Nat), i ≤ s.data.toList.length → s.data.toList.length < i + k → impl_textOk.l0 s k (s.data.toList.length : Int) i = some (((s.data.toList.drop i).all fun b => decide (32 ≤ b.toNat ∧ b.toNat ≤ 126)) && decide (s.size ≤ 60)) := by
  intro k
  induction k with
  | zero => intro i h h'; omega
  | succ k ih =>
    intro i h h'
    rw [impl_textOk.l0]
    by_cases hi : i < s.data.toList.length
    · have hx := List.getElem?_eq_getElem hi
      have hb : (s.data.toList[i]).toNat < 256 := UInt8.toNat_lt _
      rw [decide_eq_true (by omega), cond_true, inS_ok hi, Option.bind_some, sx_at hx, w64_id (by omega), impl_within_eq, Option.bind_some, List.drop_eq_getElem_cons hi, List.all_cons, w64_succ (by omega), ih (i + 1) (by omega) (by omega), bo3_not]
      by_cases c : 32 ≤ (s.data.toList[i]).toNat ∧ (s.data.toList[i]).toNat ≤ 126
      · rw [decide_eq_true (by omega), decide_eq_true c]; simp
      · rw [decide_eq_false (by omega), decide_eq_false c]; simp
    · rw [decide_eq_false (by omega), cond_false, List.drop_eq_nil_of_le (by omega), sl_len, size_len]
      simp
      omega
theorem impl_textOk_eq (s : ByteArray) (hs : (s.size : Int) ≤ 4611686018427387904) : impl_textOk.f s = some (txtB s) := by
  unfold impl_textOk.f txtB
  rw [size_len] at hs
  rw [sl_len]
  exact impl_textOk_l0 s hs _ 0 (by omega) (by omega)

theorem names_step (l : List ByteArray) (i : Nat) (x : ByteArray) (r : Bool) (hx : l[i]? = some x) (hl : (l.length : Int) ≤ 4611686018427387904) : (gd (bo3 (bo3 (bo3 r false true) false true) (decide (0 < (i : Int))) false) (getO l (w64 ((i : Int) - 1)))) = some (bif (r && decide (0 < i)) then l.getD (i - 1) default else default) := by
  have hi := at_lt hx
  cases r with
  | false => rfl
  | true =>
    by_cases c : 0 < i
    · rw [decide_eq_true (by omega), decide_eq_true c, show bo3 (bo3 (bo3 true false true) false true) true false = true from rfl, gd_true, w64_id (by omega), show (i : Int) - 1 = ((i - 1 : Nat) : Int) by omega, getO_nat, List.getD_eq_getElem?_getD, List.getElem?_eq_getElem (by omega)]
      rfl
    · rw [decide_eq_false (by omega), decide_eq_false c]; rfl
theorem impl_namesOk_eq (l : List ByteArray) (hl : (l.length : Int) ≤ 4611686018427387904) (hs : ∀ x ∈ l, (x.size : Int) ≤ 4611686018427387904) : impl_namesOk.f l = some (namesB l) := by
  unfold impl_namesOk.f namesB
  refine (loop_all (f := impl_namesOk.l0 l) (l := l) (fun i x => txtB x && !(decide (0 < i) && Ls.sc .geq (l.getD (i - 1) default) x)) (some false) (some true) (fun k i x hx => ?_) (fun k i hi => ?_) _ 0 (by omega) (by rw [lenI_eq]; omega)).trans ?_
  · have hi := at_lt hx
    rw [impl_namesOk.l0, lenI_eq, decide_eq_true (by omega), cond_true, getO_nat, hx, Option.bind_some, impl_textOk_eq x (hs x (List.mem_of_getElem? hx)), Option.bind_some, names_step l i x _ hx hl, Option.bind_some, w64_succ (by omega)]
    cases txtB x with
    | false => rfl
    | true =>
      by_cases c : 0 < i
      · have c' : 0 < (i : Int) := by omega
        rw [decide_eq_true c, decide_eq_true c']
        cases hg : Ls.sc .geq (l.getD (i - 1) default) x <;> simp [bo3, hg] <;> simp_all
      · have c' : ¬ 0 < (i : Int) := by omega
        rw [decide_eq_false c, decide_eq_false c']
        simp [bo3]
  · rw [impl_namesOk.l0, lenI_eq, decide_eq_false (by omega), cond_false]
  · cases allFrom (fun i x => txtB x && !(decide (0 < i) && Ls.sc .geq (l.getD (i - 1) default) x)) l 0 <;> rfl

theorem impl_isNum_eq (n : Int) : impl_isNum.f n = some (decide (-1000000000 ≤ n ∧ n ≤ 1000000000)) := by
  unfold impl_isNum.f
  rw [impl_within_eq, Option.bind_some]

theorem impl_ownOk_eq (j : Json) (h : Jw j) : impl_ownOk.f j = some (ownB j) := by
  obtain ⟨h1, h2, h3, h4, _⟩ := (Jw_eq j).1 h
  unfold impl_ownOk.f ownB
  rw [impl_textOk_eq _ h1, impl_namesOk_eq _ h3 h2, impl_within_eq, impl_isNum_eq, lenI_eq, lenI_eq, sc_neq']
  have e1 : decide (0 < (j.List_.length : Int)) = decide (0 < j.List_.length) := decide_eq_decide.2 (by omega)
  have e2 : decide (0 < (j.Names.length : Int)) = decide (0 < j.Names.length) := decide_eq_decide.2 (by omega)
  have e3 : decide ((j.Names.length : Int) = j.List_.length) = decide (j.Names.length = j.List_.length) := decide_eq_decide.2 (by omega)
  rw [e1, e2, e3]
  simp only [bo3_and, bo3_or]
  generalize decide (0 < j.List_.length) = b1
  generalize decide (0 < j.Names.length) = b2
  generalize decide (j.S ≠ ByteArray.mk #[]) = b3
  generalize decide (j.Names.length = j.List_.length) = b4
  generalize namesB j.Names = b5
  generalize txtB j.S = b6
  by_cases k1 : j.Kind = 1
  · simp [k1]
    cases b1 <;> cases b2 <;> cases b3 <;> simp
  · by_cases k2 : j.Kind = 2
    · simp [k2]
      cases b1 <;> cases b2 <;> cases b3 <;> simp
    · by_cases k3 : j.Kind = 3
      · simp [k3]
        cases b1 <;> cases b2 <;> cases decide (j.N = 0) <;> simp
      · by_cases k5 : j.Kind = 5
        · simp [k5]
          cases b4 <;> cases b3 <;> cases decide (j.N = 0) <;> simp [gd]
        · simp only [k1, k2, k3, k5, if_false, decide_false, cond_false, ne_eq, not_false_eq_true, decide_true, Bool.and_true, bo3]
          have e9 : (decide ¬j.Kind = 4) = !decide (j.Kind = 4) := by by_cases c : j.Kind = 4 <;> simp [c]
          have e7 : (decide ¬j.N = 0) = !decide (j.N = 0) := by by_cases c : j.N = 0 <;> simp [c]
          rw [e9, e7]
          generalize decide (j.N = 0) = b7'
          generalize decide (j.Kind = 0) = b8
          generalize decide (j.Kind = 4) = b9'
          cases b1 <;> cases b2 <;> cases b3 <;> cases b7' <;> cases b8 <;> cases b9' <;> simp

theorem impl_sizeIn_l0 (j : Json) (d : Int) (self : Json → Int → Option Int) (f : Json → Int) (hf : ∀ x, 1 ≤ f x ∧ f x ≤ 401) (hl : (j.List_.length : Int) ≤ 4611686018427387904) (hs : ∀ x ∈ j.List_, self x (w64 (d - 1)) = some (f x)) :
    ∀ (k i : Nat) (n : Int), i ≤ j.List_.length → j.List_.length < i + k → 1 ≤ n → n ≤ 401 → impl_sizeIn.l0 j d self k n i = some (capL f n (j.List_.drop i)) := by
  intro k
  induction k with
  | zero => intro i n h h'; omega
  | succ k ih =>
    intro i n h h' hn hn'
    rw [impl_sizeIn.l0, lenI_eq]
    by_cases hi : i < j.List_.length
    · have := hf j.List_[i]
      rw [decide_eq_true (by omega), cond_true, getO_nat, List.getElem?_eq_getElem hi, Option.bind_some, hs _ (List.getElem_mem hi), Option.bind_some, w64_id (by omega), List.drop_eq_getElem_cons hi, capL, w64_succ (by omega)]
      by_cases c : 400 < n + f j.List_[i]
      · rw [decide_eq_true c, cond_true, if_pos c]
      · rw [decide_eq_false c, cond_false, if_neg c]
        exact ih (i + 1) _ (by omega) (by omega) (by omega) (by omega)
    · rw [decide_eq_false (by omega), cond_false, List.drop_eq_nil_of_le (by omega), capL]
theorem impl_sizeIn_g : ∀ (k d : Nat) (j : Json), d < k → d ≤ 1000 → Jw j → impl_sizeIn.g k j d = some (sizeF d j) := by
  intro k
  induction k with
  | zero => intro d j h; omega
  | succ k ih =>
    intro d j h hd hj
    obtain ⟨h1, h2, h3, h4, h5⟩ := (Jw_eq j).1 hj
    rw [impl_sizeIn.g, impl_sizeIn.b, impl_ownOk_eq j hj]
    cases d with
    | zero => rw [decide_eq_true (by omega), sizeF]; rfl
    | succ d =>
      rw [decide_eq_false (by omega), sizeF]
      cases ho : ownB j with
      | false => rfl
      | true =>
        rw [if_pos rfl]
        simp only [bo3_not, Bool.not_false, gd_true, Option.bind_some, bo3_F, Bool.not_true, cond_false]
        exact impl_sizeIn_l0 j ((d + 1 : Nat) : Int) (impl_sizeIn.g k) (sizeF d) (sizeF_range d) h4 (fun x hx => by
          rw [w64_id (by omega), show ((d + 1 : Nat) : Int) - 1 = (d : Int) by omega]
          exact ih d x (by omega) (by omega) (h5 x hx)) (((lenI j.List_) - 0).toNat + 1) 0 1 (by omega) (by rw [lenI_eq]; omega) (by omega) (by omega)

theorem impl_JsonOk_eq (j : Json) (h : Jw j) : impl_JsonOk.f j = some (jsonB j) := by
  unfold impl_JsonOk.f impl_sizeIn.f
  have := impl_sizeIn_g 20 6 j (by omega) (by omega) h
  rw [show (6 : Int) = ((6 : Nat) : Int) from rfl, this, Option.bind_some]
  rfl

theorem impl_copyTexts_eq (l : List ByteArray) (h : (l.length : Int) ≤ 1000000000) : impl_copyTexts.f l = some l := by
  unfold impl_copyTexts.f
  rw [appO_ok (by simp only [List.length_nil]; omega)]
  rfl

theorem impl_copyJson_g : ∀ (k : Nat) (a : Json), dpj a < k → szj a ≤ 1000000000 → impl_copyJson.g k a = some a := by
  intro k
  induction k with
  | zero => intro a h; omega
  | succ k ih =>
    intro a hd hs
    rw [szj_eq] at hs
    rw [dpj_eq] at hd
    have l0 := szL_len a.List_
    have l1 := szL_0 a.List_
    rw [impl_copyJson.g, impl_copyJson.b, impl_copyTexts_eq _ (by omega), Option.bind_some]
    have key : ∀ (n i : Nat), i ≤ a.List_.length → a.List_.length < i + n → impl_copyJson.l0 a a.Names (impl_copyJson.g k) n (a.List_.take i) i = some a := by
      intro n
      induction n with
      | zero => intro i h h'; omega
      | succ n ihn =>
        intro i h h'
        rw [impl_copyJson.l0, lenI_eq]
        by_cases hi : i < a.List_.length
        · have hx : a.List_[i]? = some a.List_[i] := List.getElem?_eq_getElem hi
          have m1 := szL_mem (List.getElem_mem hi)
          have m2 := dpL_mem (List.getElem_mem hi)
          rw [decide_eq_true (by omega), cond_true, getO_nat, hx, Option.bind_some, ih _ (by omega) (by omega), Option.bind_some, Option.bind_some, appO_ok (by simp only [List.length_take, List.length_cons, List.length_nil]; omega), Option.bind_some, w64_succ (by omega), ← take_snoc hx]
          exact ihn (i + 1) (by omega) (by omega)
        · rw [decide_eq_false (by omega), cond_false, List.take_of_length_le (by omega)]
          cases a; rfl
    have := key (((lenI a.List_) - 0).toNat + 1) 0 (by omega) (by rw [lenI_eq]; omega)
    rw [List.take_zero] at this
    exact this
theorem impl_copyJson_eq (a : Json) (hd : dpj a < 20) (hs : szj a ≤ 1000000000) : impl_copyJson.f a = some a := impl_copyJson_g 20 a hd hs

def bl (l : List UInt8) : ByteArray := ⟨l.toArray⟩
theorem bl_sa (a b : List UInt8) : Ls.sa (bl a) (bl b) = bl (a ++ b) := by
  show (bl a ++ bl b) = _
  apply ByteArray.ext
  simp [bl]
theorem bl_size (a : List UInt8) : (bl a).size = a.length := rfl
theorem bsO_one (n : Nat) (h : n < 256) : bsO [(n : Int)] = bl [UInt8.ofNat n] := rfl
def digs (u : Nat) : List UInt8 := if u = 0 then [] else Lib.decDigits u
theorem digs_step {u : Nat} (h : 0 < u) : digs u = digs (u / 10) ++ [UInt8.ofNat (48 + u % 10)] := by
  unfold digs
  rw [if_neg (by omega), Lib.decDigits]
  split
  · rename_i c
    rw [if_pos (by omega)]
    have : u % 10 = u := by omega
    rw [this]; rfl
  · rw [if_neg (by omega)]
theorem wrap8 {n : Nat} (h : n < 256) : IntKind.wrap .u8 (n : Int) = n := by simp [IntKind.wrap, IntKind.signed, IntKind.bits]; omega
theorem smO_ok {x y : ByteArray} (h : (x.size + y.size : Int) ≤ 9223372036854775807) : smO x y = some () := by unfold smO; rw [if_pos h]

section
variable {α : Type}
theorem getO_app {A B : List α} {x : α} {i : Int} (h : i = A.length) : getO (A ++ x :: B) i = some x := by
  subst h; rw [getO_nat, List.getElem?_append_right (Nat.le_refl _), Nat.sub_self]; rfl
theorem setI_app {A B : List α} {x y : α} {i : Int} (h : i = A.length) : setI (A ++ x :: B) i y = A ++ y :: B := by
  subst h; rw [setI_nat, List.set_append_right _ _ (Nat.le_refl _), Nat.sub_self]; rfl
theorem mid_eq (A B C : List α) (x y : α) : A ++ x :: (B ++ y :: C) = (A ++ x :: B) ++ y :: C := by simp
theorem getO_mid {A B C : List α} {x y : α} {j : Int} (h : j = A.length + 1 + B.length) : getO (A ++ x :: (B ++ y :: C)) j = some y := by
  rw [mid_eq]; exact getO_app (by simp; omega)
theorem swapA {A B C : List α} {x y : α} {i j : Int} (hi : i = A.length) (hj : j = A.length + 1 + B.length) : setI (setI (A ++ x :: (B ++ y :: C)) i y) j x = A ++ y :: (B ++ x :: C) := by
  rw [setI_app hi, mid_eq, setI_app (by simp; omega), ← mid_eq]
theorem swapB {A B C : List α} {x y : α} {i j : Int} (hi : i = A.length) (hj : j = A.length + 1 + B.length) : setI (setI (A ++ x :: (B ++ y :: C)) j x) i y = A ++ y :: (B ++ x :: C) := by
  rw [mid_eq, setI_app (by simp; omega), ← mid_eq, setI_app hi]
theorem neO_ok {i j : Int} (h : i ≠ j) : neO i j = some () := by unfold neO; rw [if_neg h]
theorem getO_seg {A B C : List α} {c : Nat} (h1 : A.length ≤ c) (h2 : c < A.length + B.length) : getO (A ++ (B ++ C)) (c : Int) = B[c - A.length]? := by
  rw [getO_nat, List.getElem?_append_right h1, List.getElem?_append_left (by omega)]
/-- A search by halves. -/
theorem bsearch {R : Type} {f : Nat → Int → Int → R} {K : Int → R} (B : Nat → Bool) (lo hi : Nat) (mono : ∀ c c', lo ≤ c → c ≤ c' → c' < hi → B c = false → B c' = false)
    (hstep : ∀ k (i j : Nat), lo ≤ i → i < j → j ≤ hi → f (k + 1) i j = if B ((i + j) / 2) = true then f k (((i + j) / 2 + 1 : Nat) : Int) j else f k i (((i + j) / 2 : Nat) : Int)) (hend : ∀ k (i : Nat), f (k + 1) i i = K i) :
    ∀ (k i j : Nat), lo ≤ i → i ≤ j → j ≤ hi → j - i < k → ∃ t : Nat, i ≤ t ∧ t ≤ j ∧ f k i j = K t ∧ (∀ c, i ≤ c → c < t → B c = true) ∧ (∀ c, t ≤ c → c < j → B c = false) := by
  intro k
  induction k with
  | zero => intro i j _ _ _ h; omega
  | succ k ih =>
    intro i j h1 h2 h3 h4
    by_cases hij : i < j
    · rw [hstep k i j h1 hij h3]
      cases hb : B ((i + j) / 2) with
      | true =>
        rw [if_pos rfl]
        obtain ⟨t, t1, t2, t3, t4, t5⟩ := ih ((i + j) / 2 + 1) j (by omega) (by omega) h3 (by omega)
        refine ⟨t, by omega, t2, t3, fun c c1 c2 => ?_, t5⟩
        by_cases hc : (i + j) / 2 + 1 ≤ c
        · exact t4 c hc c2
        · cases hx : B c with
          | true => rfl
          | false => rw [mono c ((i + j) / 2) (by omega) (by omega) (by omega) hx] at hb; cases hb
      | false =>
        rw [if_neg (by simp)]
        obtain ⟨t, t1, t2, t3, t4, t5⟩ := ih i ((i + j) / 2) h1 (by omega) (by omega) (by omega)
        refine ⟨t, t1, by omega, t3, t4, fun c c1 c2 => ?_⟩
        by_cases hc : c < (i + j) / 2
        · exact t5 c c1 hc
        · exact mono _ c (by omega) (by omega) (by omega) hb
    · obtain rfl : i = j := by omega
      exact ⟨i, Nat.le_refl _, Nat.le_refl _, hend k i, fun c c1 c2 => by omega, fun c c1 c2 => by omega⟩
theorem half_eq {x : Int} {n : Nat} (h : x = n) (hn : n ≤ 9223372036854775807) : w64 (Ls.ar .shr .u64 (IntKind.wrap .u64 (w64 x)) 1) = ((n / 2 : Nat) : Int) := by
  subst h
  have e0 : w64 (n : Int) = n := w64_id (by omega)
  have e : IntKind.wrap .u64 (n : Int) = n := by simp [IntKind.wrap, IntKind.signed, IntKind.bits]; omega
  rw [e0, e]
  have e2 : Ls.ar .shr .u64 (n : Int) 1 = (n : Int) / 2 := by
    show Int.fdiv (n : Int) (2 ^ min (1 : Int).toNat IntKind.u64.bits) = _
    have : (2 : Int) ^ min (1 : Int).toNat IntKind.u64.bits = 2 := by decide
    rw [this, Int.fdiv_eq_ediv_of_nonneg _ (by omega)]
  rw [e2, w64_id (by omega)]
  omega
end

/-- The bytes' order. -/
theorem less_irr : ∀ x : List UInt8, Op.bytesLess x x = false
  | [] => rfl
  | a :: x => by
    rw [Op.bytesLess, less_irr x]
    have : ¬ a < a := by rw [UInt8.lt_iff_toNat_lt]; omega
    simp [this]
theorem less_trans : ∀ {x y z : List UInt8}, Op.bytesLess x y = true → Op.bytesLess y z = true → Op.bytesLess x z = true
  | [], _, [], _, h => by cases ‹List UInt8› <;> simp [Op.bytesLess] at h
  | [], _, c :: z, _, _ => rfl
  | a :: x, [], z, h, _ => by simp [Op.bytesLess] at h
  | a :: x, b :: y, [], _, h => by simp [Op.bytesLess] at h
  | a :: x, b :: y, c :: z, h, h' => by
    simp only [Op.bytesLess, Bool.or_eq_true, decide_eq_true_eq, Bool.and_eq_true, beq_iff_eq, UInt8.lt_iff_toNat_lt] at *
    rcases h with h | ⟨rfl, h⟩
    · rcases h' with h' | ⟨rfl, h'⟩
      · left; omega
      · left; exact h
    · rcases h' with h' | ⟨rfl, h'⟩
      · left; exact h'
      · right; exact ⟨rfl, less_trans h h'⟩
theorem less_tot : ∀ {x y : List UInt8}, x ≠ y → Op.bytesLess x y = false → Op.bytesLess y x = true
  | [], [], h, _ => absurd rfl h
  | [], b :: y, _, h => by simp [Op.bytesLess] at h
  | a :: x, [], _, _ => rfl
  | a :: x, b :: y, hne, h => by
    simp only [Op.bytesLess, Bool.or_eq_false_iff, Bool.and_eq_false_iff, decide_eq_false_iff_not, Bool.or_eq_true, decide_eq_true_eq, Bool.and_eq_true, beq_iff_eq, UInt8.lt_iff_toNat_lt] at *
    obtain ⟨h1, h2⟩ := h
    by_cases e : a = b
    · subst e
      right
      refine ⟨rfl, less_tot (fun e => hne (by rw [e])) ?_⟩
      rcases h2 with h2 | h2
      · simp at h2
      · exact h2
    · left
      have : a.toNat ≠ b.toNat := fun e' => e (UInt8.toNat_inj.1 e')
      omega
def nlt (x y : ByteArray) : Bool := Ls.sc .lss x y
theorem nlt_irr (x : ByteArray) : nlt x x = false := less_irr x.toList
theorem nlt_trans {x y z : ByteArray} (h : nlt x y = true) (h' : nlt y z = true) : nlt x z = true := less_trans h h'
theorem toList_inj {x y : ByteArray} (h : x.toList = y.toList) : x = y := by
  have : (x.toList == y.toList) = true := by rw [h]; simp
  rw [ba_eq] at this
  exact of_decide_eq_true this
theorem nlt_tot {x y : ByteArray} (hne : x ≠ y) (h : nlt x y = false) : nlt y x = true := less_tot (fun e => hne (toList_inj e)) h
theorem nlt_asym {x y : ByteArray} (h : nlt x y = true) : nlt y x = false := by
  cases h' : nlt y x with
  | false => rfl
  | true => have := nlt_trans h h'; rw [nlt_irr] at this; cases this
theorem sc_geq (x y : ByteArray) : Ls.sc .geq x y = !nlt x y := rfl

/-! ### an object of numbers -/
abbrev NV := ByteArray × Int
def numJ (n : Int) : Json := ⟨2, n, ByteArray.empty, [], []⟩
def objJ (P : List NV) : Json := ⟨5, 0, ByteArray.empty, P.map fun p => numJ p.2, P.map (·.1)⟩
def Sn (P : List NV) : Prop := P.Pairwise fun a b => nlt a.1 b.1 = true
def putP (P : List NV) (p : NV) : List NV := (P.filter fun x => nlt x.1 p.1) ++ p :: (P.filter fun x => nlt p.1 x.1)
theorem mem_putP {P : List NV} {p x : NV} : x ∈ putP P p ↔ x = p ∨ (x ∈ P ∧ x.1 ≠ p.1) := by
  unfold putP
  rw [List.mem_append, List.mem_cons, List.mem_filter, List.mem_filter]
  constructor
  · rintro (⟨h, h'⟩ | h | ⟨h, h'⟩)
    · exact .inr ⟨h, fun e => by rw [e, nlt_irr] at h'; cases h'⟩
    · exact .inl h
    · exact .inr ⟨h, fun e => by rw [e, nlt_irr] at h'; cases h'⟩
  · rintro (h | ⟨h, h'⟩)
    · exact .inr (.inl h)
    · cases c : nlt x.1 p.1 with
      | true => exact .inl ⟨h, rfl⟩
      | false => exact .inr (.inr ⟨h, nlt_tot h' c⟩)
theorem putP_sn {P : List NV} {p : NV} (h : Sn P) : Sn (putP P p) := by
  unfold putP
  refine List.pairwise_append.2 ⟨h.filter _, List.pairwise_cons.2 ⟨fun x hx => (List.mem_filter.1 hx).2, h.filter _⟩, fun a ha b hb => ?_⟩
  have h1 := (List.mem_filter.1 ha).2
  rcases List.mem_cons.1 hb with rfl | hb
  · exact h1
  · exact nlt_trans h1 (List.mem_filter.1 hb).2
theorem putP_len (P : List NV) (p : NV) : (putP P p).length ≤ P.length + 1 := by
  unfold putP
  rw [List.length_append, List.length_cons]
  have h1 : (P.filter fun x => nlt x.1 p.1).length + (P.filter fun x => nlt p.1 x.1).length ≤ P.length := by
    induction P with
    | nil => simp
    | cons a P ih =>
      simp only [List.filter_cons, List.length_cons]
      cases c1 : nlt a.1 p.1 with
      | true => rw [nlt_asym c1]; simp; omega
      | false =>
        cases c2 : nlt p.1 a.1 <;> simp <;> omega
  omega
def foldP (P : List NV) : List NV := P.foldl putP []
theorem foldP_snoc (P : List NV) (p : NV) : foldP (P ++ [p]) = putP (foldP P) p := by unfold foldP; rw [List.foldl_append]; rfl
theorem foldP_len (P : List NV) : (foldP P).length ≤ P.length := by
  have : ∀ (P acc : List NV), (P.foldl putP acc).length ≤ P.length + acc.length := by
    intro P
    induction P with
    | nil => intro acc; simp
    | cons p P ih => intro acc; have := ih (putP acc p); have := putP_len acc p; simp only [List.foldl_cons, List.length_cons]; omega
  simpa [foldP] using this P []
theorem foldP_sn (P : List NV) : Sn (foldP P) := by
  have : ∀ (P acc : List NV), Sn acc → Sn (P.foldl putP acc) := by
    intro P
    induction P with
    | nil => intro acc h; exact h
    | cons p P ih => intro acc h; exact ih _ (putP_sn h)
  exact this P [] List.Pairwise.nil
/-- One value a name. -/
def Fn1 (P : List NV) : Prop := ∀ x ∈ P, ∀ y ∈ P, x.1 = y.1 → x = y
theorem foldP_mem : ∀ (P : List NV), Fn1 P → ∀ x, x ∈ foldP P ↔ x ∈ P := by
  have : ∀ (n : Nat) (P : List NV), P.length = n → Fn1 P → ∀ x, x ∈ foldP P ↔ x ∈ P := by
    intro n
    induction n with
    | zero => intro P h _ x; rw [List.length_eq_zero_iff.1 h]; exact Iff.rfl
    | succ n ih =>
      intro P h hf x
      obtain ⟨Q, p, rfl⟩ : ∃ Q p, P = Q ++ [p] := ⟨P.dropLast, P.getLast (by rintro rfl; simp at h), (List.dropLast_concat_getLast _).symm⟩
      have ihq := ih Q (by simpa using h) (fun a ha b hb => hf a (by simp [ha]) b (by simp [hb]))
      rw [foldP_snoc, mem_putP, ihq x, List.mem_append, List.mem_singleton]
      constructor
      · rintro (h | h)
        · exact .inr h
        · exact .inl h.1
      · rintro (h | h)
        · by_cases e : x.1 = p.1
          · exact .inl (hf x (by simp [h]) p (by simp) e)
          · exact .inr ⟨h, e⟩
        · exact .inl h
  exact fun P => this P.length P rfl
theorem Sn.unique {P Q : List NV} (h : Sn P) (h' : Sn Q) (e : ∀ x, x ∈ P ↔ x ∈ Q) : P = Q := by
  have nd : ∀ {R : List NV}, Sn R → R.Nodup := fun h => List.nodup_iff_pairwise_ne.2 (h.imp fun h e => by rw [e, nlt_irr] at h; cases h)
  exact List.Perm.eq_of_pairwise (fun a b _ _ h1 h2 => by rw [nlt_asym h1] at h2; cases h2) h h' ((List.perm_ext_iff_of_nodup (nd h) (nd h')).2 e)
theorem foldP_same {P Q : List NV} (h : Fn1 P) (h' : Fn1 Q) (e : ∀ x, x ∈ P ↔ x ∈ Q) : foldP P = foldP Q :=
  (foldP_sn P).unique (foldP_sn Q) fun x => by rw [foldP_mem P h, foldP_mem Q h']; exact e x

def sz_IntS (l : List Int) : Int := l.length
def IntS_b (l : List Int) : Prop := l.length ≤ 9223372036854775807
theorem sz_IntS_0 (l : List Int) : 0 ≤ sz_IntS l := by unfold sz_IntS; omega
def IntS_r (l : List Int) : Prop := ∀ x ∈ l, (-9223372036854775808 ≤ x ∧ x ≤ 9223372036854775807)
def sz_Row (x : Row) : Int := sz_IntS x.Cells
def Row_b (x : Row) : Prop := IntS_b x.Cells
theorem sz_Row_0 (x : Row) : 0 ≤ sz_Row x := by unfold sz_Row; exact by have := sz_IntS_0 x.Cells;  omega
def Row_r (x : Row) : Prop := (-9223372036854775808 ≤ x.Id ∧ x.Id ≤ 9223372036854775807) ∧ IntS_r x.Cells
def cellF (r : Row) (col : Int) : Int := if 0 ≤ col ∧ col ≤ (r.Cells.length : Int) - 1 then r.Cells.getD col.toNat 0 else 0
def aheadB (q : Query) (a b : Row) : Bool :=
  if q.Order = 0 then decide (a.Id < b.Id) else
    let x := cellF a (w64 (q.Order - 1)); let y := cellF b (w64 (q.Order - 1))
    if x = y then decide (a.Id < b.Id) else if q.Down then decide (y < x) else decide (x < y)

theorem l2Digits_l0 (K : Bool → ByteArray → Option ByteArray) (b : Bool) : ∀ (k u : Nat) (neg : Bool) (l : List UInt8), u < 10 ^ k → u ≤ 9223372036854775808 → l.length + k ≤ 1000 → spec_l2Digits.l0 K (k + 1) (if neg = true then -(u : Int) else u) b (bl l) = K b (bl (digs u ++ l)) := by
  intro k
  induction k with
  | zero =>
    intro u neg l h _ _
    have : u = 0 := by simpa using h
    subst this
    rw [spec_l2Digits.l0]
    cases neg <;> simp [digs]
  | succ k ih =>
    intro u neg l h hu hl
    rw [spec_l2Digits.l0]
    by_cases h0 : u = 0
    · subst h0
      cases neg <;> simp [digs]
    · have hz : (if neg = true then -(u : Int) else u) ≠ 0 := by cases neg <;> simp <;> omega
      have hd : u / 10 < 10 ^ k := by rw [Nat.pow_succ] at h; omega
      have hdiv : w64 (Int.tdiv (if neg = true then -(u : Int) else u) 10) = (if neg = true then -((u / 10 : Nat) : Int) else ((u / 10 : Nat) : Int)) := by
        cases neg with
        | true => simp only [if_true]; rw [Int.neg_tdiv, Int.tdiv_eq_ediv_of_nonneg (by omega), w64_id (by omega)]; omega
        | false => simp only [if_false, Bool.false_eq_true]; rw [Int.tdiv_eq_ediv_of_nonneg (by omega), w64_id (by omega)]; omega
      have hm : Int.tmod (if neg = true then -(u : Int) else u) 10 = (if neg = true then -((u % 10 : Nat) : Int) else ((u % 10 : Nat) : Int)) := by
        cases neg with
        | true => simp only [if_true]; rw [Int.neg_tmod, Int.tmod_eq_emod_of_nonneg (by omega)]; omega
        | false => simp only [if_false, Bool.false_eq_true]; rw [Int.tmod_eq_emod_of_nonneg (by omega)]; omega
      rw [decide_eq_true hz, cond_true, hdiv, hm, digs_step (by omega)]
      have hsm : smO (bl [UInt8.ofNat (48 + u % 10)]) (bl l) = some () := smO_ok (by rw [bl_size, bl_size]; simp only [List.length_cons, List.length_nil]; omega)
      have fin : spec_l2Digits.l0 K (k + 1) (if neg = true then -((u / 10 : Nat) : Int) else ((u / 10 : Nat) : Int)) b (Ls.sa (bl [UInt8.ofNat (48 + u % 10)]) (bl l)) = K b (bl (digs (u / 10) ++ [UInt8.ofNat (48 + u % 10)] ++ l)) := by
        rw [bl_sa, ih (u / 10) neg _ hd (by omega) (by simp only [List.length_append, List.length_cons, List.length_nil]; omega)]
        simp
      by_cases hneg : (if neg = true then -((u % 10 : Nat) : Int) else ((u % 10 : Nat) : Int)) < 0
      · have hn : neg = true := by cases neg <;> simp_all <;> omega
        subst hn
        simp only [if_true] at hneg fin ⊢
        rw [decide_eq_true hneg, cond_true, w64_id (x := 0 - -((u % 10 : Nat) : Int)) (by omega), w64_id (by omega), show (48 : Int) + (0 - -((u % 10 : Nat) : Int)) = ((48 + u % 10 : Nat) : Int) by omega, wrap8 (by omega), Option.bind_some, bsO_one _ (by omega), Option.bind_some, hsm, Option.bind_some, fin]
      · have hv : (if neg = true then -((u % 10 : Nat) : Int) else ((u % 10 : Nat) : Int)) = ((u % 10 : Nat) : Int) := by cases neg <;> simp at hneg ⊢ <;> omega
        rw [decide_eq_false hneg, cond_false, hv, w64_id (by omega), show (48 : Int) + ((u % 10 : Nat) : Int) = ((48 + u % 10 : Nat) : Int) by omega, wrap8 (by omega), Option.bind_some, bsO_one _ (by omega), Option.bind_some, hsm, Option.bind_some, fin]
theorem decDigits_len : ∀ (k u : Nat), u < 10 ^ k → (digs u).length ≤ k := by
  intro k
  induction k with
  | zero => intro u h; have : u = 0 := by simpa using h
            subst this; simp [digs]
  | succ k ih =>
    intro u h
    by_cases h0 : u = 0
    · subst h0; simp [digs]
    · rw [digs_step (by omega)]
      have := ih (u / 10) (by rw [Nat.pow_succ] at h; omega)
      simp only [List.length_append, List.length_cons, List.length_nil]; omega
theorem spec_l2Digits_eq (n : Int) (h : -9223372036854775808 ≤ n ∧ n ≤ 9223372036854775807) : spec_l2Digits.f n = some (bl (Lib.itoa n)) := by
  unfold spec_l2Digits.f
  by_cases h0 : n = 0
  · subst h0
    rw [decide_eq_true rfl, cond_true, show Lib.itoa 0 = [48] by rw [Lib.itoa, if_neg (by omega), Lib.decDigits, dif_pos (by decide)]; rfl]
    rfl
  · rw [decide_eq_false h0, cond_false, joinK_eq]
    have key := l2Digits_l0 (fun (y2 : Bool) (y3 : ByteArray) =>
      bif y2 then (
      (smO (ByteArray.mk #[45]) y3).bind fun u20 =>
      some (Ls.sa (ByteArray.mk #[45]) y3))
      else (
      some y3)) (decide (n < 0)) 29 n.natAbs (decide (n < 0)) [] (by omega) (by omega) (by simp)
    have hn : (if decide (n < 0) = true then -((n.natAbs : Nat) : Int) else (n.natAbs : Nat)) = n := by
      by_cases c : n < 0
      · rw [if_pos (by simpa using c)]; omega
      · rw [if_neg (by simpa using c)]; omega
    rw [hn] at key
    have hlen := decDigits_len 29 n.natAbs (by omega)
    refine key.trans ?_
    rw [List.append_nil]
    have hdg : digs n.natAbs = Lib.decDigits n.natAbs := by unfold digs; rw [if_neg (by omega)]
    by_cases c : n < 0
    · rw [decide_eq_true c, cond_true, show ByteArray.mk #[45] = bl [45] from rfl, smO_ok (by rw [bl_size, bl_size]; simp only [List.length_cons, List.length_nil]; omega), Option.bind_some, bl_sa, hdg]
      simp [Lib.itoa, c]
    · rw [decide_eq_false c, cond_false, hdg]
      simp [Lib.itoa, c]
      try congr 2; omega

def nullJ : Json := ⟨0, 0, ByteArray.empty, [], []⟩
def orJ (j : Json) : Json := if jsonB j = true then j else nullJ
theorem impl_orNull_eq (j : Json) (h : Jw j) : impl_orNull.f j = some (orJ j) := by
  unfold impl_orNull.f orJ
  rw [impl_JsonOk_eq j h, Option.bind_some, bo3_not]
  cases jsonB j <;> rfl

def Cond_r (x : Cond) : Prop := (-9223372036854775808 ≤ x.Col ∧ x.Col ≤ 9223372036854775807) ∧ (-9223372036854775808 ≤ x.Op ∧ x.Op ≤ 9223372036854775807) ∧ (-9223372036854775808 ≤ x.V ∧ x.V ≤ 9223372036854775807)
def sz_CondS (l : List Cond) : Int := l.length
def CondS_b (l : List Cond) : Prop := l.length ≤ 9223372036854775807
theorem sz_CondS_0 (l : List Cond) : 0 ≤ sz_CondS l := by unfold sz_CondS; omega
def CondS_r (l : List Cond) : Prop := ∀ x ∈ l, Cond_r x
def sz_Query (x : Query) : Int := sz_CondS x.Where + sz_IntS x.Show
def Query_b (x : Query) : Prop := CondS_b x.Where ∧ IntS_b x.Show
theorem sz_Query_0 (x : Query) : 0 ≤ sz_Query x := by unfold sz_Query; exact by have := sz_CondS_0 x.Where; have := sz_IntS_0 x.Show;  omega
def Query_r (x : Query) : Prop := (-9223372036854775808 ≤ x.Table ∧ x.Table ≤ 9223372036854775807) ∧ CondS_r x.Where ∧ (-9223372036854775808 ≤ x.Order ∧ x.Order ≤ 9223372036854775807) ∧ (-9223372036854775808 ≤ x.First ∧ x.First ≤ 9223372036854775807) ∧ IntS_r x.Show ∧ (-9223372036854775808 ≤ x.KidTable ∧ x.KidTable ≤ 9223372036854775807) ∧ (-9223372036854775808 ≤ x.KidCol ∧ x.KidCol ≤ 9223372036854775807)
def colN (c : Int) : ByteArray := Ls.sa (ByteArray.mk #[99]) (bl (Lib.itoa c))
def colP (r : Row) (c : Int) : NV := (colN c, cellF r c)
def idP (r : Row) : NV := (ByteArray.mk #[105, 100], r.Id)
def kidsP (n : Int) : NV := (ByteArray.mk #[107, 105, 100, 115], n)
def kidsL (q : Query) (n : Int) : List NV := if q.Kids = true then [kidsP n] else []
def rowObj (q : Query) (r : Row) (n : Int) : Json := objJ (foldP (q.Show.map (colP r) ++ [idP r] ++ kidsL q n))
theorem colN_eq (c : Int) : colN c = bl (99 :: Lib.itoa c) := by
  unfold colN
  rw [show ByteArray.mk #[99] = bl [99] from rfl, bl_sa]; rfl
theorem bl_inj {a b : List UInt8} (h : bl a = bl b) : a = b := by
  have : (bl a).data.toList = (bl b).data.toList := by rw [h]
  simpa [bl] using this
theorem digs_inj : ∀ (k u v : Nat), u < 10 ^ k → v < 10 ^ k → digs u = digs v → u = v := by
  intro k
  induction k with
  | zero => intro u v h h' _; simp at h h'; omega
  | succ k ih =>
    intro u v h h' e
    rw [Nat.pow_succ] at h h'
    by_cases hu : u = 0
    · by_cases hv : v = 0
      · omega
      · rw [digs_step (u := v) (by omega)] at e
        subst hu
        simp [digs] at e
    · by_cases hv : v = 0
      · rw [digs_step (u := u) (by omega)] at e
        subst hv
        simp [digs] at e
      · rw [digs_step (by omega), digs_step (u := v) (by omega)] at e
        obtain ⟨e1, e2⟩ := List.append_inj' e rfl
        have h1 := ih _ _ (by omega) (by omega) e1
        simp only [List.cons.injEq, and_true] at e2
        have h2 : (UInt8.ofNat (48 + u % 10)).toNat = (UInt8.ofNat (48 + v % 10)).toNat := by rw [e2]
        simp only [UInt8.toNat_ofNat'] at h2
        omega
theorem decD_pos {u : Nat} (h : 0 < u) : Lib.decDigits u = digs u := by unfold digs; rw [if_neg (by omega)]
theorem decD_0 : Lib.decDigits 0 = [48] := by rw [Lib.decDigits, dif_pos (by decide)]; rfl
theorem digs_hd : ∀ (k u : Nat), u < 10 ^ k → ∀ b ∈ digs u, 48 ≤ b.toNat := by
  intro k
  induction k with
  | zero => intro u h b hb; have : u = 0 := by simpa using h
            subst this; simp [digs] at hb
  | succ k ih =>
    intro u h b hb
    by_cases h0 : u = 0
    · subst h0; simp [digs] at hb
    · rw [digs_step (by omega)] at hb
      rw [Nat.pow_succ] at h
      rcases List.mem_append.1 hb with hb | hb
      · exact ih _ (by omega) b hb
      · rw [List.mem_singleton.1 hb, UInt8.toNat_ofNat']; omega
theorem digs_first {u : Nat} (h : u < 10 ^ 29) : ∀ {l : List UInt8}, digs u = l → ∀ {x y}, l = x :: y → 0 < u → x ≠ 48 := by
  have : ∀ (k u : Nat), u < 10 ^ k → 0 < u → ∃ x y, digs u = x :: y ∧ x ≠ 48 := by
    intro k
    induction k with
    | zero => intro u h h0; simp at h; omega
    | succ k ih =>
      intro u h h0
      rw [Nat.pow_succ] at h
      rw [digs_step h0]
      by_cases c : u / 10 = 0
      · rw [c]
        refine ⟨UInt8.ofNat (48 + u % 10), [], by simp [digs], fun e => ?_⟩
        have : (UInt8.ofNat (48 + u % 10)).toNat = 48 := by rw [e]; rfl
        rw [UInt8.toNat_ofNat'] at this
        omega
      · obtain ⟨x, y, e1, e2⟩ := ih (u / 10) (by omega) (by omega)
        exact ⟨x, y ++ [UInt8.ofNat (48 + u % 10)], by rw [e1]; rfl, e2⟩
  intro l hl x y hxy h0
  obtain ⟨x', y', e1, e2⟩ := this 29 u h h0
  rw [hl, hxy] at e1
  simp only [List.cons.injEq] at e1
  rw [e1.1]; exact e2
theorem itoa_inj {a b : Int} (ha : -9223372036854775808 ≤ a ∧ a ≤ 9223372036854775807) (hb : -9223372036854775808 ≤ b ∧ b ≤ 9223372036854775807) (h : Lib.itoa a = Lib.itoa b) : a = b := by
  have key : ∀ u v : Nat, u ≤ 9223372036854775808 → v ≤ 9223372036854775808 → Lib.decDigits u = Lib.decDigits v → u = v := fun u v hu hv e => by
    by_cases u0 : u = 0
    · by_cases v0 : v = 0
      · omega
      · exfalso
        subst u0
        rw [decD_0, decD_pos (by omega)] at e
        exact digs_first (u := v) (by omega) e.symm rfl (by omega) rfl
    · by_cases v0 : v = 0
      · exfalso
        subst v0
        rw [decD_0, decD_pos (by omega)] at e
        exact digs_first (u := u) (by omega) e rfl (by omega) rfl
      · rw [decD_pos (by omega), decD_pos (by omega)] at e
        exact digs_inj 29 u v (by omega) (by omega) e
  have hd : ∀ u : Nat, u ≤ 9223372036854775808 → ∀ x ∈ Lib.decDigits u, 48 ≤ x.toNat := fun u hu x hx => by
    by_cases u0 : u = 0
    · subst u0; rw [decD_0] at hx; rw [List.mem_singleton.1 hx]; decide
    · rw [decD_pos (by omega)] at hx; exact digs_hd 29 u (by omega) x hx
  unfold Lib.itoa at h
  by_cases c1 : a < 0 <;> by_cases c2 : b < 0
  · rw [if_pos c1, if_pos c2] at h
    have := key _ _ (by omega) (by omega) (List.cons.inj h).2
    omega
  · rw [if_pos c1, if_neg c2] at h
    have := hd b.toNat (by omega) 45 (by rw [← h]; simp)
    simp at this
  · rw [if_neg c1, if_pos c2] at h
    have := hd a.toNat (by omega) 45 (by rw [h]; simp)
    simp at this
  · rw [if_neg c1, if_neg c2] at h
    have := key _ _ (by omega) (by omega) h
    omega
theorem colN_ne_id (c : Int) : colN c ≠ ByteArray.mk #[105, 100] := fun e => by
  rw [colN_eq, show ByteArray.mk #[105, 100] = bl [105, 100] from rfl] at e
  have := bl_inj e
  simp at this
theorem colN_ne_kids (c : Int) : colN c ≠ ByteArray.mk #[107, 105, 100, 115] := fun e => by
  rw [colN_eq, show ByteArray.mk #[107, 105, 100, 115] = bl [107, 105, 100, 115] from rfl] at e
  have := bl_inj e
  simp at this
theorem id_ne_kids : (ByteArray.mk #[105, 100]) ≠ ByteArray.mk #[107, 105, 100, 115] := fun e => by
  rw [show ByteArray.mk #[105, 100] = bl [105, 100] from rfl, show ByteArray.mk #[107, 105, 100, 115] = bl [107, 105, 100, 115] from rfl] at e
  have := bl_inj e
  simp at this
def In64 (l : List Int) : Prop := ∀ x ∈ l, -9223372036854775808 ≤ x ∧ x ≤ 9223372036854775807
theorem fn1_of {r : Row} {n : Int} {q : Query} {P : List NV} {cols : List Int} (hc : In64 cols) (h : ∀ x ∈ P, (∃ c ∈ cols, x = colP r c) ∨ x = idP r ∨ x = kidsP n) : Fn1 P := fun x hx y hy e => by
  rcases h x hx with ⟨c, c1, rfl⟩ | rfl | rfl <;> rcases h y hy with ⟨d, d1, rfl⟩ | rfl | rfl
  · have e : colN c = colN d := e
    rw [colN_eq, colN_eq] at e
    rw [itoa_inj (hc c c1) (hc d d1) (List.cons.inj (bl_inj e)).2]
  · exact absurd e (colN_ne_id c)
  · exact absurd e (colN_ne_kids c)
  · exact absurd e.symm (colN_ne_id d)
  · rfl
  · exact absurd e id_ne_kids
  · exact absurd e.symm (colN_ne_kids d)
  · exact absurd e.symm id_ne_kids
  · rfl

theorem l1Put_A (J : Json) (n : ByteArray) (x : Json) (K : List Json → List ByteArray → Bool → Option Json) (pl : List NV) (hN : J.Names = pl.map (·.1)) (hL : J.List_ = pl.map fun p => numJ p.2) (hlen : pl.length ≤ 10000000) :
    ∀ (k i : Nat) (L : List Json) (N : List ByteArray), i ≤ pl.length → pl.length < i + k → L.length ≤ i + 1 → N.length ≤ i + 1 →
    spec_l1Put.l0 J n x K k L N true i = K (L ++ ((pl.drop i).filter fun p => decide (p.1 ≠ n)).map fun p => numJ p.2) (N ++ ((pl.drop i).filter fun p => decide (p.1 ≠ n)).map (·.1)) true := by
  intro k
  induction k with
  | zero => intro i L N h h'; omega
  | succ k ih =>
    intro i L N h h' h1 h2
    rw [spec_l1Put.l0, hN, hL, lenI_eq, List.length_map]
    by_cases hi : i < pl.length
    · rw [decide_eq_true (by omega), cond_true, joinK_eq, show bo3 true false true = false from rfl, gd_false, Option.bind_some, bo3_F, cond_false, getO_nat, List.getElem?_map, List.getElem?_eq_getElem hi, Option.map_some]
      dsimp only
      rw [Option.bind_some, sc_neq', List.drop_eq_getElem_cons hi, w64_succ (by omega)]
      by_cases c : (pl[i]).1 ≠ n
      · rw [decide_eq_true c, cond_true, Option.bind_some, appO_ok (by simp only [List.length_cons, List.length_nil]; omega), Option.bind_some, getO_nat, List.getElem?_map, List.getElem?_eq_getElem hi, Option.map_some, Option.bind_some, Option.bind_some, appO_ok (by simp only [List.length_cons, List.length_nil]; omega), Option.bind_some, List.filter_cons_of_pos (by simpa using c), ih (i + 1) _ _ (by omega) (by omega) (by simp only [List.length_append, List.length_cons, List.length_nil]; omega) (by simp only [List.length_append, List.length_cons, List.length_nil]; omega)]
        simp
      · rw [decide_eq_false c, cond_false, List.filter_cons_of_neg (by simpa using c), ih (i + 1) _ _ (by omega) (by omega) (by omega) (by omega)]
    · rw [decide_eq_false (by omega), cond_false, List.drop_eq_nil_of_le (by omega)]
      simp
theorem filt_lt {n : ByteArray} {p : NV} {P : List NV} (h : Sn (p :: P)) (hp : nlt p.1 n = false) : (p :: P).filter (fun x => nlt x.1 n) = [] ∧ (p :: P).filter (fun x => nlt n x.1) = (p :: P).filter (fun x => decide (x.1 ≠ n)) := by
  have hP := List.pairwise_cons.1 h
  have hge : ∀ x ∈ p :: P, nlt x.1 n = false := fun x hx => by
    rcases List.mem_cons.1 hx with rfl | hx
    · exact hp
    · cases c : nlt x.1 n with
      | false => rfl
      | true => rw [nlt_trans (hP.1 x hx) c] at hp; cases hp
  refine ⟨List.filter_eq_nil_iff.2 fun x hx => by rw [hge x hx]; simp, List.filter_congr fun x hx => ?_⟩
  by_cases e : x.1 = n
  · rw [e, nlt_irr, decide_eq_false (by simp)]
  · rw [nlt_tot e (hge x hx), decide_eq_true e]
theorem l1Put_B (J : Json) (p : NV) (pl : List NV) (hs : Sn pl) (hN : J.Names = pl.map (·.1)) (hL : J.List_ = pl.map fun p => numJ p.2) (hlen : pl.length ≤ 10000000) :
    ∀ (k i : Nat), i ≤ pl.length → pl.length < i + k →
    spec_l1Put.l0 J p.1 (numJ p.2) (fun (y1 : List Json) (y2 : List ByteArray) (y3 : Bool) =>
  bif (bo3 y3 false true) then (
  (some [p.1]).bind fun l77 =>
  (appO 16 y2 l77).bind fun l78 =>
  (some [numJ p.2]).bind fun l79 =>
  (appO 80 y1 l79).bind fun l80 =>
  some (Json.mk 5 0 ByteArray.empty l80 l78))
  else (
  some (Json.mk 5 0 ByteArray.empty y1 y2))) k ((pl.take i).map fun p => numJ p.2) ((pl.take i).map (·.1)) false i = some (objJ (pl.take i ++ putP (pl.drop i) p)) := by
  intro k
  induction k with
  | zero => intro i h h'; omega
  | succ k ih =>
    intro i h h'
    rw [spec_l1Put.l0, hN, hL, lenI_eq, List.length_map]
    have ht : (pl.take i).length = i := by rw [List.length_take]; omega
    by_cases hi : i < pl.length
    · have hx : pl[i]? = some pl[i] := List.getElem?_eq_getElem hi
      have hsd : Sn (pl[i] :: pl.drop (i + 1)) := by rw [← List.drop_eq_getElem_cons hi]; exact List.Pairwise.sublist (List.drop_sublist ..) hs
      rw [decide_eq_true (by omega), cond_true, joinK_eq, show bo3 false false true = true from rfl, gd_true, getO_nat, List.getElem?_map, hx, Option.map_some, Option.bind_some, bo3_T, sc_geq, List.drop_eq_getElem_cons hi]
      cases c : nlt (pl[i]).1 p.1 with
      | true =>
        have hne : (pl[i]).1 ≠ p.1 := fun e => by rw [e, nlt_irr] at c; cases c
        rw [Bool.not_true, cond_false]
        dsimp only
        rw [Option.bind_some, sc_neq', decide_eq_true hne, cond_true, Option.bind_some, appO_ok (by simp only [List.length_map, ht, List.length_cons, List.length_nil]; omega), Option.bind_some, getO_nat, List.getElem?_map, hx, Option.map_some, Option.bind_some, Option.bind_some, appO_ok (by simp only [List.length_map, ht, List.length_cons, List.length_nil]; omega), Option.bind_some, w64_succ (by omega)]
        have e1 : ((pl.take i).map fun p => numJ p.2) ++ [numJ (pl[i]).2] = (pl.take (i + 1)).map fun p => numJ p.2 := by rw [take_snoc hx, List.map_append]; rfl
        have e2 : ((pl.take i).map (·.1)) ++ [(pl[i]).1] = (pl.take (i + 1)).map (·.1) := by rw [take_snoc hx, List.map_append]; rfl
        have e3 : putP (pl[i] :: pl.drop (i + 1)) p = pl[i] :: putP (pl.drop (i + 1)) p := by
          unfold putP
          rw [List.filter_cons_of_pos (p := fun x : NV => nlt x.1 p.1) c, List.filter_cons_of_neg (p := fun x : NV => nlt p.1 x.1) (by rw [nlt_asym c]; simp)]; rfl
        rw [e1, e2, ih (i + 1) (by omega) (by omega), e3, take_snoc hx, List.append_assoc]
        rfl
      | false =>
        obtain ⟨f1, f2⟩ := filt_lt hsd c
        have e3 : putP (pl[i] :: pl.drop (i + 1)) p = p :: ((pl[i] :: pl.drop (i + 1)).filter fun x => decide (x.1 ≠ p.1)) := by
          unfold putP; rw [f1, f2]; rfl
        rw [Bool.not_false, cond_true, Option.bind_some, appO_ok (by simp only [List.length_map, ht, List.length_cons, List.length_nil]; omega), Option.bind_some, Option.bind_some, appO_ok (by simp only [List.length_map, ht, List.length_cons, List.length_nil]; omega), Option.bind_some]
        dsimp only
        rw [Option.bind_some, sc_neq', w64_succ (by omega), e3]
        have A := l1Put_A J p.1 (numJ p.2) (fun (y1 : List Json) (y2 : List ByteArray) (y3 : Bool) =>
  bif (bo3 y3 false true) then (
  (some [p.1]).bind fun l77 =>
  (appO 16 y2 l77).bind fun l78 =>
  (some [numJ p.2]).bind fun l79 =>
  (appO 80 y1 l79).bind fun l80 =>
  some (Json.mk 5 0 ByteArray.empty l80 l78))
  else (
  some (Json.mk 5 0 ByteArray.empty y1 y2))) pl hN hL hlen k (i + 1)
        by_cases e : (pl[i]).1 ≠ p.1
        · rw [decide_eq_true e, cond_true, Option.bind_some, appO_ok (by simp only [List.length_append, List.length_map, ht, List.length_cons, List.length_nil]; omega), Option.bind_some, getO_nat, List.getElem?_map, hx, Option.map_some, Option.bind_some, Option.bind_some, appO_ok (by simp only [List.length_append, List.length_map, ht, List.length_cons, List.length_nil]; omega), Option.bind_some, A _ _ (by omega) (by omega) (by simp only [List.length_append, List.length_map, ht, List.length_cons, List.length_nil]; omega) (by simp only [List.length_append, List.length_map, ht, List.length_cons, List.length_nil]; omega), show bo3 true false true = false from rfl, cond_false, List.filter_cons_of_pos (by simpa using e)]
          simp [objJ]
        · rw [decide_eq_false e, cond_false, A _ _ (by omega) (by omega) (by simp only [List.length_append, List.length_map, ht, List.length_cons, List.length_nil]; omega) (by simp only [List.length_append, List.length_map, ht, List.length_cons, List.length_nil]; omega), show bo3 true false true = false from rfl, cond_false, List.filter_cons_of_neg (by simpa using e)]
          simp [objJ]
    · have : i = pl.length := by omega
      subst this
      rw [decide_eq_false (by omega), cond_false, show bo3 false false true = true from rfl, cond_true, Option.bind_some, appO_ok (by simp only [List.length_map, ht, List.length_cons, List.length_nil]; omega), Option.bind_some, Option.bind_some, appO_ok (by simp only [List.length_map, ht, List.length_cons, List.length_nil]; omega), Option.bind_some, List.drop_length]
      simp [objJ, putP]
theorem spec_l1Put_eq (J : Json) (p : NV) (pl : List NV) (hs : Sn pl) (hN : J.Names = pl.map (·.1)) (hL : J.List_ = pl.map fun p => numJ p.2) (hlen : pl.length ≤ 10000000) : spec_l1Put.f J p.1 (numJ p.2) = some (objJ (putP pl p)) := by
  unfold spec_l1Put.f
  rw [joinK_eq]
  exact l1Put_B J p pl hs hN hL hlen (((lenI J.Names) - 0).toNat + 1) 0 (by omega) (by rw [hN, lenI_eq, List.length_map]; omega)

theorem spec_l1In_eq (x y z : Int) : spec_l1In.f x y z = some (decide (y ≤ x ∧ x ≤ z)) := by
  unfold spec_l1In.f
  rw [bo3_and, Bool.decide_and]

theorem spec_l9Cell_eq (r : Row) (col : Int) (h : Row_b r) : spec_l9Cell.f r col = some (cellF r col) := by
  have hl : r.Cells.length ≤ 9223372036854775807 := h
  unfold spec_l9Cell.f cellF
  rw [lenI_eq, w64_id (by omega), spec_l1In_eq, Option.bind_some, bo3_not]
  by_cases d : 0 ≤ col ∧ col ≤ (r.Cells.length : Int) - 1
  · rw [decide_eq_true d, Bool.not_true, cond_false, getO_Int d, Option.bind_some, if_pos d]
  · rw [decide_eq_false d, Bool.not_false, cond_true, if_neg d]

theorem itoa_len (n : Int) (h : -9223372036854775808 ≤ n ∧ n ≤ 9223372036854775807) : (Lib.itoa n).length ≤ 30 := by
  have hd : ∀ u : Nat, u ≤ 9223372036854775808 → (Lib.decDigits u).length ≤ 29 := fun u hu => by
    by_cases u0 : u = 0
    · subst u0; rw [decD_0]; simp
    · rw [decD_pos (by omega)]; exact decDigits_len 29 u (by omega)
  unfold Lib.itoa
  split
  · have := hd n.natAbs (by omega); simp only [List.length_cons]; omega
  · have := hd n.toNat (by omega); omega
theorem colN_size (n : Int) (h : -9223372036854775808 ≤ n ∧ n ≤ 9223372036854775807) : (colN n).size ≤ 31 := by
  rw [colN_eq, bl_size]
  have := itoa_len n h
  simp only [List.length_cons]; omega
theorem put_c (n : Int) (h : -9223372036854775808 ≤ n ∧ n ≤ 9223372036854775807) : smO (ByteArray.mk #[99]) (bl (Lib.itoa n)) = some () := smO_ok (by
  rw [bl_size, show (ByteArray.mk #[99]).size = 1 from rfl]
  have := itoa_len n h
  omega)
theorem l11Row_l0 (q : Query) (r : Row) (hr : Row_b r) (hc : In64 q.Show) (hl : q.Show.length ≤ 2097152) (K : Int → Int → ByteArray → List Json → List ByteArray → Option Json) : ∀ (k i : Nat), i ≤ q.Show.length → q.Show.length < i + k →
    spec_l11Row.l0 q r K k 5 0 ByteArray.empty ((foldP ((q.Show.take i).map (colP r))).map fun p => numJ p.2) ((foldP ((q.Show.take i).map (colP r))).map (·.1)) i = K 5 0 ByteArray.empty ((foldP (q.Show.map (colP r))).map fun p => numJ p.2) ((foldP (q.Show.map (colP r))).map (·.1)) := by
  intro k
  induction k with
  | zero => intro i h h'; omega
  | succ k ih =>
    intro i h h'
    rw [spec_l11Row.l0, lenI_eq]
    by_cases hi : i < q.Show.length
    · have hx : q.Show[i]? = some q.Show[i] := List.getElem?_eq_getElem hi
      have h64 := hc _ (List.getElem_mem hi)
      have hlen := foldP_len ((q.Show.take i).map (colP r))
      rw [List.length_map, List.length_take] at hlen
      rw [decide_eq_true (by omega), cond_true, getO_nat, hx, Option.bind_some, spec_l2Digits_eq _ h64, Option.bind_some, put_c _ h64, Option.bind_some, spec_l9Cell_eq r _ hr, Option.bind_some]
      unfold spec_l11Num.f
      rw [Option.bind_some, w64_succ (by omega)]
      have := spec_l1Put_eq (Json.mk 5 0 ByteArray.empty ((foldP ((q.Show.take i).map (colP r))).map fun p => numJ p.2) ((foldP ((q.Show.take i).map (colP r))).map (·.1))) (colP r q.Show[i]) _ (foldP_sn _) rfl rfl (by omega)
      refine (congrArg (fun o => Option.bind o _) this).trans ?_
      rw [Option.bind_some]
      have e : putP (foldP ((q.Show.take i).map (colP r))) (colP r q.Show[i]) = foldP ((q.Show.take (i + 1)).map (colP r)) := by
        rw [take_snoc hx, List.map_append, ← foldP_snoc]; rfl
      rw [e]
      exact ih (i + 1) (by omega) (by omega)
    · have : i = q.Show.length := by omega
      subst this
      rw [decide_eq_false (by omega), cond_false, List.take_length]
theorem spec_l11Row_eq (q : Query) (r : Row) (n : Int) (hr : Row_b r) (hc : In64 q.Show) (hl : q.Show.length ≤ 2097152) : spec_l11Row.f q r n = some (rowObj q r n) := by
  unfold spec_l11Row.f rowObj
  rw [joinK_eq]
  have hlen := foldP_len (q.Show.map (colP r))
  rw [List.length_map] at hlen
  refine (l11Row_l0 q r hr hc hl _ (((lenI q.Show) - 0).toNat + 1) 0 (by omega) (by rw [lenI_eq]; omega)).trans ?_
  unfold spec_l11Num.f
  rw [Option.bind_some]
  have h1 := spec_l1Put_eq (Json.mk 5 0 ByteArray.empty ((foldP (q.Show.map (colP r))).map fun p => numJ p.2) ((foldP (q.Show.map (colP r))).map (·.1))) (idP r) _ (foldP_sn _) rfl rfl (by omega)
  refine (congrArg (fun o => Option.bind o _) h1).trans ?_
  rw [Option.bind_some, ← foldP_snoc]
  cases hk : q.Kids with
  | false =>
    rw [cond_false]
    simp [kidsL, hk]
  | true =>
    rw [cond_true, Option.bind_some]
    have hlen2 := foldP_len (q.Show.map (colP r) ++ [idP r])
    rw [List.length_append, List.length_map, List.length_singleton] at hlen2
    have h2 := spec_l1Put_eq (objJ (foldP (q.Show.map (colP r) ++ [idP r]))) (kidsP n) _ (foldP_sn _) rfl rfl (by omega)
    refine (congrArg (fun o => Option.bind o _) h2).trans ?_
    rw [Option.bind_some, ← foldP_snoc]
    simp [kidsL, hk]

theorem foldP_memF {P : List NV} {x : NV} : x ∈ foldP P → x ∈ P := by
  have : ∀ (P acc : List NV), x ∈ P.foldl putP acc → x ∈ P ∨ x ∈ acc := by
    intro P
    induction P with
    | nil => intro acc h; exact .inr h
    | cons p P ih =>
      intro acc h
      rcases ih _ h with h | h
      · exact .inl (List.mem_cons_of_mem _ h)
      · rcases mem_putP.1 h with rfl | h
        · exact .inl (List.mem_cons_self ..)
        · exact .inr h.1
  intro h
  exact (this P [] h).elim id (by simp)
theorem numJ_w (n : Int) : Jw (numJ n) := (Jw_eq _).2 ⟨by show ((0 : Nat) : Int) ≤ _; omega, by simp [numJ], by simp [numJ], by simp [numJ], by simp [numJ]⟩
theorem objJ_w {P : List NV} (hl : P.length ≤ 4194304) (hs : ∀ x ∈ P, x.1.size ≤ 31) : Jw (objJ P) := (Jw_eq _).2 ⟨by show ((0 : Nat) : Int) ≤ _; omega, fun x hx => by
  obtain ⟨p, hp, rfl⟩ := List.mem_map.1 hx
  have := hs p hp
  omega, by simp only [objJ, List.length_map]; omega, by simp only [objJ, List.length_map]; omega, fun x hx => by
  obtain ⟨p, hp, rfl⟩ := List.mem_map.1 hx
  exact numJ_w _⟩
theorem objJ_sz (P : List NV) : szj (objJ P) = 2 * (P.length : Int) ∧ dpj (objJ P) ≤ 2 := by
  have h1 : ∀ l : List NV, szL (l.map fun p => numJ p.2) = l.length ∧ dpL (l.map fun p => numJ p.2) ≤ 1 := by
    intro l
    induction l with
    | nil => simp [szL, dpL]
    | cons p l ih =>
      have e1 : szj (numJ p.2) = 0 := by simp [numJ, szj, szL]
      have e2 : dpj (numJ p.2) = 1 := by simp [numJ, dpj, dpL]
      rw [List.map_cons, szL, dpL, e1, e2, ih.1, List.length_cons]
      omega
  have := h1 P
  refine ⟨?_, ?_⟩
  · show szj ⟨5, 0, ByteArray.empty, _, _⟩ = _
    rw [szj, this.1, List.length_map]; omega
  · show dpj ⟨5, 0, ByteArray.empty, _, _⟩ ≤ _
    rw [dpj]; omega
theorem rowPs_size {q : Query} {r : Row} {n : Int} (hc : In64 q.Show) : ∀ x ∈ foldP (q.Show.map (colP r) ++ [idP r] ++ kidsL q n), x.1.size ≤ 31 := fun x hx => by
  have := foldP_memF hx
  simp only [List.mem_append, List.mem_map, List.mem_singleton] at this
  rcases this with (⟨c, h1, rfl⟩ | rfl) | h
  · exact colN_size c (hc c h1)
  · show (ByteArray.mk #[105, 100]).size ≤ 31; decide
  · unfold kidsL at h
    split at h
    · rw [List.mem_singleton.1 h]; show (ByteArray.mk #[107, 105, 100, 115]).size ≤ 31; decide
    · simp at h
theorem rowObj_w {q : Query} {r : Row} {n : Int} (hc : In64 q.Show) (hl : q.Show.length ≤ 2097152) : Jw (rowObj q r n) ∧ szj (rowObj q r n) ≤ 8388608 ∧ dpj (rowObj q r n) ≤ 2 := by
  have h1 := foldP_len (q.Show.map (colP r) ++ [idP r] ++ kidsL q n)
  have h2 : (kidsL q n).length ≤ 1 := by unfold kidsL; split <;> simp
  simp only [List.length_append, List.length_map, List.length_singleton] at h1
  have := objJ_sz (foldP (q.Show.map (colP r) ++ [idP r] ++ kidsL q n))
  exact ⟨objJ_w (by omega) (rowPs_size hc), by unfold rowObj; omega, by unfold rowObj; omega⟩
theorem orJ_sz {j : Json} (h : szj j ≤ 1000000000) (hd : dpj j ≤ 500) : Json_b (orJ j) ∧ sz_Json (orJ j) ≤ 1000000000 := by
  have key : sz_Json (orJ j) ≤ 1000000000 := by
    unfold orJ
    split
    · unfold sz_Json; rw [if_pos hd]; omega
    · unfold sz_Json
      have : dpj nullJ ≤ 500 := by simp [nullJ, dpj, dpL]
      rw [if_pos this]
      simp [nullJ, szj, szL]
  exact ⟨by unfold Json_b; omega, key⟩

def sz_RowS (l : List Row) : Int := l.length + (l.map sz_Row).sum
def RowS_b (l : List Row) : Prop := l.length ≤ 9223372036854775807 ∧ ∀ x ∈ l, Row_b x
theorem sz_RowS_0 (l : List Row) : 0 ≤ sz_RowS l := by have := sum_nonneg sz_Row_0 l; unfold sz_RowS; omega
def RowS_r (l : List Row) : Prop := ∀ x ∈ l, Row_r x
theorem cap_le {f : Json → Int} (hf : ∀ x, 1 ≤ f x ∧ f x ≤ 401) : ∀ (l : List Json) (n : Int), 0 ≤ n → n ≤ 400 → capL f n l ≤ 400 → capL f n l = n + (l.map f).sum ∧ ∀ x ∈ l, f x ≤ 400
  | [], n, _, _, _ => by simp [capL]
  | x :: l, n, h0, hn, h => by
    have hfx := hf x
    rw [capL] at h ⊢
    split at h
    · omega
    · rename_i c
      rw [if_neg c]
      obtain ⟨h1, h2⟩ := cap_le hf l (n + f x) (by omega) (by omega) h
      refine ⟨by rw [h1, List.map_cons, List.sum_cons]; omega, fun y hy => ?_⟩
      rcases List.mem_cons.1 hy with rfl | hy
      · omega
      · exact h2 y hy
theorem own_names {j : Json} (h : ownB j = true) : j.Names.length ≤ j.List_.length := by
  rw [own_k3, Bool.and_eq_true] at h
  have h2 := h.2
  unfold k3B at h2
  simp only [Bool.not_eq_true', Bool.or_eq_false_iff] at h2
  have h3 := h2.2
  by_cases k5 : j.Kind = 5
  · rw [if_pos k5] at h3
    simp only [Bool.not_eq_false', Bool.and_eq_true, decide_eq_true_eq] at h3
    omega
  · rw [if_neg k5] at h3
    simp only [Bool.not_eq_false', decide_eq_true_eq] at h3
    omega
theorem sizeF_szj : ∀ (d : Nat) (j : Json), sizeF d j ≤ 400 → szj j ≤ 2 * sizeF d j - 2 ∧ dpj j ≤ d
  | 0, j, h => by rw [sizeF] at h; omega
  | d + 1, j, h => by
    rw [sizeF] at h ⊢
    split at h
    · rename_i ho
      rw [if_pos ho]
      obtain ⟨h1, h2⟩ := cap_le (sizeF_range d) j.List_ 1 (by omega) (by omega) h
      have hn := own_names ho
      rw [h1, szj_eq, dpj_eq]
      have hL : ∀ l : List Json, (∀ x ∈ l, sizeF d x ≤ 400) → szL l + (l.length : Int) ≤ 2 * (l.map (sizeF d)).sum ∧ dpL l ≤ d := by
        intro l
        induction l with
        | nil => intro _; simp [szL, dpL]
        | cons x l ih =>
          intro hx
          obtain ⟨a1, a2⟩ := ih fun y hy => hx y (by simp [hy])
          obtain ⟨b1, b2⟩ := sizeF_szj d x (hx x (by simp))
          rw [szL, dpL, List.map_cons, List.sum_cons, List.length_cons]
          exact ⟨by omega, by omega⟩
      obtain ⟨c1, c2⟩ := hL j.List_ h2
      exact ⟨by omega, by omega⟩
    · omega
theorem orJ_b (j : Json) : Json_b (orJ j) ∧ sz_Json (orJ j) ≤ 1000 := by
  have key : sz_Json (orJ j) ≤ 1000 := by
    unfold orJ
    split
    · rename_i h
      unfold jsonB at h
      rw [decide_eq_true_eq] at h
      obtain ⟨h1, h2⟩ := sizeF_szj 6 j h
      unfold sz_Json; rw [if_pos (by omega)]; omega
    · unfold sz_Json
      have : dpj nullJ ≤ 500 := by simp [nullJ, dpj, dpL]
      rw [if_pos this]
      simp [nullJ, szj, szL]
  exact ⟨by unfold Json_b; omega, key⟩
theorem sizeF_deep : ∀ (d e : Nat) (j : Json), dpj j ≤ d → dpj j ≤ e → sizeF d j = sizeF e j
  | 0, e, j, h, _ => by rw [dpj_eq] at h; omega
  | d + 1, 0, j, _, h => by rw [dpj_eq] at h; omega
  | d + 1, e + 1, j, h, h' => by
    rw [dpj_eq] at h h'
    rw [sizeF, sizeF]
    have : ∀ (l : List Json) (n : Int), dpL l ≤ d → dpL l ≤ e → capL (sizeF d) n l = capL (sizeF e) n l := by
      intro l
      induction l with
      | nil => intro n _ _; rfl
      | cons x l ih =>
        intro n h1 h2
        rw [dpL] at h1 h2
        rw [capL, capL, sizeF_deep d e x (by omega) (by omega), ih _ (by omega) (by omega)]
    rw [this j.List_ 1 (by omega) (by omega)]
def docsF (q : Query) (kids : List Int) : List Row → Nat → List Json
  | [], _ => []
  | r :: l, i => rowObj q r (kids.getD i 0) :: docsF q kids l (i + 1)
def firstF (q : Query) (n : Nat) : Nat := if q.First = 0 then n else if q.First ≤ 0 then 0 else min n q.First.toNat
def docObj (q : Query) (rows : List Row) (kids : List Int) : Json := ⟨5, 0, ByteArray.empty, [numJ rows.length, ⟨4, 0, ByteArray.empty, docsF q kids (rows.take (firstF q rows.length)) 0, []⟩], [ByteArray.mk #[99, 111, 117, 110, 116], ByteArray.mk #[114, 111, 119, 115]]⟩
def docOfF (q : Query) (rows : List Row) (kids : List Int) : Json := orJ (docObj q rows kids)
theorem firstF_le (q : Query) (n : Nat) : firstF q n ≤ n := by unfold firstF; split <;> (try split) <;> omega
theorem docsF_len (q : Query) (kids : List Int) : ∀ (l : List Row) (i : Nat), (docsF q kids l i).length = l.length
  | [], _ => rfl
  | r :: l, i => by rw [docsF, List.length_cons, List.length_cons, docsF_len q kids l]
theorem docsF_snoc (q : Query) (kids : List Int) : ∀ (l : List Row) (i : Nat) (r : Row), docsF q kids (l ++ [r]) i = docsF q kids l i ++ [rowObj q r (kids.getD (i + l.length) 0)]
  | [], i, r => rfl
  | x :: l, i, r => by
    rw [List.cons_append, docsF, docsF_snoc q kids l, docsF, List.cons_append, List.length_cons, Nat.add_assoc, Nat.add_comm 1]
theorem docsF_mem {q : Query} {kids : List Int} : ∀ {l : List Row} {i : Nat} {x : Json}, x ∈ docsF q kids l i → ∃ r n, x = rowObj q r n
  | r :: l, i, x, h => by
    rw [docsF] at h
    rcases List.mem_cons.1 h with rfl | h
    · exact ⟨_, _, rfl⟩
    · exact docsF_mem h
theorem docObj_w {q : Query} {rows : List Row} {kids : List Int} (hc : In64 q.Show) (hl : q.Show.length ≤ 2097152) (hr : rows.length ≤ 2097152) : Jw (docObj q rows kids) := by
  refine (Jw_eq _).2 ⟨by show ((0 : Nat) : Int) ≤ _; omega, fun x hx => ?_, by simp [docObj], by simp [docObj], fun x hx => ?_⟩
  · simp only [docObj, List.mem_cons, List.not_mem_nil, or_false] at hx
    rcases hx with rfl | rfl
    · show ((5 : Nat) : Int) ≤ _; omega
    · show ((4 : Nat) : Int) ≤ _; omega
  · simp only [docObj, List.mem_cons, List.not_mem_nil, or_false] at hx
    rcases hx with rfl | rfl
    · exact numJ_w _
    · refine (Jw_eq _).2 ⟨by show ((0 : Nat) : Int) ≤ _; omega, by simp, by simp, ?_, fun x hx => ?_⟩
      · dsimp only
        rw [docsF_len, List.length_take]; omega
      · obtain ⟨r, n, rfl⟩ := docsF_mem hx
        exact (rowObj_w hc hl).1
/-- A document of rows of which one is not right is not right. -/
theorem docObj_bad {q : Query} {rows : List Row} {kids : List Int} (hc : In64 q.Show) (hl : q.Show.length ≤ 2097152) {x : Json} (hx : x ∈ docsF q kids (rows.take (firstF q rows.length)) 0) (hb : jsonB x = false) : jsonB (docObj q rows kids) = false := by
  unfold jsonB at *
  rw [decide_eq_false_iff_not] at *
  intro h
  obtain ⟨r, n, rfl⟩ := docsF_mem hx
  have hd := (rowObj_w (q := q) (r := r) (n := n) hc hl).2.2
  rw [sizeF] at h
  split at h
  · obtain ⟨_, h2⟩ := cap_le (sizeF_range 5) _ 1 (by omega) (by omega) h
    have h3 := h2 ⟨4, 0, ByteArray.empty, docsF q kids (rows.take (firstF q rows.length)) 0, []⟩ (by simp [docObj])
    rw [sizeF] at h3
    split at h3
    · obtain ⟨_, h4⟩ := cap_le (sizeF_range 4) _ 1 (by omega) (by omega) h3
      have := h4 _ hx
      rw [sizeF_deep 4 6 _ (by omega) (by omega)] at this
      exact hb this
    · omega
  · omega

theorem orJ_d (j : Json) : dpj (orJ j) ≤ 6 ∧ szj (orJ j) ≤ 1000 := by
  unfold orJ
  split
  · rename_i h
    unfold jsonB at h
    rw [decide_eq_true_eq] at h
    obtain ⟨h1, h2⟩ := sizeF_szj 6 j h
    omega
  · simp [nullJ, dpj, dpL, szj, szL]
theorem docsF_get (q : Query) (kids : List Int) : ∀ (l : List Row) (j i : Nat), (docsF q kids l j)[i]? = l[i]?.map fun r => rowObj q r (kids.getD (j + i) 0)
  | [], _, _ => by simp [docsF]
  | r :: l, j, 0 => by simp [docsF]
  | r :: l, j, i + 1 => by
    rw [docsF, List.getElem?_cons_succ, docsF_get q kids l (j + 1) i, List.getElem?_cons_succ, show j + 1 + i = j + (i + 1) from by omega]
theorem docObj_row {q : Query} {rows : List Row} {kids : List Int} (hc : In64 q.Show) (hl : q.Show.length ≤ 2097152) (h : jsonB (docObj q rows kids) = true) {x : Json} (hx : x ∈ docsF q kids (rows.take (firstF q rows.length)) 0) : jsonB x = true := by
  cases c : jsonB x with
  | true => rfl
  | false => rw [docObj_bad hc hl hx c] at h; cases h
theorem docObj_list {q : Query} {rows : List Row} {kids : List Int} (h : jsonB (docObj q rows kids) = true) : dpj (⟨4, 0, ByteArray.empty, docsF q kids (rows.take (firstF q rows.length)) 0, []⟩ : Json) ≤ 6 ∧ szj (⟨4, 0, ByteArray.empty, docsF q kids (rows.take (firstF q rows.length)) 0, []⟩ : Json) ≤ 1000 := by
  unfold jsonB at h
  rw [decide_eq_true_eq] at h
  obtain ⟨h1, h2⟩ := sizeF_szj 6 _ h
  rw [szj_eq] at h1
  rw [dpj_eq] at h2
  have m : (⟨4, 0, ByteArray.empty, docsF q kids (rows.take (firstF q rows.length)) 0, []⟩ : Json) ∈ (docObj q rows kids).List_ := by simp [docObj]
  have := szL_mem m
  have := dpL_mem m
  omega

theorem impl_Field_rows (q : Query) (rows : List Row) (kids : List Int) (hw : Jw (docObj q rows kids)) (h : jsonB (docObj q rows kids) = true) : impl_Field.f (docObj q rows kids) (ByteArray.mk #[114, 111, 119, 115]) = some (⟨4, 0, ByteArray.empty, docsF q kids (rows.take (firstF q rows.length)) 0, []⟩, true) := by
  unfold impl_Field.f
  obtain ⟨h1, h2⟩ := docObj_list h
  rw [show slices_Index_string.f (docObj q rows kids).Names (ByteArray.mk #[114, 111, 119, 115]) = some 1 from by show slices_Index_string.f [ByteArray.mk #[99, 111, 117, 110, 116], ByteArray.mk #[114, 111, 119, 115]] _ = _; decide +kernel, Option.bind_some, impl_JsonOk_eq _ hw, h, Option.bind_some]
  refine (congrArg (fun o => Option.bind o _) (impl_copyJson_eq _ (by omega) (by omega))).trans ?_
  rfl
theorem impl_Field_count (q : Query) (rows : List Row) (kids : List Int) (hw : Jw (docObj q rows kids)) (h : jsonB (docObj q rows kids) = true) : impl_Field.f (docObj q rows kids) (ByteArray.mk #[99, 111, 117, 110, 116]) = some (numJ rows.length, true) := by
  unfold impl_Field.f
  rw [show slices_Index_string.f (docObj q rows kids).Names (ByteArray.mk #[99, 111, 117, 110, 116]) = some 0 from by show slices_Index_string.f [ByteArray.mk #[99, 111, 117, 110, 116], ByteArray.mk #[114, 111, 119, 115]] _ = _; decide +kernel, Option.bind_some, impl_JsonOk_eq _ hw, h, Option.bind_some]
  rw [show bo3 (bo3 true false true) true (decide ((0 : Int) < 0)) = false from rfl, cond_false, show getO (docObj q rows kids).List_ 0 = some (numJ rows.length) from rfl, Option.bind_some, impl_copyJson_eq (numJ rows.length) (by simp [numJ, dpj, dpL]) (by simp [numJ, szj, szL])]
  rfl

theorem slices_Equal_string_eq (a b : List ByteArray) (ha : (a.length : Int) ≤ 9223372036854775807) : slices_Equal_string.f a b = some (decide (a = b)) := by
  unfold slices_Equal_string.f
  by_cases hl : a.length = b.length
  · rw [decide_eq_false (by simp only [lenI_eq]; omega), cond_false]
    refine (loop_eq (f := slices_Equal_string.l0 a b) hl (some false) (some true) (fun k i x y hx hy => ?_) (fun k i hi => ?_) _ (by simp only [lenI_eq]; omega)).trans ?_
    · have hi := at_lt hx
      rw [slices_Equal_string.l0, lenI_eq, decide_eq_true (by omega), cond_true, getO_nat, hx, Option.bind_some, getO_nat, hy, Option.bind_some, sc_neq', w64_succ (by omega)]
      by_cases c : x = y
      · simp [c]
      · simp [c]
    · rw [slices_Equal_string.l0, lenI_eq, decide_eq_false (by omega), cond_false]
    · cases decide (a = b) <;> rfl
  · rw [decide_eq_true (by simp only [lenI_eq]; omega), cond_true, decide_eq_false (fun e => hl (by rw [e]))]

theorem slices_EqualFunc_alike_self (self : Json → Json → Option Bool) (a : List Json) (hl : (a.length : Int) ≤ 9223372036854775806) (h : ∀ x ∈ a, self x x = some true) : slices_EqualFunc_impl_Json__impl_alike.f self a a = some true := by
  unfold slices_EqualFunc_impl_Json__impl_alike.f
  rw [decide_eq_false (by simp), cond_false]
  refine (loop_all (f := slices_EqualFunc_impl_Json__impl_alike.l0 a a self) (l := a) (fun _ _ => true) (some false) (some true) (fun k' i x hx => ?_) (fun k' i hi => ?_) _ 0 (by omega) (by rw [lenI_eq]; omega)).trans ?_
  · have hi := at_lt hx
    rw [slices_EqualFunc_impl_Json__impl_alike.l0, lenI_eq, decide_eq_true (by omega), cond_true, getO_nat, hx, Option.bind_some, Option.bind_some, h x (List.mem_of_getElem? hx), Option.bind_some, bo3_not, Bool.not_true, cond_false, w64_succ (by omega), cond_true]
  · rw [slices_EqualFunc_impl_Json__impl_alike.l0, lenI_eq, decide_eq_false (by omega), cond_false]
  · rw [allFrom_zero (q := fun _ => true), List.all_eq_true.2 fun _ _ => rfl]; rfl

theorem impl_alike_g : ∀ (k : Nat) (a : Json), dpj a < k → szj a ≤ 1000000000 → impl_alike.g k a a = some true := by
  intro k
  induction k with
  | zero => intro a h; omega
  | succ k ih =>
    intro a hd hs
    rw [szj_eq] at hs
    rw [dpj_eq] at hd
    have l0 := szL_len a.List_
    have l1 := szL_0 a.List_
    rw [impl_alike.g, impl_alike.b, sc_eql', slices_Equal_string_eq _ _ (by omega), slices_EqualFunc_alike_self _ _ (by omega) fun x hx => ih x (by have := dpL_mem hx; omega) (by have := szL_mem hx; omega)]
    simp only [decide_true, bo3_F, bo3_T, gd_true, Option.bind_some]
theorem impl_alike_self (a : Json) (hd : dpj a < 20) (hs : szj a ≤ 1000000000) : impl_alike.f a a = some true := impl_alike_g 20 a hd hs

theorem impl_JsonSame_self (j : Json) (hw : Jw j) (h : jsonB j = true) : impl_JsonSame.f j j = some true := by
  have h' := h
  unfold jsonB at h'
  rw [decide_eq_true_eq] at h'
  obtain ⟨h1, h2⟩ := sizeF_szj 6 j h'
  unfold impl_JsonSame.f
  rw [impl_JsonOk_eq j hw, h, Option.bind_some, gd_true, Option.bind_some, bo3_T, gd_true, impl_alike_self j (by omega) (by omega)]
  rfl

theorem slices_Index_int_l0 (l : List Int) (x : Int) (hl : l.length ≤ 9223372036854775806) : ∀ (k i : Nat), i ≤ l.length → l.length < i + k → ∃ r : Int, slices_Index_int.l0 l x k i = some r ∧ (0 ≤ r ↔ x ∈ l.drop i) := by
  intro k
  induction k with
  | zero => intro i h h'; omega
  | succ k ih =>
    intro i h h'
    rw [slices_Index_int.l0, lenI_eq]
    by_cases hi : i < l.length
    · rw [decide_eq_true (by omega), cond_true, getO_nat, List.getElem?_eq_getElem hi, Option.bind_some, List.drop_eq_getElem_cons hi, w64_succ (by omega)]
      by_cases c : x = l[i]
      · rw [decide_eq_true c, cond_true]
        exact ⟨i, rfl, ⟨fun _ => by rw [List.mem_cons]; exact .inl c, fun _ => by omega⟩⟩
      · rw [decide_eq_false c, cond_false]
        obtain ⟨r, h1, h2⟩ := ih (i + 1) (by omega) (by omega)
        exact ⟨r, h1, h2.trans ⟨fun h => by rw [List.mem_cons]; exact .inr h, fun h => by rw [List.mem_cons] at h; exact h.elim (fun e => absurd e c) id⟩⟩
    · rw [decide_eq_false (by omega), cond_false, List.drop_eq_nil_of_le (by omega)]
      exact ⟨-1, rfl, by simp⟩

theorem slices_Contains_int_eq (l : List Int) (x : Int) (hl : l.length ≤ 9223372036854775806) : slices_Contains_int.f l x = some (decide (x ∈ l)) := by
  unfold slices_Contains_int.f slices_Index_int.f
  obtain ⟨r, h1, h2⟩ := slices_Index_int_l0 l x hl (((lenI l) - 0).toNat + 1) 0 (by omega) (by rw [lenI_eq]; omega)
  refine (congrArg (fun o => Option.bind o _) h1).trans ?_
  rw [Option.bind_some]
  congr 1
  rw [List.drop_zero] at h2
  exact decide_eq_decide.2 h2

theorem strconv_Itoa_eq (n : Int) (h : -9223372036854775808 ≤ n ∧ n ≤ 9223372036854775807) : strconv_Itoa.f n = some (bl (Lib.itoa n)) := by
  unfold strconv_Itoa.f itoaO
  rw [if_pos h]; rfl

theorem impl_digits_eq (n : Int) (h : -9223372036854775808 ≤ n ∧ n ≤ 9223372036854775807) : impl_digits.f n = some (bl (Lib.itoa n)) := by
  unfold impl_digits.f
  rw [strconv_Itoa_eq n h]; rfl

theorem impl_cellOf_eq (r : Row) (col : Int) (h : Row_b r) : impl_cellOf.f r col = some (cellF r col) := by
  have hl : r.Cells.length ≤ 9223372036854775807 := h
  unfold impl_cellOf.f cellF
  rw [lenI_eq, w64_id (by omega), impl_within_eq, Option.bind_some, bo3_not]
  by_cases d : 0 ≤ col ∧ col ≤ (r.Cells.length : Int) - 1
  · rw [decide_eq_true d, Bool.not_true, cond_false, getO_Int d, Option.bind_some, if_pos d]
  · rw [decide_eq_false d, Bool.not_false, cond_true, if_neg d]




theorem less_eq (x y : ByteArray) : cmp_Less_string.f x y = some (nlt x y) := by
  unfold cmp_Less_string.f cmp_isNaN_string.f
  rw [sc_neq', decide_eq_false (by simp), Option.bind_some, gd_false, Option.bind_some, bo3_F]
  rfl
/-- Where a new name goes. -/
theorem binSearch_ok (pl : List NV) (n : ByteArray) (hs : Sn pl) (hn : ∀ x ∈ pl, x.1 ≠ n) (hlen : pl.length ≤ 10000000) :
    ∃ (t : Nat) (b : Bool), t ≤ pl.length ∧ slices_BinarySearch_string.f (pl.map (·.1)) n = some ((t : Int), b) ∧ pl.filter (fun x => nlt x.1 n) = pl.take t ∧ pl.filter (fun x => nlt n x.1) = pl.drop t := by
  unfold slices_BinarySearch_string.f
  rw [joinK_eq, lenI_eq, List.length_map]
  generalize hK : (fun (y1 : Int) =>
  (gd (decide (y1 < (pl.length : Int))) (getO (pl.map (·.1)) y1)).bind fun x14 =>
  (gd (bo3 (decide (y1 < (pl.length : Int))) (bo3 (Ls.sc .eql x14 n) false true) false) (getO (pl.map (·.1)) y1)).bind fun x15 =>
  (gd (bo3 (decide (y1 < (pl.length : Int))) (bo3 (Ls.sc .eql x14 n) false true) false) (slices_isNaN_string.f x15)).bind fun r16 =>
  (gd (bo3 (bo3 (decide (y1 < (pl.length : Int))) (bo3 (Ls.sc .eql x14 n) false true) false) r16 false) (slices_isNaN_string.f n)).bind fun r17 =>
  some (y1, (bo3 (decide (y1 < (pl.length : Int))) (bo3 (Ls.sc .eql x14 n) true (bo3 r16 r17 false)) false))) = K
  have hat : ∀ c, c < pl.length → ∃ x, pl[c]? = some x := fun c h => ⟨pl[c], List.getElem?_eq_getElem h⟩
  have hmono : ∀ (c c' : Nat) (x y : NV), c ≤ c' → pl[c]? = some x → pl[c']? = some y → nlt x.1 n = false → nlt y.1 n = false := fun c c' x y h1 h2 h3 h4 => by
    rcases Nat.lt_or_ge c c' with h | h
    · have : nlt x.1 y.1 = true := by
        obtain ⟨a1, rfl⟩ := List.getElem?_eq_some_iff.1 h2
        obtain ⟨a2, rfl⟩ := List.getElem?_eq_some_iff.1 h3
        exact List.pairwise_iff_getElem.1 hs c c' a1 a2 h
      cases e : nlt y.1 n with
      | false => rfl
      | true => rw [nlt_trans this e] at h4; cases h4
    · obtain rfl : c = c' := by omega
      rw [h2] at h3; cases h3; exact h4
  obtain ⟨t, t1, t2, t3, t4, t5⟩ := bsearch (f := fun k i j => slices_BinarySearch_string.l0 (pl.map (·.1)) n K k i j) (K := K) (fun c => nlt (pl.getD c default).1 n) 0 pl.length
    (fun c c' h1 h2 h3 h4 => by
      obtain ⟨x, hx⟩ := hat c (by omega)
      obtain ⟨y, hy⟩ := hat c' h3
      rw [List.getD_eq_getElem?_getD, hx, Option.getD_some] at h4
      rw [List.getD_eq_getElem?_getD, hy, Option.getD_some]
      exact hmono c c' x y h2 hx hy h4)
    (fun k i j h1 h2 h3 => by
      obtain ⟨x, hx⟩ := hat ((i + j) / 2) (by omega)
      show slices_BinarySearch_string.l0 _ n K (k + 1) i j = _
      rw [slices_BinarySearch_string.l0, decide_eq_true (by omega), cond_true, half_eq (n := i + j) (by omega) (by omega), getO_nat, List.getElem?_map, hx, Option.map_some, Option.bind_some, less_eq, Option.bind_some, List.getD_eq_getElem?_getD, hx, Option.getD_some, w64_succ (by omega)]
      cases nlt x.1 n with
      | true => rw [cond_true, if_pos rfl]
      | false => rw [cond_false, if_neg (by simp)])
    (fun k i => by
      show slices_BinarySearch_string.l0 _ n K (k + 1) i i = _
      rw [slices_BinarySearch_string.l0, decide_eq_false (by omega), cond_false])
    (((pl.length : Int) - 0).toNat + 1) 0 pl.length (Nat.le_refl _) (by omega) (Nat.le_refl _) (by omega)
  have hlo : ∀ x ∈ pl.take t, nlt x.1 n = true := fun x hx => by
    obtain ⟨i, hi⟩ := List.getElem?_of_mem hx
    have hl := at_lt hi
    rw [List.length_take] at hl
    rw [List.getElem?_take, if_pos (by omega)] at hi
    have := t4 i (by omega) (by omega)
    rw [List.getD_eq_getElem?_getD, hi, Option.getD_some] at this
    exact this
  have hhi : ∀ x ∈ pl.drop t, nlt x.1 n = false := fun x hx => by
    obtain ⟨i, hi⟩ := List.getElem?_of_mem hx
    rw [List.getElem?_drop] at hi
    have hl := at_lt hi
    have := t5 (t + i) (by omega) (by omega)
    rw [List.getD_eq_getElem?_getD, hi, Option.getD_some] at this
    exact this
  have hKt : ∃ b, K (t : Int) = some ((t : Int), b) := by
    rw [← hK]
    dsimp only
    by_cases c : t < pl.length
    · rw [decide_eq_true (by omega), gd_true, getO_nat, List.getElem?_map, List.getElem?_eq_getElem c, Option.map_some, Option.bind_some]
      unfold slices_isNaN_string.f
      rw [gd_of, Option.bind_some, gd_of, Option.bind_some, gd_of, Option.bind_some]
      exact ⟨_, rfl⟩
    · rw [decide_eq_false (by omega)]
      exact ⟨_, rfl⟩
  obtain ⟨b, hb⟩ := hKt
  refine ⟨t, b, t2, t3.trans hb, ?_, ?_⟩
  · conv => lhs; rw [← List.take_append_drop t pl]
    rw [List.filter_append, List.filter_eq_self.2 hlo, List.filter_eq_nil_iff.2 (fun x hx => by rw [hhi x hx]; simp), List.append_nil]
  · conv => lhs; rw [← List.take_append_drop t pl]
    rw [List.filter_append, List.filter_eq_nil_iff.2 (fun x hx => by rw [nlt_asym (hlo x hx)]; simp), List.filter_eq_self.2 (fun x hx => nlt_tot (hn x (List.mem_of_mem_drop hx)) (hhi x hx)), List.nil_append]



theorem insO_ok {α : Type} {b : Nat} {l m : List α} {i : Nat} {x : α} (hm : m = [x]) (hi : i ≤ l.length) (hb : ((l.length : Int) + 1) * b ≤ 140737488355328 ∧ (l.length : Int) + 1 ≤ 140737488355328) : insO b l (i : Int) m = some (l.take i ++ x :: l.drop i) := by
  subst hm
  unfold insO
  rw [if_pos ⟨rfl, by omega, by omega, by simpa using hb.1, by simpa using hb.2⟩, Int.toNat_natCast]
  simp
theorem objOf_l0 (P : List NV) (hd : P.Pairwise fun a b => a.1 ≠ b.1) (hf : Fn1 P) (hlen : P.length ≤ 10000000) : ∀ (k i : Nat), i ≤ P.length → P.length < i + k →
    impl_objOf.l0 (P.map (·.1)) (P.map (·.2)) k ((foldP (P.take i)).map fun p => numJ p.2) ((foldP (P.take i)).map (·.1)) i = some (objJ (foldP P)) := by
  intro k
  induction k with
  | zero => intro i h h'; omega
  | succ k ih =>
    intro i h h'
    rw [impl_objOf.l0, lenI_eq, List.length_map]
    by_cases hi : i < P.length
    · have hx : P[i]? = some P[i] := List.getElem?_eq_getElem hi
      have hl := foldP_len (P.take i)
      have ht : (P.take i).length = i := by rw [List.length_take]; omega
      have hfT : Fn1 (P.take i) := fun a ha b hb => hf a (List.mem_of_mem_take ha) b (List.mem_of_mem_take hb)
      obtain ⟨t, b, t1, t2, t3, t4⟩ := binSearch_ok (foldP (P.take i)) (P[i]).1 (foldP_sn _) (fun x hx' => by
        rw [foldP_mem _ hfT] at hx'
        obtain ⟨m, hm⟩ := List.getElem?_of_mem hx'
        have hml := at_lt hm
        rw [List.getElem?_take, if_pos (by omega)] at hm
        obtain ⟨a1, rfl⟩ := List.getElem?_eq_some_iff.1 hm
        exact List.pairwise_iff_getElem.1 hd m i a1 hi (by omega)) (by omega)
      have e : foldP (P.take (i + 1)) = (foldP (P.take i)).take t ++ P[i] :: (foldP (P.take i)).drop t := by
        rw [take_snoc hx, foldP_snoc]; unfold putP; rw [t3, t4]
      rw [decide_eq_true (by omega), cond_true, getO_nat, List.getElem?_map, hx, Option.map_some, Option.bind_some, t2, Option.bind_some, Option.bind_some]
      unfold slices_Insert_string.f slices_Insert_impl_Json.f
      rw [insO_ok rfl (by rw [List.length_map]; exact t1) (by rw [List.length_map]; omega), Option.bind_some, getO_nat, List.getElem?_map, hx, Option.map_some, Option.bind_some, Option.bind_some, insO_ok rfl (by rw [List.length_map]; exact t1) (by rw [List.length_map]; omega), Option.bind_some, w64_succ (by omega), ← ih (i + 1) (by omega) (by omega), e]
      simp only [List.map_append, List.map_cons, List.map_take, List.map_drop]
      rfl
    · have : i = P.length := by omega
      subst this
      rw [decide_eq_false (by omega), cond_false, List.take_length]
      rfl
theorem impl_objOf_eq (P : List NV) (hd : P.Pairwise fun a b => a.1 ≠ b.1) (hf : Fn1 P) (hlen : P.length ≤ 10000000) : impl_objOf.f (P.map (·.1)) (P.map (·.2)) = some (objJ (foldP P)) := by
  unfold impl_objOf.f
  exact objOf_l0 P hd hf hlen (((lenI (P.map (·.1))) - 0).toNat + 1) 0 (by omega) (by rw [lenI_eq, List.length_map]; omega)

/-- The columns, each once. -/
def dd (l : List Int) : Nat → List Int
  | 0 => []
  | i + 1 => if l.getD i 0 ∈ l.take i then dd l i else dd l i ++ [l.getD i 0]
theorem dd_len (l : List Int) : ∀ i, (dd l i).length ≤ i
  | 0 => by simp [dd]
  | i + 1 => by have := dd_len l i; rw [dd]; split <;> simp <;> omega
theorem dd_mem (l : List Int) (x : Int) : ∀ i, i ≤ l.length → (x ∈ dd l i ↔ x ∈ l.take i)
  | 0, _ => by simp [dd]
  | i + 1, h => by
    have ih := dd_mem l x i (by omega)
    have e : l.take (i + 1) = l.take i ++ [l.getD i 0] := by
      rw [take_snoc (x := l[i]'(by omega)) (List.getElem?_eq_getElem (by omega)), List.getD_eq_getElem?_getD, List.getElem?_eq_getElem (by omega)]; rfl
    rw [dd, e]
    split
    · rename_i c
      rw [ih, List.mem_append, List.mem_singleton]
      exact ⟨.inl, fun h => h.elim id fun e => e ▸ c⟩
    · rw [List.mem_append, ih, List.mem_append]
theorem dd_nd (l : List Int) : ∀ i, i ≤ l.length → (dd l i).Pairwise (· ≠ ·)
  | 0, _ => List.Pairwise.nil
  | i + 1, h => by
    have ih := dd_nd l i (by omega)
    rw [dd]
    split
    · exact ih
    · rename_i c
      refine List.pairwise_append.2 ⟨ih, List.pairwise_singleton .., fun a ha b hb => ?_⟩
      rw [List.mem_singleton.1 hb]
      rintro rfl
      exact c ((dd_mem l _ i (by omega)).1 ha)
def implPs (q : Query) (r : Row) (n : Int) : List NV := [idP r] ++ (dd q.Show q.Show.length).map (colP r) ++ kidsL q n
theorem impl_RowDoc_l0 (q : Query) (r : Row) (hr : Row_b r) (hc : In64 q.Show) (hl : q.Show.length ≤ 2097152) (K : List ByteArray → List Int → Option Json) : ∀ (k i : Nat), i ≤ q.Show.length → q.Show.length < i + k →
    impl_RowDoc.l0 q r K k (([idP r] ++ (dd q.Show i).map (colP r)).map (·.1)) (([idP r] ++ (dd q.Show i).map (colP r)).map (·.2)) i = K (([idP r] ++ (dd q.Show q.Show.length).map (colP r)).map (·.1)) (([idP r] ++ (dd q.Show q.Show.length).map (colP r)).map (·.2)) := by
  intro k
  induction k with
  | zero => intro i h h'; omega
  | succ k ih =>
    intro i h h'
    rw [impl_RowDoc.l0, lenI_eq]
    by_cases hi : i < q.Show.length
    · have hx : q.Show[i]? = some q.Show[i] := List.getElem?_eq_getElem hi
      have hg : q.Show.getD i 0 = q.Show[i] := by rw [List.getD_eq_getElem?_getD, hx]; rfl
      have h64 := hc _ (List.getElem_mem hi)
      have hdl := dd_len q.Show i
      have hcut : cutO q.Show 0 (i : Int) = some (q.Show.take i) := by rw [cutO_ok (by omega)]; simp
      rw [decide_eq_true (by omega), cond_true, getO_nat, hx, Option.bind_some, hcut, Option.bind_some, slices_Contains_int_eq _ _ (by rw [List.length_take]; omega), Option.bind_some, w64_succ (by omega), ← ih (i + 1) (by omega) (by omega), dd, hg]
      by_cases c : q.Show[i] ∈ q.Show.take i
      · rw [decide_eq_true c, cond_true, if_pos c]
      · rw [decide_eq_false c, cond_false, if_neg c, impl_digits_eq _ h64, Option.bind_some, put_c _ h64, Option.bind_some, Option.bind_some, appO_ok (by simp only [List.length_append, List.length_map, List.length_cons, List.length_nil]; omega), Option.bind_some, impl_cellOf_eq r _ hr, Option.bind_some, Option.bind_some, appO_ok (by simp only [List.length_append, List.length_map, List.length_cons, List.length_nil]; omega), Option.bind_some]
        simp only [List.map_append, List.map_cons, List.map_nil, List.append_assoc]
        rfl
    · have : i = q.Show.length := by omega
      subst this
      rw [decide_eq_false (by omega), cond_false]
theorem implPs_nd {q : Query} {r : Row} {n : Int} (hc : In64 q.Show) : (implPs q r n).Pairwise fun a b => a.1 ≠ b.1 := by
  unfold implPs
  have hm : ∀ x ∈ dd q.Show q.Show.length, -9223372036854775808 ≤ x ∧ x ≤ 9223372036854775807 := fun x hx => hc x (by simpa using (dd_mem q.Show x _ (Nat.le_refl _)).1 hx)
  have hk : ∀ b ∈ kidsL q n, b = kidsP n := fun b hb => by
    unfold kidsL at hb
    split at hb
    · exact List.mem_singleton.1 hb
    · simp at hb
  refine List.pairwise_append.2 ⟨List.pairwise_append.2 ⟨List.pairwise_singleton .., ?_, fun a ha b hb => ?_⟩, ?_, fun a ha b hb => ?_⟩
  · refine List.pairwise_map.2 ?_
    have := dd_nd q.Show q.Show.length (Nat.le_refl _)
    refine List.Pairwise.imp_of_mem (fun {a b} ha hb hne e => ?_) this
    have e : colN a = colN b := e
    rw [colN_eq, colN_eq] at e
    exact hne (itoa_inj (hm a ha) (hm b hb) (List.cons.inj (bl_inj e)).2)
  · rw [List.mem_singleton.1 ha]
    obtain ⟨c, _, rfl⟩ := List.mem_map.1 hb
    exact fun e => colN_ne_id c e.symm
  · unfold kidsL; split
    · exact List.pairwise_singleton ..
    · exact List.Pairwise.nil
  · rw [hk b hb]
    rcases List.mem_append.1 ha with ha | ha
    · rw [List.mem_singleton.1 ha]; exact id_ne_kids
    · obtain ⟨c, _, rfl⟩ := List.mem_map.1 ha
      exact colN_ne_kids c
theorem implPs_same {q : Query} {r : Row} {n : Int} (hc : In64 q.Show) : Fn1 (implPs q r n) ∧ foldP (implPs q r n) = foldP (q.Show.map (colP r) ++ [idP r] ++ kidsL q n) := by
  have hk : ∀ b ∈ kidsL q n, b = kidsP n := fun b hb => by
    unfold kidsL at hb
    split at hb
    · exact List.mem_singleton.1 hb
    · simp at hb
  have hdm : ∀ x, x ∈ dd q.Show q.Show.length ↔ x ∈ q.Show := fun x => by rw [dd_mem q.Show x _ (Nat.le_refl _), List.take_length]
  have f1 : Fn1 (implPs q r n) := fn1_of (r := r) (n := n) (q := q) hc fun x hx => by
    unfold implPs at hx
    simp only [List.mem_append, List.mem_map, List.mem_singleton] at hx
    rcases hx with (rfl | ⟨c, h1, rfl⟩) | h
    · exact .inr (.inl rfl)
    · exact .inl ⟨c, (hdm c).1 h1, rfl⟩
    · exact .inr (.inr (hk _ h))
  have f2 : Fn1 (q.Show.map (colP r) ++ [idP r] ++ kidsL q n) := fn1_of (r := r) (n := n) (q := q) hc fun x hx => by
    simp only [List.mem_append, List.mem_map, List.mem_singleton] at hx
    rcases hx with (⟨c, h1, rfl⟩ | rfl) | h
    · exact .inl ⟨c, h1, rfl⟩
    · exact .inr (.inl rfl)
    · exact .inr (.inr (hk _ h))
  refine ⟨f1, foldP_same f1 f2 fun x => ?_⟩
  unfold implPs
  simp only [List.mem_append, List.mem_map, List.mem_singleton]
  constructor
  · rintro ((h | ⟨c, h1, h2⟩) | h)
    · exact .inl (.inr h)
    · exact .inl (.inl ⟨c, (hdm c).1 h1, h2⟩)
    · exact .inr h
  · rintro ((⟨c, h1, h2⟩ | h) | h)
    · exact .inl (.inr ⟨c, (hdm c).2 h1, h2⟩)
    · exact .inl (.inl h)
    · exact .inr h
theorem impl_RowDoc_l0' (q : Query) (r : Row) (hr : Row_b r) (hc : In64 q.Show) (hl : q.Show.length ≤ 2097152) (K : List ByteArray → List Int → Option Json) : impl_RowDoc.l0 q r K (((lenI q.Show) - 0).toNat + 1) [ByteArray.mk #[105, 100]] [r.Id] 0 = K (([idP r] ++ (dd q.Show q.Show.length).map (colP r)).map (·.1)) (([idP r] ++ (dd q.Show q.Show.length).map (colP r)).map (·.2)) := by
  have h := impl_RowDoc_l0 q r hr hc hl K (((lenI q.Show) - 0).toNat + 1) 0 (by omega) (by rw [lenI_eq]; omega)
  rw [dd, List.map_nil, List.append_nil] at h
  exact h
theorem impl_RowDoc_fin (q : Query) (r : Row) (n : Int) (hc : In64 q.Show) (hl : q.Show.length ≤ 2097152) : ((impl_objOf.f ((implPs q r n).map (·.1)) ((implPs q r n).map (·.2))).bind fun r49 => (impl_orNull.f r49).bind fun r50 => some r50) = some (orJ (rowObj q r n)) := by
  have hdl := dd_len q.Show q.Show.length
  have hkl : (kidsL q n).length ≤ 1 := by unfold kidsL; split <;> simp
  have hobj : impl_objOf.f ((implPs q r n).map (·.1)) ((implPs q r n).map (·.2)) = some (rowObj q r n) := by
    rw [impl_objOf_eq _ (implPs_nd hc) (implPs_same hc).1 (by unfold implPs; simp only [List.length_append, List.length_map, List.length_singleton]; omega), (implPs_same hc).2]; rfl
  rw [hobj, Option.bind_some, impl_orNull_eq _ (rowObj_w hc hl).1]; rfl
theorem impl_RowDoc_eq (q : Query) (r : Row) (n : Int) (hr : Row_b r) (hc : In64 q.Show) (hl : q.Show.length ≤ 2097152) : impl_RowDoc.f q r n = some (orJ (rowObj q r n)) := by
  have hdl := dd_len q.Show q.Show.length
  have fin := impl_RowDoc_fin q r n hc hl
  unfold impl_RowDoc.f
  rw [Option.bind_some, Option.bind_some, joinK_eq, impl_RowDoc_l0' q r hr hc hl]
  generalize hN : ([idP r] ++ (dd q.Show q.Show.length).map (colP r)) = N at *
  have hNl : N.length ≤ 2097153 := by rw [← hN]; simp only [List.length_append, List.length_map, List.length_singleton]; omega
  have e : implPs q r n = N ++ kidsL q n := by unfold implPs; rw [hN]
  rw [e] at fin
  clear hN e
  rw [← fin, joinK_eq]
  unfold kidsL
  cases hk : q.Kids with
  | false =>
    rw [cond_false, if_neg (by simp), List.append_nil]
  | true =>
    rw [cond_true, Option.bind_some, appO_ok (by simp only [List.length_map, List.length_cons, List.length_nil]; omega), Option.bind_some, Option.bind_some, appO_ok (by simp only [List.length_map, List.length_cons, List.length_nil]; omega), Option.bind_some, if_pos rfl, List.map_append, List.map_append]
    rfl

theorem laws_big_eq (l : List Int) : laws_big.f l = some (decide (1048576 < (l.length : Int))) := by unfold laws_big.f; rw [lenI_eq]

/-- A cursor that is right. -/
def CI (b : List Int) (i : Int) : Prop := 0 ≤ i ∧ i ≤ b.length ∧ (b.length : Int) ≤ 1048576
theorem and_le (x : Int) (m : Nat) (hm : m < 9223372036854775808) : 0 ≤ Ls.ar .and .i64 x m ∧ Ls.ar .and .i64 x m ≤ m := by
  show 0 ≤ IntKind.i64.wrap _ ∧ IntKind.i64.wrap _ ≤ _
  have h : (BitVec.ofInt IntKind.i64.bits x &&& BitVec.ofInt IntKind.i64.bits m).toNat ≤ m := by
    rw [BitVec.toNat_and]
    refine Nat.le_trans Nat.and_le_right ?_
    rw [BitVec.toNat_ofInt]
    have : ((m : Int) % (2 ^ IntKind.i64.bits : Nat)).toNat = m := by
      rw [Int.emod_eq_of_lt (by omega) (by show (m : Int) < ((2 ^ 64 : Nat) : Int); omega)]
      omega
    omega
  rw [IntKind.wrap_i64]
  omega
theorem l1Byte_ok {b : List Int} {i : Int} (h : Int) (hc : CI b i) : ∃ i' h' x, spec_l1Byte.f (l1Cur.mk b i h) = some (l1Cur.mk b i' h', x) ∧ CI b i' ∧ 0 ≤ x ∧ x ≤ 255 := by
  obtain ⟨h0, h1, h2⟩ := hc
  unfold spec_l1Byte.f
  dsimp only
  by_cases hi : i < (b.length : Int)
  · rw [lenI_eq, decide_eq_true hi, cond_true, getO_pos h0, List.getElem?_eq_getElem (by omega), Option.bind_some]
    exact ⟨_, _, _, rfl, ⟨by rw [w64_id (by omega)]; omega, by rw [w64_id (by omega)]; omega, h2⟩, and_le _ 255 (by omega)⟩
  · rw [lenI_eq, decide_eq_false hi, cond_false]
    exact ⟨_, _, _, rfl, ⟨h0, h1, h2⟩, and_le _ 255 (by omega)⟩
theorem tmod_lt {x n : Int} (hx : 0 ≤ x) (hn : 0 < n) : 0 ≤ Int.tmod x n ∧ Int.tmod x n < n := ⟨Int.tmod_nonneg _ hx, Int.tmod_lt_of_pos _ hn⟩
theorem l1Below_ok {b : List Int} {i : Int} (h : Int) (n : Int) (hc : CI b i) : ∃ i' h' x, spec_l1Below.f (l1Cur.mk b i h) n = some (l1Cur.mk b i' h', x) ∧ CI b i' ∧ 0 ≤ x ∧ (0 < n → x < n) ∧ (n ≤ 0 → x = 0) := by
  unfold spec_l1Below.f
  by_cases h0 : n ≤ 0
  · rw [decide_eq_true h0, cond_true]
    exact ⟨_, _, _, rfl, hc, by omega, fun _ => by omega, fun _ => rfl⟩
  have hz : nzO n = some () := by unfold nzO; rw [if_pos (by omega)]
  rw [decide_eq_false h0, cond_false]
  obtain ⟨i1, h1, x1, e1, k1, l1, u1⟩ := l1Byte_ok h hc
  by_cases hn : n ≤ 256
  · rw [decide_eq_true hn, cond_true, e1, Option.bind_some, hz, Option.bind_some]
    have := tmod_lt (n := n) l1 (by omega)
    exact ⟨_, _, _, rfl, k1, this.1, fun _ => this.2, fun _ => by omega⟩
  · obtain ⟨i2, h2, x2, e2, k2, l2, u2⟩ := l1Byte_ok h1 k1
    obtain ⟨i3, h3, x3, e3, k3, l3, u3⟩ := l1Byte_ok h2 k2
    obtain ⟨i4, h4, x4, e4, k4, l4, u4⟩ := l1Byte_ok h3 k3
    rw [decide_eq_false hn, cond_false, e1, Option.bind_some]
    dsimp only
    rw [e2, Option.bind_some]
    dsimp only
    rw [e3, Option.bind_some]
    dsimp only
    rw [e4, Option.bind_some, hz, Option.bind_some]
    dsimp only
    rw [w64_id (x := x1 * 16777216) (by omega), w64_id (x := x2 * 65536) (by omega), w64_id (x := x3 * 256) (by omega), w64_id (x := x1 * 16777216 + x2 * 65536) (by omega), w64_id (x := x1 * 16777216 + x2 * 65536 + x3 * 256) (by omega), w64_id (by omega)]
    have := tmod_lt (n := n) (show 0 ≤ x1 * 16777216 + x2 * 65536 + x3 * 256 + x4 by omega) (by omega)
    exact ⟨_, _, _, rfl, k4, this.1, fun _ => this.2, fun _ => by omega⟩
theorem l1New_ok (l : List Int) (hl : (l.length : Int) ≤ 1048576) : ∃ h, spec_l1New.f l = some (l1Cur.mk l 0 h) ∧ CI l 0 := by
  have key : ∀ (k i : Nat) (h : Int), i ≤ l.length → l.length < i + k → ∃ h', spec_l1New.l0 l k h i = some (l1Cur.mk l 0 h') := by
    intro k
    induction k with
    | zero => intro i h h1 h2; omega
    | succ k ih =>
      intro i h h1 h2
      rw [spec_l1New.l0]
      by_cases c : bo3 (decide ((i : Int) < lenI l)) (decide ((i : Int) < 4000)) false = true
      · have hi : i < l.length := by
          rw [bo3_and, Bool.and_eq_true] at c
          have := of_decide_eq_true c.1
          rw [lenI_eq] at this
          omega
        rw [c, cond_true, getO_nat, List.getElem?_eq_getElem hi, Option.bind_some, w64_succ (by omega)]
        exact ih (i + 1) _ (by omega) (by omega)
      · rw [Bool.not_eq_true] at c
        rw [c, cond_false]
        exact ⟨_, rfl⟩
  unfold spec_l1New.f
  obtain ⟨h, e⟩ := key (((lenI l) - 0).toNat + 1) 0 (w64 (17333 + lenI l)) (by omega) (by rw [lenI_eq]; omega)
  exact ⟨h, e, by omega, by omega, hl⟩




def sz_Schema (x : Schema) : Int := sz_IntS x.Cols
def Schema_b (x : Schema) : Prop := IntS_b x.Cols
theorem sz_Schema_0 (x : Schema) : 0 ≤ sz_Schema x := by unfold sz_Schema; exact by have := sz_IntS_0 x.Cols;  omega
def Schema_r (x : Schema) : Prop := IntS_r x.Cols
/-- A schema that is not too great. -/
def SB (s : Schema) : Prop := s.Cols.length ≤ 6 ∧ ∀ x ∈ s.Cols, -1 ≤ x ∧ x ≤ 5
theorem SB.b {s : Schema} (h : SB s) : Schema_b s := by unfold Schema_b IntS_b; have := h.1; omega
theorem snoc_all {α : Type} {p : α → Prop} {l : List α} {x : α} (h : ∀ y ∈ l, p y) (hx : p x) : ∀ y ∈ l ++ [x], p y := fun y hy => by
  rcases List.mem_append.1 hy with hy | hy
  · exact h y hy
  · rw [List.mem_singleton.1 hy]; exact hx

theorem l6DrawSchema_l0 (a : l1Cur) : ∀ (k i : Nat) (ci h : Int) (l : List Int), CI a.b ci → l.length = i → i ≤ 3 → 4 ≤ i + k → (∀ x ∈ l, 1 ≤ x ∧ x ≤ 4) →
    ∃ ci' h' l', spec_l6DrawSchema.l0 a k ci h l i = some (l1Cur.mk a.b ci' h', Schema.mk l') ∧ CI a.b ci' ∧ (i < 1 ∨ 1 ≤ i) ∧ l'.length ≤ 3 ∧ i ≤ l'.length ∧ 1 ≤ l'.length ∧ ∀ x ∈ l', 1 ≤ x ∧ x ≤ 4 := by
  intro k
  induction k with
  | zero => intro i ci h l hc hl h1 h2; omega
  | succ k ih =>
    intro i ci h l hc hl h1 h2 hx
    obtain ⟨c1, h1', x1, e1, k1, l1, u1, _⟩ := l1Below_ok h 3 hc
    have hx3 := u1 (by omega)
    rw [spec_l6DrawSchema.l0, e1, Option.bind_some]
    dsimp only
    rw [w64_id (by omega)]
    by_cases c : (i : Int) < 1 + x1
    · obtain ⟨c2, h2', x2, e2, k2, l2, u2, _⟩ := l1Below_ok h1' 4 k1
      have hx4 := u2 (by omega)
      rw [decide_eq_true c, cond_true, e2, Option.bind_some]
      dsimp only
      rw [w64_id (by omega), Option.bind_some, appO_ok (by simp only [List.length_cons, List.length_nil]; omega), Option.bind_some, w64_succ (by omega)]
      obtain ⟨ci', h', l', q1, q2, q3, q4, q5, q6, q7⟩ := ih (i + 1) c2 h2' (l ++ [1 + x2]) k2 (by simp [hl]) (by omega) (by omega) (snoc_all hx (by omega))
      exact ⟨ci', h', l', q1, q2, by omega, q4, by omega, q6, q7⟩
    · rw [decide_eq_false c, cond_false]
      exact ⟨_, _, _, rfl, k1, by omega, by omega, by omega, by omega, hx⟩
theorem l6DrawSchema_ok {b : List Int} {i : Int} (h : Int) (hc : CI b i) : ∃ i' h' s, spec_l6DrawSchema.f (l1Cur.mk b i h) = some (l1Cur.mk b i' h', s) ∧ CI b i' ∧ s.Cols.length ≤ 3 ∧ 1 ≤ s.Cols.length ∧ ∀ x ∈ s.Cols, 1 ≤ x ∧ x ≤ 4 := by
  unfold spec_l6DrawSchema.f
  obtain ⟨ci', h', l', q1, q2, q3, q4, q5, q6, q7⟩ := l6DrawSchema_l0 (l1Cur.mk b i h) 1000 0 i h [] hc rfl (by omega) (by omega) (by simp)
  exact ⟨_, _, _, q1, q2, q4, q6, q7⟩

theorem l1PickInt_ok {b : List Int} {i : Int} (h : Int) {l : List Int} (hl : l ≠ []) (hc : CI b i) : ∃ i' h' x, spec_l1PickInt.f (l1Cur.mk b i h) l = some (l1Cur.mk b i' h', x) ∧ CI b i' ∧ x ∈ l := by
  unfold spec_l1PickInt.f
  obtain ⟨i1, h1, x1, e1, k1, l1, u1, _⟩ := l1Below_ok h (lenI l) hc
  have hp : 0 < l.length := by cases l with | nil => exact absurd rfl hl | cons x l => simp
  rw [lenI_eq] at u1
  have hx := u1 (by omega)
  have hlt : x1.toNat < l.length := by omega
  rw [e1, Option.bind_some, getO_pos l1, List.getElem?_eq_getElem hlt, Option.bind_some]
  exact ⟨_, _, _, rfl, k1, List.getElem_mem hlt⟩

theorem l1Once_ok {b : List Int} {i : Int} (h : Int) (n : Int) (hc : CI b i) : ∃ i' h' x, spec_l1Once.f (l1Cur.mk b i h) n = some (l1Cur.mk b i' h', x) ∧ CI b i' := by
  unfold spec_l1Once.f
  obtain ⟨i1, h1, x1, e1, k1, _⟩ := l1Below_ok h n hc
  rw [e1, Option.bind_some]
  exact ⟨_, _, _, rfl, k1⟩

theorem spec_l1Max_eq (x y : Int) : spec_l1Max.f x y = some (max x y) := by
  unfold spec_l1Max.f
  by_cases h : y < x
  · rw [decide_eq_true h, cond_true, show max x y = x by omega]
  · rw [decide_eq_false h, cond_false, show max x y = y by omega]

/-- A question that is not too great. -/
def QB (q : Query) : Prop := q.Where.length ≤ 4 ∧ q.Show.length ≤ 6 ∧ ∀ x ∈ q.Show, 0 ≤ x ∧ x ≤ 5
def Qr3 (q : Query) : Prop := q.Where.length ≤ 3 ∧ q.Show.length ≤ 5 ∧ ∀ x ∈ q.Show, 0 ≤ x ∧ x ≤ 5
theorem Qr3.qb {q : Query} (h : Qr3 q) : QB q := ⟨by have := h.1; omega, by have := h.2.1; omega, h.2.2⟩
theorem QB.b {q : Query} (h : QB q) : Query_b q := by
  have h1 := h.1
  have h2 := h.2.1
  exact ⟨by unfold CondS_b; omega, by unfold IntS_b; omega⟩

theorem l9DrawRight_l0 (a : l1Cur) (y : Int) : ∀ (k i : Nat) (ci h : Int) (l : List Cond), CI a.b ci → l.length = i → i ≤ 2 → 3 ≤ i + k →
    ∃ ci' h' l', (∀ K, spec_l9DrawRight.l0 a y K k ci h l i = K ci' h' l') ∧ CI a.b ci' ∧ l'.length ≤ 3 := by
  intro k
  induction k with
  | zero => intro i ci h l hc hl h1 h2; omega
  | succ k ih =>
    intro i ci h l hc hl h1 h2
    obtain ⟨c1, h1', x1, e1, k1, l1, u1, _⟩ := l1Below_ok h 3 hc
    have hx3 := u1 (by omega)
    by_cases c : (i : Int) < x1
    · obtain ⟨c2, h2', x2, e2, k2, l2, u2, _⟩ := l1Below_ok h1' y k1
      obtain ⟨c3, h3', x3, e3, k3, l3, u3, _⟩ := l1Below_ok h2' 4 k2
      obtain ⟨c4, h4', x4, e4, k4, l4, u4, _⟩ := l1Below_ok h3' 6 k3
      obtain ⟨ci', h', l', q1, q2, q3⟩ := ih (i + 1) c4 h4' (l ++ [Cond.mk x2 (w64 (1 + x3)) x4]) k4 (by simp [hl]) (by omega) (by omega)
      refine ⟨ci', h', l', fun K => ?_, q2, q3⟩
      rw [spec_l9DrawRight.l0, e1, Option.bind_some]
      dsimp only
      rw [decide_eq_true c, cond_true, e2, Option.bind_some]
      dsimp only
      rw [e3, Option.bind_some]
      dsimp only
      rw [e4, Option.bind_some]
      dsimp only
      rw [Option.bind_some, appO_ok (by simp only [List.length_cons, List.length_nil]; omega), Option.bind_some, w64_succ (by omega)]
      exact q1 K
    · refine ⟨c1, h1', l, fun K => ?_, k1, by omega⟩
      rw [spec_l9DrawRight.l0, e1, Option.bind_some]
      dsimp only
      rw [decide_eq_false c, cond_false]
theorem l9DrawRight_l1 (a : l1Cur) (y : Int) (hy : y ≤ 5) (d : Bool) : ∀ (k i : Nat) (ci h : Int) (l : List Int), CI a.b ci → l.length ≤ i → (i : Int) ≤ y ∨ i = 0 → 0 < k → y < i + k → (∀ x ∈ l, 0 ≤ x ∧ x ≤ 5) →
    ∃ ci' h' l', (∀ K, spec_l9DrawRight.l1 a y K k ci h d l i = K ci' h' d l') ∧ CI a.b ci' ∧ l'.length ≤ 5 ∧ ∀ x ∈ l', 0 ≤ x ∧ x ≤ 5 := by
  intro k
  induction k with
  | zero => intro i ci h l hc hl h0 h1 h2 hx; omega
  | succ k ih =>
    intro i ci h l hc hl h0 h1 h2 hx
    by_cases c : (i : Int) < y
    · obtain ⟨c2, h2', x2, e2, k2⟩ := l1Once_ok h 2 hc
      cases x2 with
      | true =>
        obtain ⟨ci', h', l', q1, q2, q3⟩ := ih (i + 1) c2 h2' (l ++ [(i : Int)]) k2 (by simp only [List.length_append, List.length_cons, List.length_nil]; omega) (by omega) (by omega) (by omega) (snoc_all hx ⟨by omega, by omega⟩)
        refine ⟨ci', h', l', fun K => ?_, q2, q3⟩
        rw [spec_l9DrawRight.l1, decide_eq_true c, cond_true, e2, Option.bind_some, w64_succ (by omega)]
        dsimp only
        rw [cond_true, Option.bind_some, appO_ok (by simp only [List.length_cons, List.length_nil]; omega), Option.bind_some]
        exact q1 K
      | false =>
        obtain ⟨ci', h', l', q1, q2, q3⟩ := ih (i + 1) c2 h2' l k2 (by omega) (by omega) (by omega) (by omega) hx
        refine ⟨ci', h', l', fun K => ?_, q2, q3⟩
        rw [spec_l9DrawRight.l1, decide_eq_true c, cond_true, e2, Option.bind_some, w64_succ (by omega)]
        dsimp only
        rw [cond_false]
        exact q1 K
    · refine ⟨ci, h, l, fun K => ?_, hc, by omega, hx⟩
      rw [spec_l9DrawRight.l1, decide_eq_false c, cond_false]
theorem l9DrawRight_end (a : l1Cur) (s : Schema) (q1 : Int) (w : List Cond) (o f : Int) (hs : SB s) (hw : w.length ≤ 3) : ∀ (ci h : Int) (d : Bool) (l : List Int), CI a.b ci → l.length ≤ 5 → (∀ x ∈ l, 0 ≤ x ∧ x ≤ 5) →
    ∃ ci' h' q, ((spec_l1Once.f (l1Cur.mk a.b ci h) 2).bind fun r130 =>
      bif r130.2 then (
      (spec_l1Max.f (lenI s.Cols) 1).bind fun r132 =>
      (spec_l1Below.f (l1Cur.mk a.b r130.1.i r130.1.h) r132).bind fun r133 =>
      bif (decide (r133.2 < (lenI s.Cols))) then (
      (getO s.Cols r133.2).bind fun x135 =>
      (spec_l1Max.f x135 1).bind fun r136 =>
      (spec_l1Below.f (l1Cur.mk a.b r133.1.i r133.1.h) r136).bind fun r137 =>
      some ((l1Cur.mk a.b r137.1.i r137.1.h), (Query.mk q1 w o d f l true r133.2 r137.2)))
      else (
      some ((l1Cur.mk a.b r133.1.i r133.1.h), (Query.mk q1 w o d f l true r133.2 0))))
      else (
      some ((l1Cur.mk a.b r130.1.i r130.1.h), (Query.mk q1 w o d f l false 0 0)))) = some (l1Cur.mk a.b ci' h', q) ∧ CI a.b ci' ∧ Qr3 q := by
  intro ci h d l hc hl hx
  obtain ⟨c2, h2, x2, e2, k2⟩ := l1Once_ok h 2 hc
  rw [e2, Option.bind_some]
  dsimp only
  cases x2 with
  | false => rw [cond_false]; exact ⟨_, _, _, rfl, k2, by dsimp only [Qr3]; exact ⟨by omega, by omega, hx⟩⟩
  | true =>
    rw [cond_true, spec_l1Max_eq, Option.bind_some]
    obtain ⟨c3, h3, x3, e3, k3, l3, u3, _⟩ := l1Below_ok h2 (max (lenI s.Cols) 1) k2
    rw [e3, Option.bind_some]
    dsimp only
    by_cases c : x3 < lenI s.Cols
    · rw [decide_eq_true c, cond_true, getO_pos l3, List.getElem?_eq_getElem (by rw [lenI_eq] at c; omega), Option.bind_some, spec_l1Max_eq, Option.bind_some]
      obtain ⟨c4, h4, x4, e4, k4, _⟩ := l1Below_ok h3 (max (s.Cols[x3.toNat]'(by rw [lenI_eq] at c; omega)) 1) k3
      rw [e4, Option.bind_some]
      exact ⟨_, _, _, rfl, k4, by dsimp only [Qr3]; exact ⟨by omega, by omega, hx⟩⟩
    · rw [decide_eq_false c, cond_false]
      exact ⟨_, _, _, rfl, k3, by dsimp only [Qr3]; exact ⟨by omega, by omega, hx⟩⟩
theorem l9DrawRight_K (a : l1Cur) (s : Schema) (hs : SB s) (q1 : Int) (c0 h0 : Int) (hc : CI a.b c0) (y3 : Int) (hy : 1 ≤ y3 ∧ y3 ≤ 5) : ∃ i' h' q, (joinK (fun (y8 : Int) (y9 : Int) (y10 : List Cond) =>
  (spec_l1Below.f (l1Cur.mk a.b y8 y9) (w64 (y3 + 1))).bind fun r64 =>
  (gd (decide (0 < r64.2)) (spec_l1Once.f (l1Cur.mk a.b r64.1.i r64.1.h) 2)).bind fun r65 =>
  (some [0, 0, 1, 2, 3, 5]).bind fun l70 =>
  (spec_l1PickInt.f (l1Cur.mk a.b (ci3 (decide (0 < r64.2)) r65.1.i r64.1.i) (ci3 (decide (0 < r64.2)) r65.1.h r64.1.h)) l70).bind fun r71 =>
  joinK (fun (y72 : Int) (y73 : Int) (y74 : Bool) (y75 : List Int) =>
  (spec_l1Once.f (l1Cur.mk a.b y72 y73) 2).bind fun r130 =>
  bif r130.2 then (
  (spec_l1Max.f (lenI s.Cols) 1).bind fun r132 =>
  (spec_l1Below.f (l1Cur.mk a.b r130.1.i r130.1.h) r132).bind fun r133 =>
  bif (decide (r133.2 < (lenI s.Cols))) then (
  (getO s.Cols r133.2).bind fun x135 =>
  (spec_l1Max.f x135 1).bind fun r136 =>
  (spec_l1Below.f (l1Cur.mk a.b r133.1.i r133.1.h) r136).bind fun r137 =>
  some ((l1Cur.mk a.b r137.1.i r137.1.h), (Query.mk q1 y10 r64.2 y74 r71.2 y75 true r133.2 r137.2)))
  else (
  some ((l1Cur.mk a.b r133.1.i r133.1.h), (Query.mk q1 y10 r64.2 y74 r71.2 y75 true r133.2 0))))
  else (
  some ((l1Cur.mk a.b r130.1.i r130.1.h), (Query.mk q1 y10 r64.2 y74 r71.2 y75 false 0 0)))) (fun K76 =>
  spec_l9DrawRight.l1 a y3 K76 ((y3 - 0).toNat + 1) r71.1.i r71.1.h (bo3 (decide (0 < r64.2)) r65.2 false) [] 0)) (fun K11 =>
  spec_l9DrawRight.l0 a y3 K11 1000 c0 h0 [] 0)) = some (l1Cur.mk a.b i' h', q) ∧ CI a.b i' ∧ Qr3 q := by
  rw [joinK_eq]
  obtain ⟨c1, h1, w, e1, k1, w1⟩ := l9DrawRight_l0 a y3 1000 0 c0 h0 [] hc rfl (by omega) (by omega)
  rw [show ((0 : Nat) : Int) = 0 from rfl] at e1
  rw [e1]
  obtain ⟨c2, h2, x2, e2, k2, _⟩ := l1Below_ok h1 (w64 (y3 + 1)) k1
  rw [e2, Option.bind_some]
  dsimp only
  have hmid : ∃ c3 h3 d3, (gd (decide (0 < x2)) (spec_l1Once.f (l1Cur.mk a.b c2 h2) 2)).bind (fun r65 => some (ci3 (decide (0 < x2)) r65.1.i c2, ci3 (decide (0 < x2)) r65.1.h h2, bo3 (decide (0 < x2)) r65.2 false)) = some (c3, h3, d3) ∧ CI a.b c3 := by
    by_cases c : 0 < x2
    · obtain ⟨c3, h3, x3, e3, k3⟩ := l1Once_ok h2 2 k2
      rw [decide_eq_true c, gd_true, e3, Option.bind_some]
      exact ⟨_, _, _, rfl, k3⟩
    · rw [decide_eq_false c, gd_false, Option.bind_some]
      exact ⟨_, _, _, rfl, k2⟩
  obtain ⟨c3, h3, d3, e3, k3⟩ := hmid
  have hm2 : ∀ {β : Type} (G : Int → Int → Bool → Option β), (gd (decide (0 < x2)) (spec_l1Once.f (l1Cur.mk a.b c2 h2) 2)).bind (fun r65 => G (ci3 (decide (0 < x2)) r65.1.i c2) (ci3 (decide (0 < x2)) r65.1.h h2) (bo3 (decide (0 < x2)) r65.2 false)) = G c3 h3 d3 := fun G => by
    have := congrArg (fun o => o.bind fun t => G t.1 t.2.1 t.2.2) e3
    simpa only [Option.bind_assoc, Option.bind_some] using this
  obtain ⟨c4, h4, x4, e4, k4, m4⟩ := l1PickInt_ok (l := [0, 0, 1, 2, 3, 5]) h3 (by simp) k3
  simp only [Option.bind_some]
  refine (?_ : ∃ i' h' q, _ = some (l1Cur.mk a.b i' h', q) ∧ CI a.b i' ∧ Qr3 q)
  have hm3 := hm2 (fun ci hh dd => (spec_l1PickInt.f (l1Cur.mk a.b ci hh) [0, 0, 1, 2, 3, 5]).bind fun r71 =>
    joinK (fun (y72 : Int) (y73 : Int) (y74 : Bool) (y75 : List Int) =>
    (spec_l1Once.f (l1Cur.mk a.b y72 y73) 2).bind fun r130 =>
    bif r130.2 then (
    (spec_l1Max.f (lenI s.Cols) 1).bind fun r132 =>
    (spec_l1Below.f (l1Cur.mk a.b r130.1.i r130.1.h) r132).bind fun r133 =>
    bif (decide (r133.2 < (lenI s.Cols))) then (
    (getO s.Cols r133.2).bind fun x135 =>
    (spec_l1Max.f x135 1).bind fun r136 =>
    (spec_l1Below.f (l1Cur.mk a.b r133.1.i r133.1.h) r136).bind fun r137 =>
    some ((l1Cur.mk a.b r137.1.i r137.1.h), (Query.mk q1 w x2 y74 r71.2 y75 true r133.2 r137.2)))
    else (
    some ((l1Cur.mk a.b r133.1.i r133.1.h), (Query.mk q1 w x2 y74 r71.2 y75 true r133.2 0))))
    else (
    some ((l1Cur.mk a.b r130.1.i r130.1.h), (Query.mk q1 w x2 y74 r71.2 y75 false 0 0)))) (fun K76 =>
    spec_l9DrawRight.l1 a y3 K76 ((y3 - 0).toNat + 1) r71.1.i r71.1.h dd [] 0))
  rw [hm3, e4, Option.bind_some, joinK_eq]
  obtain ⟨c5, h5, sh, e5, k5, l5⟩ := l9DrawRight_l1 a y3 hy.2 d3 ((y3 - 0).toNat + 1) 0 c4 h4 [] k4 (by simp) (by omega) (by omega) (by omega) (by simp)
  rw [show ((0 : Nat) : Int) = 0 from rfl] at e5
  dsimp only at e5 ⊢
  rw [e5]
  exact l9DrawRight_end a s q1 w x2 x4 hs w1 c5 h5 d3 sh k5 l5.1 l5.2
theorem l9DrawRight_ok {b : List Int} {i : Int} (h : Int) (s : Schema) (hs : SB s) (hc : CI b i) : ∃ i' h' q, spec_l9DrawRight.f (l1Cur.mk b i h) s = some (l1Cur.mk b i' h', q) ∧ CI b i' ∧ Qr3 q := by
  unfold spec_l9DrawRight.f
  rw [bnd_some (spec_l1Max_eq _ _)]
  obtain ⟨c1, h1, x1, e1, k1, l1, _⟩ := l1Below_ok h (max (lenI s.Cols) 1) hc
  rw [e1, Option.bind_some]
  dsimp only
  rw [joinK_eq]
  by_cases c : x1 < lenI s.Cols
  · have hlt : x1.toNat < s.Cols.length := by rw [lenI_eq] at c; omega
    rw [decide_eq_true c, cond_true, getO_pos l1, List.getElem?_eq_getElem hlt, Option.bind_some, bnd_some (spec_l1Max_eq _ _)]
    have := hs.2 _ (List.getElem_mem hlt)
    have k := l9DrawRight_K (l1Cur.mk b i h) s hs x1 c1 h1 k1 (max s.Cols[x1.toNat] 1) (by omega)
    exact k
  · rw [decide_eq_false c, cond_false]
    exact l9DrawRight_K (l1Cur.mk b i h) s hs x1 c1 h1 k1 1 (by omega)

theorem l9Draw_ok {b : List Int} {i : Int} (h : Int) (s : Schema) (hs : SB s) (hc : CI b i) : ∃ i' h' q, spec_l9Draw.f (l1Cur.mk b i h) s = some (l1Cur.mk b i' h', q) ∧ CI b i' ∧ QB q := by
  unfold spec_l9Draw.f
  obtain ⟨i1, h1, q, e1, k1, q1, q2, q3⟩ := l9DrawRight_ok h s hs hc
  obtain ⟨i2, h2, x2, e2, k2, _⟩ := l1Below_ok h1 25 k1
  rw [bnd_some e1]
  dsimp only
  rw [bnd_some e2]
  dsimp only
  by_cases c0 : x2 = 0
  · obtain ⟨i3, h3, x3, e3, k3, _⟩ := l1Below_ok h2 5 k2
    rw [decide_eq_true c0, cond_true, bnd_some e3]
    exact ⟨_, _, _, rfl, k3, by dsimp only; omega, by dsimp only; omega, q3⟩
  rw [decide_eq_false c0, cond_false]
  by_cases c1 : x2 = 1
  · obtain ⟨i3, h3, x3, e3, k3, _⟩ := l1Below_ok h2 6 k2
    obtain ⟨i4, h4, x4, e4, k4, _⟩ := l1Below_ok h3 6 k3
    obtain ⟨i5, h5, x5, e5, k5, _⟩ := l1PickInt_ok (l := [0, 1000000001]) h4 (by simp) k4
    rw [decide_eq_true c1, cond_true, bnd_some e3]
    dsimp only
    rw [bnd_some e4, Option.bind_some]
    dsimp only
    rw [bnd_some e5, Option.bind_some, appO_ok (by simp only [List.length_cons, List.length_nil]; omega), Option.bind_some]
    exact ⟨_, _, _, rfl, k5, by simp only [List.length_append, List.length_cons, List.length_nil]; omega, by dsimp only; omega, q3⟩
  rw [decide_eq_false c1, cond_false]
  by_cases c2 : x2 = 2
  · obtain ⟨i3, h3, x3, e3, k3, _⟩ := l1Below_ok h2 7 k2
    rw [decide_eq_true c2, cond_true, bnd_some e3]
    exact ⟨_, _, _, rfl, k3, by dsimp only; omega, by dsimp only; omega, q3⟩
  rw [decide_eq_false c2, cond_false]
  by_cases c3 : x2 = 3
  · obtain ⟨i3, h3, x3, e3, k3, _⟩ := l1PickInt_ok (l := [-1, 24, 25]) h2 (by simp) k2
    rw [decide_eq_true c3, cond_true, Option.bind_some, bnd_some e3]
    exact ⟨_, _, _, rfl, k3, by dsimp only; omega, by dsimp only; omega, q3⟩
  rw [decide_eq_false c3, cond_false]
  by_cases c4 : x2 = 4
  · obtain ⟨i3, h3, x3, e3, k3, y1, y2, _⟩ := l1Below_ok h2 5 k2
    have y3 := y2 (by omega)
    rw [decide_eq_true c4, cond_true, bnd_some e3, Option.bind_some, appO_ok (by simp only [List.length_cons, List.length_nil]; omega), Option.bind_some]
    exact ⟨_, _, _, rfl, k3, by dsimp only; omega, by simp only [List.length_append, List.length_cons, List.length_nil]; omega, snoc_all q3 ⟨y1, by omega⟩⟩
  rw [decide_eq_false c4, cond_false]
  by_cases c5 : x2 = 5
  · obtain ⟨i3, h3, x3, e3, k3, _⟩ := l1Below_ok h2 6 k2
    rw [decide_eq_true c5, cond_true, bnd_some e3]
    exact ⟨_, _, _, rfl, k3, by dsimp only; omega, by dsimp only; omega, q3⟩
  rw [decide_eq_false c5, cond_false]
  exact ⟨_, _, _, rfl, k2, by omega, by omega, q3⟩

theorem l6DrawRow_l0 (a : l1Cur) (n : Int) (hn : n ≤ 5) (id : Int) : ∀ (k i : Nat) (ci h : Int) (l : List Int), CI a.b ci → l.length = i → (i : Int) ≤ n ∨ i = 0 → 0 < k → n < i + k → (∀ x ∈ l, 0 ≤ x ∧ x ≤ 5) →
    ∃ ci' h' l', spec_l6DrawRow.l0 a n k ci h id l i = some (l1Cur.mk a.b ci' h', Row.mk id l') ∧ CI a.b ci' ∧ ((l'.length : Int) = n ∨ n < 0 ∧ l'.length = 0) ∧ ∀ x ∈ l', 0 ≤ x ∧ x ≤ 5 := by
  intro k
  induction k with
  | zero => intro i ci h l hc hl h0 h1 h2; omega
  | succ k ih =>
    intro i ci h l hc hl h0 h1 h2 hx
    rw [spec_l6DrawRow.l0]
    by_cases c : (i : Int) < n
    · obtain ⟨c2, h2', x2, e2, k2, l2, u2, _⟩ := l1Below_ok h 6 hc
      have hx4 := u2 (by omega)
      rw [decide_eq_true c, cond_true, e2, Option.bind_some]
      dsimp only
      rw [Option.bind_some, appO_ok (by simp only [List.length_cons, List.length_nil]; omega), Option.bind_some, w64_succ (by omega)]
      exact ih (i + 1) c2 h2' (l ++ [x2]) k2 (by simp [hl]) (by omega) (by omega) (by omega) (snoc_all hx (by omega))
    · rw [decide_eq_false c, cond_false]
      exact ⟨_, _, _, rfl, hc, by omega, hx⟩
theorem l6DrawRow_ok {b : List Int} {i : Int} (h : Int) (n : Int) (hn : n ≤ 5) (hc : CI b i) : ∃ i' h' r, spec_l6DrawRow.f (l1Cur.mk b i h) n = some (l1Cur.mk b i' h', r) ∧ CI b i' ∧ 1 ≤ r.Id ∧ r.Id ≤ 12 ∧ ((r.Cells.length : Int) = n ∨ n < 0 ∧ r.Cells.length = 0) ∧ ∀ x ∈ r.Cells, 0 ≤ x ∧ x ≤ 5 := by
  unfold spec_l6DrawRow.f
  obtain ⟨i1, h1, x1, e1, k1, l1, u1, _⟩ := l1Below_ok h 12 hc
  have := u1 (by omega)
  rw [e1, Option.bind_some]
  dsimp only
  rw [w64_id (by omega)]
  obtain ⟨ci', h', l', q1, q2, q3, q4⟩ := l6DrawRow_l0 (l1Cur.mk b i h) n hn (1 + x1) ((n - 0).toNat + 1) 0 i1 h1 [] k1 rfl (by omega) (by omega) (by omega) (by simp)
  exact ⟨_, _, _, q1, q2, by dsimp only; omega, by dsimp only; omega, q3, q4⟩

def rowAtF : List Row → Int → Int → Int
  | [], _, _ => -1
  | r :: l, id, i => if r.Id = id then i else rowAtF l id (i + 1)

theorem spec_RowAt_eq (l : List Row) (id : Int) (h : l.length ≤ 9223372036854775807) : spec_RowAt.f l id = some (rowAtF l id 0) := by
  have key : ∀ (k i : Nat), i ≤ l.length → l.length < i + k → spec_RowAt.l0 l id k i = some (rowAtF (l.drop i) id i) := by
    intro k
    induction k with
    | zero => intro i h h'; omega
    | succ k ih =>
      intro i h h'
      by_cases hi : i < l.length
      · have hx : l[i]? = some l[i] := List.getElem?_eq_getElem hi
        rw [spec_RowAt.l0, lenI_eq, decide_eq_true (by omega), cond_true, getO_nat, hx, Option.bind_some, List.drop_eq_getElem_cons hi, rowAtF, w64_succ (by omega)]
        by_cases e : (l[i]).Id = id
        · rw [decide_eq_true e, cond_true, if_pos e]
        · rw [decide_eq_false e, cond_false, if_neg e]
          exact ih (i + 1) (by omega) (by omega)
      · rw [spec_RowAt.l0, lenI_eq, decide_eq_false (by omega), cond_false, List.drop_eq_nil_of_le (by omega), rowAtF]
  have := key (((lenI l) - 0).toNat + 1) 0 (by omega) (by simp only [lenI_eq]; omega)
  rw [List.drop_zero] at this
  exact this

theorem row_len {r : Row} {B : Int} (h : sz_Row r ≤ B) : (r.Cells.length : Int) ≤ B := by unfold sz_Row sz_IntS at h; exact h

theorem spec_l6Copy_eq (r : Row) (h : sz_Row r ≤ 1099511627776) : spec_l6Copy.f r = some r := by
  have := row_len h
  unfold spec_l6Copy.f
  rw [appO_ok (by simp only [List.length_nil]; omega), Option.bind_some, List.nil_append]

def isId (id : Int) (r : Row) : Bool := decide (r.Id = id)
def isGt (id : Int) (r : Row) : Bool := decide (id < r.Id)
def idxI (p : Row → Bool) (l : List Row) : Int := if l.findIdx p < l.length then (l.findIdx p : Int) else -1
def rowDropF (l : List Row) (id : Int) : List Row := l.eraseIdx (l.findIdx (isId id))
def rowPutF (l : List Row) (r : Row) : List Row := if l.findIdx (isId r.Id) < l.length then l.set (l.findIdx (isId r.Id)) r else l.take (l.findIdx (isGt r.Id)) ++ [r] ++ l.drop (l.findIdx (isGt r.Id))
theorem rowAtF_idx : ∀ (l : List Row) (id i : Int), rowAtF l id i = if l.findIdx (isId id) < l.length then i + (l.findIdx (isId id) : Int) else -1
  | [], _, _ => rfl
  | r :: l, id, i => by
    rw [rowAtF, rowAtF_idx l id (i + 1), List.findIdx_cons]
    by_cases e : r.Id = id
    · rw [if_pos e, isId, decide_eq_true e]; simp
    · rw [if_neg e, isId, decide_eq_false e]
      simp only [cond_false, List.length_cons]
      by_cases h : l.findIdx (isId id) < l.length
      · rw [if_pos h, if_pos (by omega)]; omega
      · rw [if_neg h, if_neg (by omega)]
theorem rowAt_0 (l : List Row) (id : Int) : rowAtF l id 0 = idxI (isId id) l := by
  rw [rowAtF_idx, idxI]
  split
  · omega
  · rfl
theorem idxI_nn {p : Row → Bool} {l : List Row} : 0 ≤ idxI p l ↔ l.findIdx p < l.length := by
  unfold idxI
  split
  · simp_all
  · simp_all
theorem idxI_pos {p : Row → Bool} {l : List Row} (h : l.findIdx p < l.length) : idxI p l = (l.findIdx p : Int) := if_pos h
theorem idxI_neg {p : Row → Bool} {l : List Row} (h : ¬ l.findIdx p < l.length) : idxI p l = -1 := if_neg h
theorem sum_append {α : Type} (s : α → Int) (a b : List α) : ((a ++ b).map s).sum = (a.map s).sum + (b.map s).sum := by rw [List.map_append, List.sum_append]
theorem sum_take_drop {α : Type} (s : α → Int) (l : List α) (k : Nat) : (l.map s).sum = ((l.take k).map s).sum + ((l.drop k).map s).sum := by rw [← sum_append, List.take_append_drop]
theorem sum_set {α : Type} {s : α → Int} (hs : ∀ x, 0 ≤ s x) (x : α) : ∀ (l : List α) (i : Nat), ((l.set i x).map s).sum ≤ (l.map s).sum + s x
  | [], i => by simp [hs x]
  | a :: l, 0 => by simp only [List.set_cons_zero, List.map_cons, List.sum_cons]; have := hs a; omega
  | a :: l, i + 1 => by simp only [List.set_cons_succ, List.map_cons, List.sum_cons]; have := sum_set hs x l i; omega
theorem sum_erase {α : Type} {s : α → Int} (hs : ∀ x, 0 ≤ s x) : ∀ (l : List α) (i : Nat), ((l.eraseIdx i).map s).sum ≤ (l.map s).sum
  | [], i => by simp
  | a :: l, 0 => by simp only [List.eraseIdx_cons_zero, List.map_cons, List.sum_cons]; have := hs a; omega
  | a :: l, i + 1 => by simp only [List.eraseIdx_cons_succ, List.map_cons, List.sum_cons]; have := sum_erase hs l i; omega
theorem rowDrop_len (l : List Row) (id : Int) : (rowDropF l id).length ≤ l.length := by unfold rowDropF; rw [List.length_eraseIdx]; split <;> omega
theorem rowDrop_sz (l : List Row) (id : Int) : sz_RowS (rowDropF l id) ≤ sz_RowS l := by
  have h1 := rowDrop_len l id
  have h2 := sum_erase sz_Row_0 l (l.findIdx (isId id))
  unfold sz_RowS
  unfold rowDropF at *
  omega
theorem rowPut_len (l : List Row) (r : Row) : (rowPutF l r).length ≤ l.length + 1 := by
  unfold rowPutF
  split
  · rw [List.length_set]; omega
  · simp; omega
theorem rowPut_sz (l : List Row) (r : Row) : sz_RowS (rowPutF l r) ≤ sz_RowS l + 1 + sz_Row r := by
  have h1 := rowPut_len l r
  unfold sz_RowS
  have h2 : ((rowPutF l r).map sz_Row).sum ≤ (l.map sz_Row).sum + sz_Row r := by
    unfold rowPutF
    split
    · exact sum_set sz_Row_0 r l _
    · rw [sum_append, sum_append, sum_take_drop sz_Row l (l.findIdx (isGt r.Id))]
      simp
      omega
  omega
theorem mem_rowDrop {l : List Row} {id : Int} {x : Row} (h : x ∈ rowDropF l id) : x ∈ l := List.mem_of_mem_eraseIdx h
theorem mem_rowPut {l : List Row} {r x : Row} (h : x ∈ rowPutF l r) : x = r ∨ x ∈ l := by
  unfold rowPutF at h
  split at h
  · rcases List.mem_or_eq_of_mem_set h with h | h
    · exact .inr h
    · exact .inl h
  · rcases List.mem_append.1 h with h | h
    · rcases List.mem_append.1 h with h | h
      · exact .inr (List.mem_of_mem_take h)
      · exact .inl (List.mem_singleton.1 h)
    · exact .inr (List.mem_of_mem_drop h)
theorem rowDrop_b {l : List Row} (h : RowS_b l) (id : Int) : RowS_b (rowDropF l id) := ⟨by have := rowDrop_len l id; have := h.1; omega, fun x hx => h.2 x (mem_rowDrop hx)⟩
theorem rowPut_b {l : List Row} (h : RowS_b l) (hl : l.length < 9223372036854775807) {r : Row} (hr : Row_b r) : RowS_b (rowPutF l r) := ⟨by have := rowPut_len l r; omega, fun x hx => by
  rcases mem_rowPut hx with rfl | hx
  · exact hr
  · exact h.2 x hx⟩
theorem findIdx_take {α : Type} (p : α → Bool) (l : List α) {i : Nat} {x : α} (hx : l[i]? = some x) : (l.take (i + 1)).findIdx p = if (l.take i).findIdx p < i then (l.take i).findIdx p else if p x then i else i + 1 := by
  have hi := at_lt hx
  have hl : (l.take i).length = i := by rw [List.length_take]; omega
  rw [take_snoc hx, List.findIdx_append, hl]
  by_cases h : (l.take i).findIdx p < i
  · rw [if_pos h, if_pos h]
  · rw [if_neg h, if_neg h]
    cases hp : p x <;> simp [List.findIdx_cons, hp] <;> omega
theorem findIdx_isId {rows : List Row} {id : Int} (h : rows.findIdx (isId id) < rows.length) : (rows[rows.findIdx (isId id)]).Id = id := by
  have := List.findIdx_getElem (w := h)
  exact of_decide_eq_true this
theorem sum_le {α : Type} {s : α → Int} {B : Int} : ∀ {l : List α}, (∀ x ∈ l, s x ≤ B) → (l.map s).sum ≤ l.length * B
  | [], _ => by simp
  | x :: l, h => by
    have h1 := h x (List.mem_cons_self ..)
    have h2 := sum_le (l := l) fun y hy => h y (List.mem_cons_of_mem _ hy)
    simp only [List.map_cons, List.sum_cons, List.length_cons]
    rw [show ((l.length + 1 : Nat) : Int) * B = l.length * B + B by rw [Int.natCast_add, Int.add_mul]; simp]
    omega

theorem spec_RowDrop_eq (l : List Row) (id : Int) (h : sz_RowS l ≤ 1099511627776) : spec_RowDrop.f l id = some (rowDropF l id) := by
  unfold sz_RowS at h
  have p := sum_nonneg sz_Row_0 l
  unfold spec_RowDrop.f
  rw [spec_RowAt_eq _ _ (by omega), Option.bind_some, rowAt_0]
  generalize hd : l.findIdx (isId id) = d
  have key : ∀ (k i : Nat), i ≤ l.length → l.length < i + k → spec_RowDrop.l0 l (idxI (isId id) l) k ((l.take i).eraseIdx d) i = some (rowDropF l id) := by
    intro k
    induction k with
    | zero => intro i h h'; omega
    | succ k ih =>
      intro i h0 h'
      by_cases hi : i < l.length
      · have hx : l[i]? = some l[i] := List.getElem?_eq_getElem hi
        have hm := sum_mem sz_Row_0 (List.mem_of_getElem? hx)
        have ht : (l.take i).length = i := by rw [List.length_take]; omega
        rw [spec_RowDrop.l0, lenI_eq, decide_eq_true (by omega), cond_true]
        have hs := ih (i + 1) (by omega) (by omega)
        rw [take_snoc hx] at hs
        by_cases e : d = i
        · have ei : idxI (isId id) l = (i : Int) := by rw [idxI_pos (by omega), hd, e]
          rw [ei] at hs ⊢
          rw [decide_eq_false (by omega), cond_false, w64_succ (by omega)]
          rw [e] at hs ⊢
          rw [List.eraseIdx_of_length_le (by omega)]
          rw [List.eraseIdx_append_of_length_le (by omega), ht] at hs
          simpa using hs
        · have ei : ¬ (i : Int) = idxI (isId id) l := by
            unfold idxI; split <;> omega
          rw [decide_eq_true ei, cond_true, getO_nat, hx, Option.bind_some, spec_l6Copy_eq _ (by omega), Option.bind_some, Option.bind_some, appO_ok (by
            have : ((l.take i).eraseIdx d).length ≤ i := by rw [List.length_eraseIdx]; split <;> omega
            simp only [List.length_cons, List.length_nil]; omega), Option.bind_some, w64_succ (by omega)]
          by_cases e2 : d < i
          · rw [List.eraseIdx_append_of_lt_length (by omega)] at hs
            exact hs
          · rw [List.eraseIdx_of_length_le (by simp; omega)] at hs
            rw [List.eraseIdx_of_length_le (by omega)]
            exact hs
      · rw [spec_RowDrop.l0, lenI_eq, decide_eq_false (by omega), cond_false, List.take_of_length_le (by omega), ← hd]
        rfl
  have := key (((lenI l) - 0).toNat + 1) 0 (by omega) (by simp only [lenI_eq]; omega)
  rw [List.take_zero, List.eraseIdx_nil] at this
  exact this

theorem spec_RowPut_l0 (r : Row) (l : List Row) (K : Int → Option (List Row)) (hl : l.length < 9223372036854775807) : ∀ (k i : Nat) (at_ : Int), i ≤ l.length → i < k → spec_RowPut.l0 r l K k at_ ((i : Int) - 1) = K (if (l.take i).findIdx (isGt r.Id) < i then ((l.take i).findIdx (isGt r.Id) : Int) else at_) := by
  intro k
  induction k with
  | zero => intro i at_ h h'; omega
  | succ k ih =>
    intro i at_ h h'
    cases i with
    | zero => rw [spec_RowPut.l0, decide_eq_false (by omega), cond_false, if_neg (by omega)]
    | succ i =>
      have hx : l[i]? = some l[i] := List.getElem?_eq_getElem (by omega)
      have e1 : ((i + 1 : Nat) : Int) - 1 = (i : Int) := by omega
      rw [spec_RowPut.l0, e1, decide_eq_true (by omega), cond_true, getO_nat, hx, Option.bind_some, w64_id (by omega), ih i _ (by omega) (by omega), ih i _ (by omega) (by omega), findIdx_take _ _ hx]
      by_cases c : (l.take i).findIdx (isGt r.Id) < i
      · simp only [if_pos c]
        rw [if_pos (by omega)]
        cases decide (r.Id < l[i].Id) <;> rfl
      · simp only [if_neg c]
        rw [isGt]
        cases hc : decide (r.Id < l[i].Id)
        · simp
        · simp
theorem spec_RowPut_eq (l : List Row) (r : Row) (h : sz_RowS l ≤ 1099511627776) (hr : sz_Row r ≤ 1099511627776) : spec_RowPut.f l r = some (rowPutF l r) := by
  have hz := rowDrop_sz l r.Id
  have hdl := rowDrop_len l r.Id
  have h' := h
  unfold sz_RowS at h'
  have p := sum_nonneg sz_Row_0 l
  have cut : ∀ (y : Nat), y ≤ (rowDropF l r.Id).length → ((cutO (rowDropF l r.Id) 0 (y : Int)).bind fun l17 => (appO 32 [] l17).bind fun l18 => (spec_l6Copy.f r).bind fun r19 => (some [r19]).bind fun l20 => (appO 32 l18 l20).bind fun l21 => (cutO (rowDropF l r.Id) (y : Int) (lenI (rowDropF l r.Id))).bind fun l22 => (appO 32 l21 l22).bind fun l23 => some l23) = some ((rowDropF l r.Id).take y ++ [r] ++ (rowDropF l r.Id).drop y) := by
    intro y hy
    rw [cutO_ok ⟨by omega, by omega, by omega⟩, Option.bind_some, appO_ok (by simp; omega), Option.bind_some, spec_l6Copy_eq _ hr, Option.bind_some, Option.bind_some, appO_ok (by simp; omega), Option.bind_some, lenI_eq, cutO_ok ⟨by omega, by omega, by omega⟩, Option.bind_some, appO_ok (by simp; omega), Option.bind_some]
    simp
  unfold spec_RowPut.f
  rw [spec_RowDrop_eq _ _ h, Option.bind_some]
  simp only [joinK]
  rw [spec_RowAt_eq _ _ (by omega), Option.bind_some, rowAt_0]
  unfold rowPutF
  by_cases c : l.findIdx (isId r.Id) < l.length
  · rw [if_pos c, idxI_pos c, decide_eq_true (by omega), cond_true, Option.bind_some]
    rw [cut _ (by unfold rowDropF; rw [List.length_eraseIdx]; split <;> omega)]
    rw [List.set_eq_take_append_cons_drop, if_pos c]
    unfold rowDropF
    rw [List.eraseIdx_eq_take_drop_succ]
    have hl : (l.take (l.findIdx (isId r.Id))).length = l.findIdx (isId r.Id) := by rw [List.length_take]; omega
    rw [List.take_left' hl, List.drop_left' hl]
    simp
  · have hd : rowDropF l r.Id = l := by unfold rowDropF; exact List.eraseIdx_of_length_le (by omega)
    rw [hd] at cut
    rw [if_neg c, idxI_neg c, decide_eq_false (by omega), cond_false, hd, lenI_eq, w64_id (by omega), spec_RowPut_l0 r l _ (by omega) _ _ _ (Nat.le_refl _) (by omega), List.take_length]
    have hle := List.findIdx_le_length (xs := l) (p := isGt r.Id)
    split
    · rw [lenI_eq] at cut
      exact cut _ hle
    · rename_i hn
      rw [lenI_eq] at cut
      have e : l.findIdx (isGt r.Id) = l.length := by omega
      rw [e]
      exact cut _ (Nat.le_refl _)

/-- Rows in order of their Ids. -/
def UpR (l : List Row) : Prop := l.Pairwise fun a b => a.Id < b.Id
theorem UpR_ids {l : List Row} : UpR l ↔ (l.map Row.Id).Pairwise (· < ·) := by
  unfold UpR; rw [List.pairwise_map]
theorem up_find {l : List Row} {i : Nat} {x : Row} (p : Row → Bool) (hx : l[i]? = some x) (h : p x = true) : l.findIdx p ≤ i := by
  rcases Nat.lt_or_ge i (l.findIdx p) with hlt | hge
  · have := List.not_of_lt_findIdx hlt
    have e := (List.getElem?_eq_some_iff.1 hx).2
    rw [e, h] at this
    cases this
  · exact hge
theorem up_put {l : List Row} (h : UpR l) (r : Row) : UpR (rowPutF l r) := by
  unfold rowPutF
  split
  · rename_i hi
    rw [UpR_ids, List.map_set]
    have e := findIdx_isId hi
    generalize l.findIdx (isId r.Id) = k at hi e
    have hl : k < (l.map Row.Id).length := by rw [List.length_map]; exact hi
    have e2 : (l.map Row.Id)[k] = r.Id := by rw [List.getElem_map]; exact e
    rw [← e2, List.set_getElem_self]
    exact UpR_ids.1 h
  · rename_i hi
    have hle := List.findIdx_le_length (xs := l) (p := isGt r.Id)
    have hne : ∀ x ∈ l, x.Id ≠ r.Id := fun x hx e => by
      obtain ⟨i, hi'⟩ := List.getElem?_of_mem hx
      have := up_find (isId r.Id) hi' (by unfold isId; exact decide_eq_true e)
      have := at_lt hi'
      omega
    have h1 : ∀ x ∈ l.take (l.findIdx (isGt r.Id)), x.Id < r.Id := fun x hx => by
      obtain ⟨i, hi'⟩ := List.getElem?_of_mem hx
      rw [List.getElem?_take] at hi'
      split at hi'
      · rename_i hlt
        have := List.not_of_lt_findIdx hlt
        rw [(List.getElem?_eq_some_iff.1 hi').2] at this
        have := of_decide_eq_false this
        have := hne x (List.mem_of_getElem? hi')
        omega
      · cases hi'
    have h2 : ∀ x ∈ l.drop (l.findIdx (isGt r.Id)), r.Id < x.Id := fun x hx => by
      obtain ⟨i, hi'⟩ := List.getElem?_of_mem hx
      rw [List.getElem?_drop] at hi'
      have hlt := at_lt hi'
      have hk : l.findIdx (isGt r.Id) < l.length := by omega
      have hg : r.Id < (l[l.findIdx (isGt r.Id)]).Id := of_decide_eq_true (List.findIdx_getElem (w := hk))
      rcases Nat.eq_zero_or_pos i with rfl | hp
      · have e := (List.getElem?_eq_some_iff.1 hi').2
        rw [← e]; simpa using hg
      · have := List.pairwise_iff_getElem.1 h (l.findIdx (isGt r.Id)) (l.findIdx (isGt r.Id) + i) hk hlt (by omega)
        rw [(List.getElem?_eq_some_iff.1 hi').2] at this
        omega
    unfold UpR at *
    rw [List.append_assoc, List.pairwise_append, List.pairwise_append]
    refine ⟨h.sublist (List.take_sublist _ _), ⟨List.pairwise_singleton _ _, h.sublist (List.drop_sublist _ _), fun a ha b hb => ?_⟩, fun a ha b hb => ?_⟩
    · rw [List.mem_singleton.1 ha]; exact h2 b hb
    · rcases List.mem_append.1 hb with hb | hb
      · rw [List.mem_singleton.1 hb]; exact h1 a ha
      · have := h1 a ha; have := h2 b hb; omega
/-- A drawn row, drawn rows. -/
def DRw (n : Int) (r : Row) : Prop := 1 ≤ r.Id ∧ r.Id ≤ 12 ∧ (r.Cells.length : Int) = n ∧ ∀ x ∈ r.Cells, 0 ≤ x ∧ x ≤ 5
def DRs (n : Int) (l : List Row) : Prop := UpR l ∧ ∀ r ∈ l, DRw n r
theorem DRs.put {n : Int} {l : List Row} (h : DRs n l) {r : Row} (hr : DRw n r) : DRs n (rowPutF l r) := ⟨up_put h.1 r, fun x hx => by
  rcases mem_rowPut hx with rfl | hx
  · exact hr
  · exact h.2 x hx⟩
theorem DRs.sz {n : Int} {l : List Row} (hn : n ≤ 5) (h : DRs n l) {k : Nat} (hk : l.length ≤ k) : sz_RowS l ≤ k * 6 := by
  have := sum_le (s := sz_Row) (B := 5) (l := l) fun x hx => by
    have := (h.2 x hx).2.2.1
    unfold sz_Row sz_IntS; omega
  unfold sz_RowS; omega
theorem DRw.sz {n : Int} {r : Row} (hn : n ≤ 5) (h : DRw n r) : sz_Row r ≤ 5 := by
  have := h.2.2.1
  unfold sz_Row sz_IntS; omega

theorem l6DrawRows_l0 (a : l1Cur) (n : Int) (hn : 0 ≤ n ∧ n ≤ 5) : ∀ (k i : Nat) (ci h : Int) (l : List Row), CI a.b ci → l.length ≤ i → i ≤ 8 → 9 ≤ i + k → DRs n l →
    ∃ ci' h' l', spec_l6DrawRows.l0 a n k ci h l i = some (l1Cur.mk a.b ci' h', l') ∧ CI a.b ci' ∧ l'.length ≤ 8 ∧ DRs n l' := by
  intro k
  induction k with
  | zero => intro i ci h l hc hl h1 h2; omega
  | succ k ih =>
    intro i ci h l hc hl h1 h2 hd
    obtain ⟨c1, h1', x1, e1, k1, l1, u1, _⟩ := l1Below_ok h 9 hc
    have hx3 := u1 (by omega)
    rw [spec_l6DrawRows.l0, e1, Option.bind_some]
    dsimp only
    by_cases c : (i : Int) < x1
    · obtain ⟨c2, h2', r, e2, k2, r1, r2, r3, r4⟩ := l6DrawRow_ok h1' n hn.2 k1
      have hr : DRw n r := ⟨r1, r2, by omega, r4⟩
      have := hd.sz hn.2 (k := 8) (by omega)
      have := hr.sz hn.2
      rw [decide_eq_true c, cond_true, e2, Option.bind_some]
      dsimp only
      rw [spec_RowPut_eq _ _ (by omega) (by omega), Option.bind_some, w64_succ (by omega)]
      have := rowPut_len l r
      exact ih (i + 1) c2 h2' _ k2 (by omega) (by omega) (by omega) (hd.put hr)
    · rw [decide_eq_false c, cond_false]
      exact ⟨_, _, _, rfl, k1, by omega, hd⟩
theorem l6DrawRows_ok {b : List Int} {i : Int} (h : Int) (n : Int) (hn : 0 ≤ n ∧ n ≤ 5) (hc : CI b i) : ∃ i' h' l, spec_l6DrawRows.f (l1Cur.mk b i h) n = some (l1Cur.mk b i' h', l) ∧ CI b i' ∧ l.length ≤ 8 ∧ DRs n l := by
  unfold spec_l6DrawRows.f
  exact l6DrawRows_l0 (l1Cur.mk b i h) n hn 1000 0 i h [] hc (by simp) (by omega) (by omega) ⟨List.Pairwise.nil, by simp⟩

theorem DrawDocOf_l0 (r1 : l1Cur) (r4 : l1Cur × List Row) (hn : r4.2.length ≤ 8) : ∀ (k i : Nat) (ci h : Int) (l : List Int), CI r1.b ci → l.length = i → i ≤ 10 → 11 ≤ i + k →
    ∃ ci' h' l', (∀ K, spec_DrawDocOf.l0 r1 r4 K k ci h l i = K ci' h' l') ∧ CI r1.b ci' ∧ l'.length ≤ 10 := by
  intro k
  induction k with
  | zero => intro i ci h l hc hl h1 h2; omega
  | succ k ih =>
    intro i ci h l hc hl h1 h2
    obtain ⟨c1, h1', x1, e1, k1, l1, u1, _⟩ := l1Below_ok h 3 hc
    have hx3 := u1 (by omega)
    have hw : w64 ((w64 ((lenI r4.2) + x1)) - 1) = (r4.2.length : Int) + x1 - 1 := by rw [lenI_eq, w64_id (x := (r4.2.length : Int) + x1) (by omega), w64_id (by omega)]
    by_cases c : (i : Int) < (r4.2.length : Int) + x1 - 1
    · obtain ⟨c2, h2', x2, e2, k2, l2, u2, _⟩ := l1Below_ok h1' 4 k1
      obtain ⟨ci', h', l', q1, q2, q3⟩ := ih (i + 1) c2 h2' (l ++ [x2]) k2 (by simp [hl]) (by omega) (by omega)
      refine ⟨ci', h', l', fun K => ?_, q2, q3⟩
      rw [spec_DrawDocOf.l0, e1, Option.bind_some]
      dsimp only
      rw [hw, decide_eq_true c, cond_true, e2, Option.bind_some]
      dsimp only
      rw [Option.bind_some, appO_ok (by simp only [List.length_cons, List.length_nil]; omega), Option.bind_some, w64_succ (by omega)]
      exact q1 K
    · refine ⟨c1, h1', l, fun K => ?_, k1, by omega⟩
      rw [spec_DrawDocOf.l0, e1, Option.bind_some]
      dsimp only
      rw [hw, decide_eq_false c, cond_false]
theorem DrawDocOf_l1 (r1 : l1Cur) (r3 : l1Cur × Query) (y7 : List Int) : ∀ (k : Nat) (ci h : Int) (l : List Row), CI r1.b ci → l.length ≤ 90 → 90 < l.length + k → (∀ r ∈ l, Row_b r) →
    ∃ l', spec_DrawDocOf.l1 r1 r3 y7 k ci h l = some (r3.2, l', y7) ∧ l'.length ≤ 90 ∧ ∀ r ∈ l', Row_b r := by
  intro k
  induction k with
  | zero => intro ci h l hc h1 h2; omega
  | succ k ih =>
    intro ci h l hc h1 h2 hr
    rw [spec_DrawDocOf.l1, lenI_eq]
    by_cases c : (l.length : Int) < 90
    · obtain ⟨c2, h2', x2, e2, k2, _, _, x3, _⟩ := l6DrawRow_ok h 2 (by omega) hc
      obtain ⟨l', q1, q2, q3⟩ := ih c2 h2' (l ++ [x2]) k2 (by simp only [List.length_append, List.length_cons, List.length_nil]; omega) (by simp only [List.length_append, List.length_cons, List.length_nil]; omega) (snoc_all hr (by unfold Row_b IntS_b; omega))
      refine ⟨l', ?_, q2, q3⟩
      rw [decide_eq_true c, cond_true, e2, Option.bind_some]
      dsimp only
      rw [Option.bind_some, appO_ok (by simp only [List.length_cons, List.length_nil]; omega), Option.bind_some]
      exact q1
    · rw [decide_eq_false c, cond_false]
      exact ⟨l, rfl, h1, hr⟩
theorem DrawDocOf_ok (code : List Int) (hl : (code.length : Int) ≤ 1048576) : ∃ q rows kids, spec_DrawDocOf.f code = some (q, rows, kids) ∧ QB q ∧ rows.length ≤ 90 ∧ (∀ r ∈ rows, Row_b r) ∧ kids.length ≤ 10 := by
  unfold spec_DrawDocOf.f
  obtain ⟨h0, e0, k0⟩ := l1New_ok code hl
  rw [bnd_some e0]
  obtain ⟨i1, h1, s, e1, k1, s1, s2, s3⟩ := l6DrawSchema_ok h0 k0
  rw [bnd_some e1]
  obtain ⟨i2, h2, q, e2, k2, q2⟩ := l9Draw_ok h1 s ⟨by omega, fun x hx => by have := s3 x hx; omega⟩ k1
  dsimp only
  rw [bnd_some e2]
  obtain ⟨i3, h3, rows, e3, k3, l3, d3⟩ := l6DrawRows_ok h2 2 (by omega) k2
  dsimp only
  rw [bnd_some e3, joinK_eq]
  have hr : ∀ r ∈ rows, Row_b r := fun r hr => by have := (d3.2 r hr).2.2.1; unfold Row_b IntS_b; omega
  obtain ⟨i4, h4, ks, e4, k4, l4⟩ := DrawDocOf_l0 (l1Cur.mk code 0 h0) (l1Cur.mk code i3 h3, rows) l3 1000 0 i3 h3 [] k3 rfl (by omega) (by omega)
  rw [show ((0 : Nat) : Int) = 0 from rfl] at e4
  rw [e4]
  obtain ⟨i5, h5, x5, e5, k5⟩ := l1Once_ok h4 30 k4
  dsimp only at e5 ⊢
  rw [bnd_some e5]
  dsimp only
  cases x5 with
  | false => rw [cond_false]; exact ⟨q, rows, ks, rfl, q2, by omega, hr, l4⟩
  | true =>
    rw [cond_true]
    obtain ⟨l', m1, m2, m3⟩ := DrawDocOf_l1 (l1Cur.mk code 0 h0) (l1Cur.mk code i2 h2, q) ks (((90 : Int) - (lenI rows)).toNat + 1) i5 h5 rows k5 (by omega) (by rw [lenI_eq]; omega) hr
    exact ⟨q, l', ks, m1, q2, m2, m3, l4⟩

theorem impl_firstOf_eq (q : Query) (n : Nat) : impl_firstOf.f q (n : Int) = some (firstF q n : Int) := by
  unfold impl_firstOf.f firstF
  by_cases c : q.First = 0
  · rw [decide_eq_true c, cond_true, if_pos c]
  · rw [decide_eq_false c, cond_false, if_neg c, Option.bind_some, Option.bind_some]
    congr 1
    unfold minO maxO
    split <;> split <;> (try split) <;> omega

theorem kid_at (kids : List Int) (i : Nat) (hk : (kids.length : Int) ≤ 9223372036854775807) {R : Type} (K : Int → Option R) : (bif (decide ((i : Int) < (lenI kids))) then ((getO kids (i : Int)).bind fun x => K x) else K 0) = K (kids.getD i 0) := by
  rw [lenI_eq]
  by_cases c : i < kids.length
  · rw [decide_eq_true (by omega), cond_true, getO_nat, List.getElem?_eq_getElem c, Option.bind_some, List.getD_eq_getElem?_getD, List.getElem?_eq_getElem c]; rfl
  · rw [decide_eq_false (by omega), cond_false, List.getD_eq_getElem?_getD, List.getElem?_eq_none (by omega)]; rfl
theorem impl_rowDocs_l0 (q : Query) (kids : List Int) (l : List Row) (hc : In64 q.Show) (hl : q.Show.length ≤ 2097152) (hr : ∀ r ∈ l, Row_b r) (hn : l.length ≤ 2097152) (hk : (kids.length : Int) ≤ 9223372036854775807) : ∀ (k i : Nat), i ≤ l.length → l.length < i + k →
    impl_rowDocs.l0 q kids l k ((docsF q kids (l.take i) 0).map orJ) i = some ((docsF q kids l 0).map orJ) := by
  intro k
  induction k with
  | zero => intro i h h'; omega
  | succ k ih =>
    intro i h h'
    rw [impl_rowDocs.l0, lenI_eq]
    by_cases hi : i < l.length
    · have hx : l[i]? = some l[i] := List.getElem?_eq_getElem hi
      have ht : (l.take i).length = i := by rw [List.length_take]; omega
      rw [decide_eq_true (by omega), cond_true, getO_nat, hx, Option.bind_some, joinK_eq, kid_at kids i hk, impl_RowDoc_eq q _ _ (hr _ (List.getElem_mem hi)) hc hl, Option.bind_some, Option.bind_some, appO_ok (by simp only [List.length_map, docsF_len, ht, List.length_cons, List.length_nil]; omega), Option.bind_some, w64_succ (by omega), ← ih (i + 1) (by omega) (by omega), take_snoc hx, docsF_snoc, ht, List.map_append, Nat.zero_add]
      rfl
    · have : i = l.length := by omega
      subst this
      rw [decide_eq_false (by omega), cond_false, List.take_length]
theorem impl_rowDocs_eq (q : Query) (rows : List Row) (kids : List Int) (hc : In64 q.Show) (hl : q.Show.length ≤ 2097152) (hr : ∀ r ∈ rows, Row_b r) (hn : rows.length ≤ 2097152) (hk : (kids.length : Int) ≤ 9223372036854775807) : impl_rowDocs.f q rows kids = some ((docsF q kids (rows.take (firstF q rows.length)) 0).map orJ) := by
  unfold impl_rowDocs.f
  have hf := firstF_le q rows.length
  rw [lenI_eq, impl_firstOf_eq, Option.bind_some, cutO_ok (by omega), Option.bind_some, Int.toNat_natCast]
  have e : (rows.take (firstF q rows.length)).drop (0 : Int).toNat = rows.take (firstF q rows.length) := by simp
  rw [e]
  exact impl_rowDocs_l0 q kids _ hc hl (fun r h => hr r (List.mem_of_mem_take h)) (by rw [List.length_take]; omega) hk (((lenI (rows.take (firstF q rows.length))) - 0).toNat + 1) 0 (by omega) (by rw [lenI_eq]; omega)


theorem indexNull_l0 (l : List Json) (hn : l.length ≤ 9223372036854775806) : ∀ (k i : Nat), i ≤ l.length → l.length < i + k → ∃ r : Int, slices_IndexFunc_impl_Json__impl_DocOf_1.l0 l k i = some r ∧ (0 ≤ r ↔ ∃ x ∈ l.drop i, x.Kind = 0) := by
  intro k
  induction k with
  | zero => intro i h h'; omega
  | succ k ih =>
    intro i h h'
    rw [slices_IndexFunc_impl_Json__impl_DocOf_1.l0, lenI_eq]
    by_cases hi : i < l.length
    · rw [decide_eq_true (by omega), cond_true, getO_nat, List.getElem?_eq_getElem hi, Option.bind_some, impl_DocOf_1.f, Option.bind_some, List.drop_eq_getElem_cons hi, w64_succ (by omega)]
      by_cases c : l[i].Kind = 0
      · rw [decide_eq_true c, cond_true]
        exact ⟨i, rfl, ⟨fun _ => ⟨l[i], List.mem_cons_self .., c⟩, fun _ => by omega⟩⟩
      · rw [decide_eq_false c, cond_false]
        obtain ⟨r, h1, h2⟩ := ih (i + 1) (by omega) (by omega)
        refine ⟨r, h1, h2.trans ⟨fun ⟨x, hx, e⟩ => ⟨x, List.mem_cons_of_mem _ hx, e⟩, fun ⟨x, hx, e⟩ => ?_⟩⟩
        rcases List.mem_cons.1 hx with rfl | hx
        · exact absurd e c
        · exact ⟨x, hx, e⟩
    · rw [decide_eq_false (by omega), cond_false, List.drop_eq_nil_of_le (by omega)]
      exact ⟨-1, rfl, by simp⟩

theorem containsNull_eq (l : List Json) (hn : l.length ≤ 9223372036854775806) : ∃ b, slices_ContainsFunc_impl_Json__impl_DocOf_1.f l = some b ∧ (b = true ↔ ∃ x ∈ l, x.Kind = 0) := by
  unfold slices_ContainsFunc_impl_Json__impl_DocOf_1.f slices_IndexFunc_impl_Json__impl_DocOf_1.f
  obtain ⟨r, h1, h2⟩ := indexNull_l0 l hn (((lenI l) - 0).toNat + 1) 0 (by omega) (by rw [lenI_eq]; omega)
  refine ⟨decide (0 ≤ r), ?_, by rw [decide_eq_true_eq, h2, List.drop_zero]⟩
  refine (congrArg (fun o => Option.bind o _) h1).trans ?_
  rfl

theorem impl_DocOf_eq (q : Query) (rows : List Row) (kids : List Int) (hc : In64 q.Show) (hl : q.Show.length ≤ 2097152) (hr : ∀ r ∈ rows, Row_b r) (hn : rows.length ≤ 2097152) (hk : (kids.length : Int) ≤ 9223372036854775807) : impl_DocOf.f q rows kids = some (docOfF q rows kids) := by
  unfold impl_DocOf.f docOfF
  have hf := firstF_le q rows.length
  rw [impl_rowDocs_eq q rows kids hc hl hr hn hk, Option.bind_some]
  generalize hD : docsF q kids (rows.take (firstF q rows.length)) 0 = D
  have hDl : D.length ≤ 2097152 := by rw [← hD, docsF_len, List.length_take]; omega
  obtain ⟨b, h1, h2⟩ := containsNull_eq (D.map orJ) (by rw [List.length_map]; omega)
  rw [h1, Option.bind_some]
  by_cases hb : ∀ x ∈ D, jsonB x = true
  · have e : D.map orJ = D := (List.map_congr_left (g := id) fun x hx => by unfold orJ; rw [if_pos (hb x hx)]; rfl).trans (List.map_id D)
    have hbf : b = false := by
      rw [← Bool.not_eq_true, h2]
      rintro ⟨x, hx, k0⟩
      rw [e, ← hD] at hx
      obtain ⟨r, n, rfl⟩ := docsF_mem hx
      simp [rowObj, objJ] at k0
    rw [hbf, cond_false, Option.bind_some, Option.bind_some, lenI_eq, e]
    have := impl_orNull_eq (docObj q rows kids) (docObj_w hc hl hn)
    unfold docObj at this ⊢
    rw [hD] at this ⊢
    refine (congrArg (fun o => Option.bind o _) this).trans ?_
    rfl
  · have : ∃ x ∈ D, jsonB x = false := by
      apply Classical.byContradiction
      intro h
      exact hb fun x hx => by
        cases c : jsonB x with
        | true => rfl
        | false => exact absurd ⟨x, hx, c⟩ h
    obtain ⟨x, hx, hxb⟩ := this
    have hbt : b = true := h2.2 ⟨orJ x, List.mem_map.2 ⟨x, hx, rfl⟩, by unfold orJ; rw [hxb, if_neg (by simp)]; rfl⟩
    rw [hbt, cond_true]
    rw [← hD] at hx
    have := docObj_bad hc hl (rows := rows) hx hxb
    unfold orJ
    rw [this, if_neg (by simp)]
    rfl

theorem laws_sameTexts_eq (a b : List ByteArray) (ha : (a.length : Int) ≤ 9223372036854775807) : laws_sameTexts.f a b = some (decide (a = b)) := by
  unfold laws_sameTexts.f
  by_cases hl : a.length = b.length
  · rw [decide_eq_false (by simp only [lenI_eq]; omega), cond_false]
    refine (loop_eq (f := laws_sameTexts.l0 a b) hl (some false) (some true) (fun k i x y hx hy => ?_) (fun k i hi => ?_) _ (by simp only [lenI_eq]; omega)).trans ?_
    · have hi := at_lt hx
      rw [laws_sameTexts.l0, lenI_eq, decide_eq_true (by omega), cond_true, getO_nat, hx, Option.bind_some, getO_nat, hy, Option.bind_some, sc_neq', w64_succ (by omega)]
      by_cases c : x = y
      · simp [c]
      · simp [c]
    · rw [laws_sameTexts.l0, lenI_eq, decide_eq_false (by omega), cond_false]
    · cases decide (a = b) <;> rfl
  · rw [decide_eq_true (by simp only [lenI_eq]; omega), cond_true, decide_eq_false (fun e => hl (by rw [e]))]

theorem laws_sameJson_g : ∀ (k : Nat) (a : Json), dpj a < k → szj a ≤ 9223372036854775807 → laws_sameJson.g k a a = some true := by
  intro k
  induction k with
  | zero => intro a h; omega
  | succ k ih =>
    intro a hd hs
    rw [szj_eq] at hs
    rw [dpj_eq] at hd
    have l0 := szL_len a.List_
    have l1 := szL_0 a.List_
    rw [laws_sameJson.g, laws_sameJson.b, sc_neq', laws_sameTexts_eq _ _ (by omega)]
    simp only [ne_eq, not_true_eq_false, decide_false, bo3_F, bo3_T, decide_true, gd_true, Option.bind_some, cond_false]
    refine (loop_all (f := laws_sameJson.l0 a a (laws_sameJson.g k)) (l := a.List_) (fun _ _ => true) (some false) (some true) (fun k' i x hx => ?_) (fun k' i hi => ?_) _ 0 (by omega) (by rw [lenI_eq]; omega)).trans ?_
    · have hi := at_lt hx
      have m1 := szL_mem (List.mem_of_getElem? hx)
      have m2 := dpL_mem (List.mem_of_getElem? hx)
      rw [laws_sameJson.l0, lenI_eq, decide_eq_true (by omega), cond_true, getO_nat, hx, Option.bind_some, Option.bind_some, ih x (by omega) (by omega), Option.bind_some, bo3_not, Bool.not_true, cond_false, w64_succ (by omega), cond_true]
    · rw [laws_sameJson.l0, lenI_eq, decide_eq_false (by omega), cond_false]
    · rw [allFrom_zero (q := fun _ => true), List.all_eq_true.2 fun _ _ => rfl]; rfl
theorem laws_sameJson_self (a : Json) (hd : dpj a < 20) (hs : szj a ≤ 9223372036854775807) : laws_sameJson.f a a = some true := laws_sameJson_g 20 a hd hs

theorem spec_l1Min_eq (a b : Int) : spec_l1Min.f a b = some (if a < b then a else b) := by
  unfold spec_l1Min.f
  by_cases c : a < b
  · rw [decide_eq_true c, cond_true, if_pos c]
  · rw [decide_eq_false c, cond_false, if_neg c]

theorem spec_l11First_eq (q : Query) (n : Nat) : spec_l11First.f q (n : Int) = some (firstF q n : Int) := by
  unfold spec_l11First.f firstF
  by_cases c : q.First = 0
  · rw [decide_eq_true c, cond_true, if_pos c]
  · rw [decide_eq_false c, cond_false, if_neg c, spec_l1Min_eq, Option.bind_some, spec_l1Max_eq, Option.bind_some]
    congr 1
    split <;> split <;> (try split) <;> omega


theorem spec_l1Text_l0 (s : ByteArray) (hs : (s.data.toList.length : Int) ≤ 4611686018427387904) : ∀ (k i : Nat), i ≤ s.data.toList.length → s.data.toList.length < i + k → spec_l1Text.l0 s k i = some (((s.data.toList.drop i).all fun b => decide (32 ≤ b.toNat ∧ b.toNat ≤ 126)) && decide (s.size ≤ 60)) := by
  intro k
  induction k with
  | zero => intro i h h'; omega
  | succ k ih =>
    intro i h h'
    rw [spec_l1Text.l0, sl_len]
    by_cases hi : i < s.data.toList.length
    · have hx := List.getElem?_eq_getElem hi
      have hb : (s.data.toList[i]).toNat < 256 := UInt8.toNat_lt _
      rw [decide_eq_true (by omega), cond_true, inS_ok hi, Option.bind_some, gd_of, Option.bind_some, sx_at hx, List.drop_eq_getElem_cons hi, List.all_cons, w64_succ (by omega), ih (i + 1) (by omega) (by omega), bo3_or]
      by_cases c : 32 ≤ (s.data.toList[i]).toNat ∧ (s.data.toList[i]).toNat ≤ 126
      · rw [decide_eq_false (by omega), decide_eq_false (by omega), decide_eq_true c]; simp
      · rw [decide_eq_false c]
        have : (decide (((s.data.toList[i]).toNat : Int) < 32) || decide (126 < ((s.data.toList[i]).toNat : Int))) = true := by
          generalize (s.data.toList[i]).toNat = b at c
          rw [Bool.or_eq_true, decide_eq_true_eq, decide_eq_true_eq]; omega
        rw [this]; simp
    · rw [decide_eq_false (by omega), cond_false, List.drop_eq_nil_of_le (by omega), size_len]
      simp
      omega
theorem spec_l1Text_eq (s : ByteArray) (hs : (s.size : Int) ≤ 4611686018427387904) : spec_l1Text.f s = some (txtB s) := by
  unfold spec_l1Text.f txtB
  rw [size_len] at hs
  rw [sl_len]
  exact spec_l1Text_l0 s hs _ 0 (by omega) (by omega)

theorem spec_l1Names_eq (j : Json) (hl : (j.Names.length : Int) ≤ 4611686018427387904) (hs : ∀ x ∈ j.Names, (x.size : Int) ≤ 4611686018427387904) : spec_l1Names.f j = some (if j.Kind = 5 then namesB j.Names && decide (j.Names.length = j.List_.length) else decide (j.Names.length = 0)) := by
  unfold spec_l1Names.f namesB
  by_cases h5 : j.Kind = 5
  · rw [decide_eq_false (by simp [h5]), cond_false, if_pos h5]
    refine (loop_all (f := spec_l1Names.l0 j) (l := j.Names) (fun i x => txtB x && !(decide (0 < i) && Ls.sc .geq (j.Names.getD (i - 1) default) x)) (some false) (some (decide (j.Names.length = j.List_.length))) (fun k i x hx => ?_) (fun k i hi => ?_) _ 0 (by omega) (by rw [lenI_eq]; omega)).trans ?_
    · have hi := at_lt hx
      rw [spec_l1Names.l0, lenI_eq, decide_eq_true (by omega), cond_true, getO_nat, hx, Option.bind_some, spec_l1Text_eq x (hs x (List.mem_of_getElem? hx)), Option.bind_some, names_step _ i x _ hx hl, Option.bind_some, w64_succ (by omega)]
      cases txtB x with
      | false => rfl
      | true =>
        by_cases c : 0 < i
        · have c' : 0 < (i : Int) := by omega
          rw [decide_eq_true c, decide_eq_true c']
          cases hg : Ls.sc .geq (j.Names.getD (i - 1) default) x <;> simp [bo3, hg] <;> simp_all
        · have c' : ¬ 0 < (i : Int) := by omega
          rw [decide_eq_false c, decide_eq_false c']
          simp [bo3]
    · rw [spec_l1Names.l0, lenI_eq, decide_eq_false (by omega), cond_false, lenI_eq]
      congr 1
      rw [decide_eq_decide]; omega
    · cases allFrom (fun i x => txtB x && !(decide (0 < i) && Ls.sc .geq (j.Names.getD (i - 1) default) x)) j.Names 0 <;> rfl
  · rw [decide_eq_true h5, cond_true, if_neg h5, lenI_eq]
    congr 1
    rw [decide_eq_decide]; omega

/-- What the reference gives is right just where that is, and then the same. -/
def GrOk (v s : Int) (B : Int) : Prop := 1 ≤ v ∧ v ≤ B ∧ ((s ≤ 400 → v = s) ∧ (400 < s → 400 < v))
theorem spec_l1Great_l0 (j : Json) (d : Int) (self : Json → Int → Option Int) (f : Json → Int) (B : Int) (hB : B ≤ 1000000) (K : Int → Option Int) (hf : ∀ x, 1 ≤ f x ∧ f x ≤ 401) (hl : (j.List_.length : Int) ≤ 4611686018427387904) (hs : ∀ x ∈ j.List_, ∃ v, self x (w64 (d - 1)) = some v ∧ GrOk v (f x) B) :
    ∀ (k i : Nat) (n s : Int), i ≤ j.List_.length → j.List_.length < i + k → s ≤ 401 → 1 ≤ s → GrOk n s (400 + B) → (400 < n → s = 401) → ∃ v, spec_l1Great.l0 j d self K k n i = K v ∧ GrOk v (if 400 < n then 401 else capL f s (j.List_.drop i)) (400 + B) := by
  intro k
  induction k with
  | zero => intro i n s h h'; omega
  | succ k ih =>
    intro i n s h h' hs1 hs0 hn hnn
    obtain ⟨g1, g2, g3, g4⟩ := hn
    rw [spec_l1Great.l0, lenI_eq]
    by_cases hi : i < j.List_.length
    · by_cases c : n ≤ 400
      · obtain ⟨v, e1, v1, v2, v3, v4⟩ := hs _ (List.getElem_mem hi)
        have hfx := hf j.List_[i]
        have hns : n = s := by
          by_cases c2 : s ≤ 400
          · exact g3 c2
          · have := g4 (by omega); omega
        rw [decide_eq_true (by omega), decide_eq_true c, show bo3 true true false = true from rfl, cond_true, getO_nat, List.getElem?_eq_getElem hi, Option.bind_some, e1, Option.bind_some, w64_id (by omega), w64_succ (by omega), List.drop_eq_getElem_cons hi, if_neg (by omega), capL]
        by_cases cc : 400 < s + f j.List_[i]
        · rw [if_pos cc]
          have hv : 400 < n + v := by
            by_cases c3 : f j.List_[i] ≤ 400
            · have := v3 c3; omega
            · have := v4 (by omega); omega
          obtain ⟨w, w1, w2⟩ := ih (i + 1) (n + v) 401 (by omega) (by omega) (by omega) (by omega) ⟨by omega, by omega, fun h => by omega, fun _ => hv⟩ (fun _ => rfl)
          rw [if_pos hv] at w2
          exact ⟨w, w1, w2⟩
        · rw [if_neg cc]
          have hv : v = f j.List_[i] := v3 (by omega)
          obtain ⟨w, w1, w2⟩ := ih (i + 1) (n + v) (s + f j.List_[i]) (by omega) (by omega) (by omega) (by omega) ⟨by omega, by omega, fun h => by omega, fun h => by omega⟩ (fun h => by omega)
          rw [if_neg (by omega)] at w2
          exact ⟨w, w1, w2⟩
      · rw [decide_eq_false c, bo3_and, Bool.and_false, cond_false, if_pos (by omega)]
        exact ⟨n, rfl, g1, g2, fun h => by omega, fun _ => by omega⟩
    · rw [decide_eq_false (by omega), bo3_F, cond_false, List.drop_eq_nil_of_le (by omega), capL]
      refine ⟨n, rfl, ?_⟩
      by_cases c : 400 < n
      · rw [if_pos c]; exact ⟨g1, g2, fun h => by omega, fun _ => c⟩
      · rw [if_neg c]; exact ⟨g1, g2, g3, g4⟩
theorem spec_l1Great_g : ∀ (k d : Nat) (j : Json), d < k → d ≤ 1000 → Jw j → ∃ v, spec_l1Great.g k j d = some v ∧ GrOk v (sizeF d j) (401 + 401 * d) := by
  intro k
  induction k with
  | zero => intro d j h; omega
  | succ k ih =>
    intro d j h hd hj
    obtain ⟨h1, h2, h3, h4, h5⟩ := (Jw_eq j).1 hj
    rw [spec_l1Great.g, spec_l1Great.b]
    cases d with
    | zero =>
      rw [decide_eq_true (by omega), cond_true, sizeF]
      exact ⟨401, rfl, by omega, by omega, fun h => by omega, fun h => by omega⟩
    | succ d =>
      have hbad : GrOk 401 401 (401 + 401 * ((d + 1 : Nat) : Int)) := ⟨by omega, by omega, fun h => by omega, fun h => by omega⟩
      rw [decide_eq_false (by omega), cond_false, joinK_eq, spec_l1Names_eq j h3 h2, sc_neq', lenI_eq, spec_l1Text_eq _ h1, spec_l1In_eq, spec_l1In_eq]
      have e1 : decide (0 < (j.List_.length : Int)) = decide (0 < j.List_.length) := decide_eq_decide.2 (by omega)
      rw [e1]
      -- the end
      generalize hK : (fun (y2 : Int) =>
  (gd (bo3 (bo3 (bo3 (bo3 (decide (j.Kind ≠ 3)) (decide (j.S ≠ ByteArray.mk #[])) false) true (bo3 (bo3 (decide (j.Kind = 3)) true (decide (4 ≤ j.Kind))) (decide (j.N ≠ 0)) false)) true (bo3 (decide (j.Kind < 4)) (decide (0 < j.List_.length)) false)) false true) (some (if j.Kind = 5 then namesB j.Names && decide (j.Names.length = j.List_.length) else decide (j.Names.length = 0)))).bind fun r37 =>
  bif (bo3 (bo3 (bo3 (bo3 (decide (j.Kind ≠ 3)) (decide (j.S ≠ ByteArray.mk #[])) false) true (bo3 (bo3 (decide (j.Kind = 3)) true (decide (4 ≤ j.Kind))) (decide (j.N ≠ 0)) false)) true (bo3 (decide (j.Kind < 4)) (decide (0 < j.List_.length)) false)) true (bo3 r37 false true)) then (
  some (401 : Int))
  else (
  some y2)) = K
      have hKv : ∀ n : Int, K n = some (if k3B j = true then 401 else n) := by
        intro n
        rw [← hK]
        dsimp only
        unfold k3B
        simp only [bo3_and, bo3_or, bo3_not]
        generalize ((decide (j.Kind ≠ 3) && decide (j.S ≠ ByteArray.mk #[])) || ((decide (j.Kind = 3) || decide (4 ≤ j.Kind)) && decide (j.N ≠ 0)) || (decide (j.Kind < 4) && decide (0 < j.List_.length))) = b1
        generalize (if j.Kind = 5 then namesB j.Names && decide (j.Names.length = j.List_.length) else decide (j.Names.length = 0)) = b2
        cases b1 <;> cases b2 <;> rfl
      clear hK
      have hl0 : ¬ 4 ≤ j.Kind → k3B j = false → capL (sizeF d) 1 j.List_ = 1 := fun hk h => by
        unfold k3B at h
        have : j.List_.length = 0 := by
          simp only [Bool.or_eq_false_iff, Bool.and_eq_false_iff, decide_eq_false_iff_not] at h
          omega
        rw [List.length_eq_zero_iff.1 this, capL]
      have flat : ¬ 4 ≤ j.Kind → ∀ b : Bool, preB j = b → ∃ v, (bif (!b) then some 401 else K 1) = some v ∧ GrOk v (if ownB j = true then capL (sizeF d) 1 j.List_ else 401) (401 + 401 * ((d + 1 : Nat) : Int)) := by
        intro hk b hb
        rw [own_k3, hb, hKv]
        cases b with
        | false => exact ⟨401, rfl, by simpa using hbad⟩
        | true =>
          cases h3 : k3B j with
          | true => exact ⟨401, rfl, by simpa using hbad⟩
          | false =>
            refine ⟨1, rfl, ?_⟩
            rw [if_pos (by rfl), hl0 hk h3]
            exact ⟨by omega, by omega, fun _ => rfl, fun h => by omega⟩
      have deep : 4 ≤ j.Kind → preB j = true → ∃ v, spec_l1Great.l0 j ((d + 1 : Nat) : Int) (spec_l1Great.g k) K (((lenI j.List_) - 0).toNat + 1) 1 0 = some v ∧ GrOk v (if ownB j = true then capL (sizeF d) 1 j.List_ else 401) (401 + 401 * ((d + 1 : Nat) : Int)) := by
        intro hk hb
        obtain ⟨v, e, hv⟩ := spec_l1Great_l0 j ((d + 1 : Nat) : Int) (spec_l1Great.g k) (sizeF d) (401 + 401 * d) (by omega) K (sizeF_range d) h4 (fun x hx => by
          rw [w64_id (by omega), show ((d + 1 : Nat) : Int) - 1 = (d : Int) by omega]
          exact ih d x (by omega) (by omega) (h5 x hx)) (((lenI j.List_) - 0).toNat + 1) 0 1 1 (by omega) (by rw [lenI_eq]; omega) (by omega) (by omega) ⟨by omega, by omega, fun _ => rfl, fun h => by omega⟩ (fun h => by omega)
        rw [if_neg (by omega), List.drop_zero] at hv
        obtain ⟨v1, v2, v3, v4⟩ := hv
        rw [own_k3, hb, Bool.true_and]
        refine ⟨_, e.trans (hKv v), ?_⟩
        cases h3 : k3B j with
        | true => rw [if_pos rfl, if_neg (by simp)]; exact hbad
        | false => rw [if_neg (by simp), if_pos (by rfl)]; exact ⟨v1, by omega, v3, v4⟩
      rw [sizeF]
      by_cases k0 : j.Kind = 0
      · rw [decide_eq_true k0, cond_true]
        have := flat (by omega) (decide (j.N = 0)) (by unfold preB; rw [if_pos k0])
        by_cases n0 : j.N = 0
        · rw [decide_eq_false (by simp [n0]), cond_false]; rw [decide_eq_true n0] at this; exact this
        · rw [decide_eq_true n0, cond_true]; rw [decide_eq_false n0] at this; exact this
      · rw [decide_eq_false k0, cond_false]
        by_cases k1 : j.Kind = 1
        · rw [decide_eq_true k1, cond_true, Option.bind_some, bo3_not]
          exact flat (by omega) _ (by unfold preB; rw [if_neg k0, if_pos k1])
        · rw [decide_eq_false k1, cond_false]
          by_cases k2 : j.Kind = 2
          · rw [decide_eq_true k2, cond_true, Option.bind_some, bo3_not]
            exact flat (by omega) _ (by unfold preB; rw [if_neg k0, if_neg k1, if_pos k2])
          · rw [decide_eq_false k2, cond_false]
            by_cases k3 : j.Kind = 3
            · rw [decide_eq_true k3, cond_true, Option.bind_some, bo3_not]
              exact flat (by omega) _ (by unfold preB; rw [if_neg k0, if_neg k1, if_neg k2, if_pos k3])
            · rw [decide_eq_false k3, cond_false, joinK_eq]
              by_cases k4 : j.Kind = 4
              · rw [decide_eq_true k4, cond_true]
                exact deep (by omega) (by unfold preB; rw [if_neg k0, if_neg k1, if_neg k2, if_neg k3, decide_eq_true k4]; rfl)
              · rw [decide_eq_false k4, cond_false]
                by_cases k5 : j.Kind = 5
                · rw [decide_eq_true k5]
                  exact deep (by omega) (by unfold preB; rw [if_neg k0, if_neg k1, if_neg k2, if_neg k3, decide_eq_true k5]; simp)
                · rw [decide_eq_false k5]
                  have hp : preB j = false := by unfold preB; rw [if_neg k0, if_neg k1, if_neg k2, if_neg k3, decide_eq_false k4, decide_eq_false k5]; rfl
                  rw [own_k3, hp, Bool.false_and, if_neg (by simp)]
                  exact ⟨401, rfl, hbad⟩

theorem spec_JsonOk_eq (j : Json) (h : Jw j) : spec_JsonOk.f j = some (jsonB j) := by
  unfold spec_JsonOk.f spec_l1Great.f jsonB
  obtain ⟨v, e, v1, v2, v3, v4⟩ := spec_l1Great_g 20 6 j (by omega) (by omega) h
  rw [show (6 : Int) = ((6 : Nat) : Int) from rfl, e, Option.bind_some]
  by_cases c : sizeF 6 j ≤ 400
  · rw [v3 c, decide_eq_true c]
  · rw [decide_eq_false c, decide_eq_false (by have := v4 (by omega); omega)]

theorem spec_l11Right_w_eq (j : Json) (h : Jw j) : spec_l11Right__w.f j = some (orJ j) := by
  unfold spec_l11Right__w.f orJ
  rw [spec_JsonOk_eq j h, Option.bind_some, bo3_not]
  cases jsonB j <;> rfl

theorem spec_DocOf_l0 (q : Query) (kids : List Int) (rows : List Row) (hc : In64 q.Show) (hl : q.Show.length ≤ 2097152) (hr : ∀ r ∈ rows, Row_b r) (hn : rows.length ≤ 2097152) (hk : (kids.length : Int) ≤ 9223372036854775807) (K : List Json → Option Json) : ∀ (k i : Nat), i ≤ firstF q rows.length → firstF q rows.length < i + k →
    spec_DocOf.l0 q rows kids K k (docsF q kids (rows.take i) 0) i = K (docsF q kids (rows.take (firstF q rows.length)) 0) := by
  intro k
  have hf := firstF_le q rows.length
  induction k with
  | zero => intro i h h'; omega
  | succ k ih =>
    intro i h h'
    rw [spec_DocOf.l0, lenI_eq, spec_l11First_eq, Option.bind_some]
    by_cases hi : i < firstF q rows.length
    · have hi2 : i < rows.length := by omega
      have hx : rows[i]? = some rows[i] := List.getElem?_eq_getElem hi2
      have ht : (rows.take i).length = i := by rw [List.length_take]; omega
      rw [decide_eq_true (by omega), cond_true, joinK_eq, kid_at kids i hk, getO_nat, hx, Option.bind_some, spec_l11Row_eq q _ _ (hr _ (List.getElem_mem hi2)) hc hl, Option.bind_some, Option.bind_some, appO_ok (by simp only [docsF_len, ht, List.length_cons, List.length_nil]; omega), Option.bind_some, w64_succ (by omega), ← ih (i + 1) (by omega) (by omega), take_snoc hx, docsF_snoc, ht, Nat.zero_add]
    · have : i = firstF q rows.length := by omega
      subst this
      rw [decide_eq_false (by omega), cond_false]
theorem spec_DocOf_eq (q : Query) (rows : List Row) (kids : List Int) (hc : In64 q.Show) (hl : q.Show.length ≤ 2097152) (hr : ∀ r ∈ rows, Row_b r) (hn : rows.length ≤ 2097152) (hk : (kids.length : Int) ≤ 9223372036854775807) : spec_DocOf.f q rows kids = some (docOfF q rows kids) := by
  unfold spec_DocOf.f docOfF
  have hf := firstF_le q rows.length
  rw [joinK_eq]
  refine (spec_DocOf_l0 q kids rows hc hl hr hn hk _ ((lenI rows).toNat + 1) 0 (by omega) (by rw [lenI_eq]; omega)).trans ?_
  unfold spec_l11Num.f
  rw [Option.bind_some, Option.bind_some, Option.bind_some, lenI_eq]
  have := spec_l11Right_w_eq (docObj q rows kids) (docObj_w hc hl hn)
  refine (congrArg (fun o => Option.bind o _) this).trans ?_
  rfl

theorem laws_FnDoc_pure (a0 : List Int) (b0 : IntS_b a0) (r0 : ∀ y ∈ a0, 0 ≤ y ∧ y ≤ 255) : laws_FnDoc.f a0 = some true := by
  unfold laws_FnDoc.f
  rw [laws_big_eq, Option.bind_some]
  by_cases hb : 1048576 < (a0.length : Int)
  · rw [decide_eq_true hb]; rfl
  rw [decide_eq_false hb, cond_false]
  obtain ⟨q, rows, kids, e1, hq, hn, hr, hk⟩ := DrawDocOf_ok a0 (by omega)
  rw [bnd_some e1]
  dsimp only
  have hc : In64 q.Show := fun x hx => by have := hq.2.2 x hx; omega
  have hl : q.Show.length ≤ 2097152 := by have := hq.2.1; omega
  rw [bnd_some (impl_DocOf_eq q rows kids hc hl hr (by omega) (by omega)), bnd_some (spec_DocOf_eq q rows kids hc hl hr (by omega) (by omega))]
  have hw := docObj_w (q := q) (rows := rows) (kids := kids) hc hl (by omega)
  obtain ⟨d1, d2⟩ := orJ_d (docObj q rows kids)
  rw [bnd_some (laws_sameJson_self (docOfF q rows kids) (by unfold docOfF; omega) (by unfold docOfF; omega)), bo3_not, Bool.not_true, cond_false]
  unfold docOfF orJ
  cases hj : jsonB (docObj q rows kids) with
  | false => rw [if_neg (by simp)]; rfl
  | true =>
    rw [if_pos rfl, decide_eq_false (by simp [docObj]), cond_false, bnd_some (impl_Field_rows q rows kids hw hj)]
    have hf := firstF_le q rows.length
    have hD : (docsF q kids (rows.take (firstF q rows.length)) 0).length = firstF q rows.length := by rw [docsF_len, List.length_take]; omega
    refine (loop_all (f := laws_FnDoc.l0 (q, rows, kids) (⟨4, 0, ByteArray.empty, docsF q kids (rows.take (firstF q rows.length)) 0, []⟩, true)) (l := docsF q kids (rows.take (firstF q rows.length)) 0) (fun _ _ => true) (some false) (some true) (fun k i x hx => ?_) (fun k i hi => ?_) _ 0 (by omega) (by dsimp only; rw [lenI_eq]; omega)).trans ?_
    · have hi := at_lt hx
      have hm := List.mem_of_getElem? hx
      have hjx := docObj_row hc hl hj hm
      have hir : i < rows.length := by omega
      have hx2 : x = rowObj q rows[i] (kids.getD i 0) := by
        rw [docsF_get, List.getElem?_take, if_pos (by omega), List.getElem?_eq_getElem hir, Option.map_some, Nat.zero_add] at hx
        exact (Option.some.inj hx).symm
      have hjr : orJ (rowObj q rows[i] (kids.getD i 0)) = x := by unfold orJ; rw [← hx2, hjx, if_pos rfl]
      rw [laws_FnDoc.l0]
      dsimp only
      rw [lenI_eq (docsF q kids (rows.take (firstF q rows.length)) 0), decide_eq_true (by omega), cond_true, joinK_eq, kid_at kids i (by omega), getO_nat, hx, Option.bind_some, getO_nat, List.getElem?_eq_getElem hir, Option.bind_some, impl_RowDoc_eq q _ _ (hr _ (List.getElem_mem hir)) hc hl, Option.bind_some, hjr, impl_JsonSame_self x (by rw [hx2]; exact (rowObj_w hc hl).1) hjx, Option.bind_some, bo3_not, Bool.not_true, cond_false, w64_succ (by omega), cond_true]
    · rw [laws_FnDoc.l0]
      dsimp only
      rw [lenI_eq (docsF q kids (rows.take (firstF q rows.length)) 0), decide_eq_false (by omega), cond_false, lenI_eq, decide_eq_true (by omega)]
      rfl
    · rw [allFrom_zero (q := fun _ => true), List.all_eq_true.2 fun _ _ => rfl]; rfl

end Go.Proofs.YtnhnehckapldeaaDoor.L
