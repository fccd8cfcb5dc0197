/- What the pure functions give. -/
import Derived.Test.YteihbneplbpklaaPv0
import Derived.Test.YteihbneplbpklaaFnKidPutU
namespace Go.Proofs.Yteihbneplbpklaa.L
open Go
set_option linter.unusedVariables false
set_option linter.unusedSimpArgs false
theorem laws_big_eq (l : List Int) : laws_big.f l = some (decide (1048576 < (l.length : Int))) := by unfold laws_big.f; rw [lenI_eq]

def sz_IntS (l : List Int) : Int := l.length
def IntS_b (l : List Int) : Prop := l.length ≤ 9223372036854775807
theorem sz_IntS_0 (l : List Int) : 0 ≤ sz_IntS l := by unfold sz_IntS; omega
def IntS_r (l : List Int) : Prop := ∀ x ∈ l, (-9223372036854775808 ≤ x ∧ x ≤ 9223372036854775807)
/-- A cursor that is right. -/
def CI (b : List Int) (i : Int) : Prop := 0 ≤ i ∧ i ≤ b.length ∧ (b.length : Int) ≤ 1048576
theorem and_le (x : Int) (m : Nat) (hm : m < 9223372036854775808) : 0 ≤ Ls.ar .and .i64 x m ∧ Ls.ar .and .i64 x m ≤ m := by
  show 0 ≤ IntKind.i64.wrap _ ∧ IntKind.i64.wrap _ ≤ _
  have h : (BitVec.ofInt IntKind.i64.bits x &&& BitVec.ofInt IntKind.i64.bits m).toNat ≤ m := by
    rw [BitVec.toNat_and]
    refine Nat.le_trans Nat.and_le_right ?_
    rw [BitVec.toNat_ofInt]
    have : ((m : Int) % (2 ^ IntKind.i64.bits : Nat)).toNat = m := by
      rw [Int.emod_eq_of_lt (by omega) (by show (m : Int) < ((2 ^ 64 : Nat) : Int); omega)]
      omega
    omega
  rw [IntKind.wrap_i64]
  omega
theorem l1Byte_ok {b : List Int} {i : Int} (h : Int) (hc : CI b i) : ∃ i' h' x, spec_l1Byte.f (l1Cur.mk b i h) = some (l1Cur.mk b i' h', x) ∧ CI b i' ∧ 0 ≤ x ∧ x ≤ 255 := by
  obtain ⟨h0, h1, h2⟩ := hc
  unfold spec_l1Byte.f
  dsimp only
  by_cases hi : i < (b.length : Int)
  · rw [lenI_eq, decide_eq_true hi, cond_true, getO_pos h0, List.getElem?_eq_getElem (by omega), Option.bind_some]
    exact ⟨_, _, _, rfl, ⟨by rw [w64_id (by omega)]; omega, by rw [w64_id (by omega)]; omega, h2⟩, and_le _ 255 (by omega)⟩
  · rw [lenI_eq, decide_eq_false hi, cond_false]
    exact ⟨_, _, _, rfl, ⟨h0, h1, h2⟩, and_le _ 255 (by omega)⟩
theorem tmod_lt {x n : Int} (hx : 0 ≤ x) (hn : 0 < n) : 0 ≤ Int.tmod x n ∧ Int.tmod x n < n := ⟨Int.tmod_nonneg _ hx, Int.tmod_lt_of_pos _ hn⟩
theorem l1Below_ok {b : List Int} {i : Int} (h : Int) (n : Int) (hc : CI b i) : ∃ i' h' x, spec_l1Below.f (l1Cur.mk b i h) n = some (l1Cur.mk b i' h', x) ∧ CI b i' ∧ 0 ≤ x ∧ (0 < n → x < n) ∧ (n ≤ 0 → x = 0) := by
  unfold spec_l1Below.f
  by_cases h0 : n ≤ 0
  · rw [decide_eq_true h0, cond_true]
    exact ⟨_, _, _, rfl, hc, by omega, fun _ => by omega, fun _ => rfl⟩
  have hz : nzO n = some () := by unfold nzO; rw [if_pos (by omega)]
  rw [decide_eq_false h0, cond_false]
  obtain ⟨i1, h1, x1, e1, k1, l1, u1⟩ := l1Byte_ok h hc
  by_cases hn : n ≤ 256
  · rw [decide_eq_true hn, cond_true, e1, Option.bind_some, hz, Option.bind_some]
    have := tmod_lt (n := n) l1 (by omega)
    exact ⟨_, _, _, rfl, k1, this.1, fun _ => this.2, fun _ => by omega⟩
  · obtain ⟨i2, h2, x2, e2, k2, l2, u2⟩ := l1Byte_ok h1 k1
    obtain ⟨i3, h3, x3, e3, k3, l3, u3⟩ := l1Byte_ok h2 k2
    obtain ⟨i4, h4, x4, e4, k4, l4, u4⟩ := l1Byte_ok h3 k3
    rw [decide_eq_false hn, cond_false, e1, Option.bind_some]
    dsimp only
    rw [e2, Option.bind_some]
    dsimp only
    rw [e3, Option.bind_some]
    dsimp only
    rw [e4, Option.bind_some, hz, Option.bind_some]
    dsimp only
    rw [w64_id (x := x1 * 16777216) (by omega), w64_id (x := x2 * 65536) (by omega), w64_id (x := x3 * 256) (by omega), w64_id (x := x1 * 16777216 + x2 * 65536) (by omega), w64_id (x := x1 * 16777216 + x2 * 65536 + x3 * 256) (by omega), w64_id (by omega)]
    have := tmod_lt (n := n) (show 0 ≤ x1 * 16777216 + x2 * 65536 + x3 * 256 + x4 by omega) (by omega)
    exact ⟨_, _, _, rfl, k4, this.1, fun _ => this.2, fun _ => by omega⟩
theorem l1New_ok (l : List Int) (hl : (l.length : Int) ≤ 1048576) : ∃ h, spec_l1New.f l = some (l1Cur.mk l 0 h) ∧ CI l 0 := by
  have key : ∀ (k i : Nat) (h : Int), i ≤ l.length → l.length < i + k → ∃ h', spec_l1New.l0 l k h i = some (l1Cur.mk l 0 h') := by
    intro k
    induction k with
    | zero => intro i h h1 h2; omega
    | succ k ih =>
      intro i h h1 h2
      rw [spec_l1New.l0]
      by_cases c : bo3 (decide ((i : Int) < lenI l)) (decide ((i : Int) < 4000)) false = true
      · have hi : i < l.length := by
          rw [bo3_and, Bool.and_eq_true] at c
          have := of_decide_eq_true c.1
          rw [lenI_eq] at this
          omega
        rw [c, cond_true, getO_nat, List.getElem?_eq_getElem hi, Option.bind_some, w64_succ (by omega)]
        exact ih (i + 1) _ (by omega) (by omega)
      · rw [Bool.not_eq_true] at c
        rw [c, cond_false]
        exact ⟨_, rfl⟩
  unfold spec_l1New.f
  obtain ⟨h, e⟩ := key (((lenI l) - 0).toNat + 1) 0 (w64 (17333 + lenI l)) (by omega) (by rw [lenI_eq]; omega)
  exact ⟨h, e, by omega, by omega, hl⟩




def Kid_r (x : Kid) : Prop := (-9223372036854775808 ≤ x.Id ∧ x.Id ≤ 9223372036854775807) ∧ (-9223372036854775808 ≤ x.N ∧ x.N ≤ 9223372036854775807)
def sz_KidS (l : List Kid) : Int := l.length
def KidS_b (l : List Kid) : Prop := l.length ≤ 9223372036854775807
theorem sz_KidS_0 (l : List Kid) : 0 ≤ sz_KidS l := by unfold sz_KidS; omega
def KidS_r (l : List Kid) : Prop := ∀ x ∈ l, Kid_r x
def isKid (id : Int) (k : Kid) : Bool := decide (id ≤ k.Id)
def kidPutF (l : List Kid) (id by_ : Int) : List Kid :=
  match l[l.findIdx (isKid id)]? with
  | some k => if k.Id = id then (if 0 < w64 (k.N + by_) then l.set (l.findIdx (isKid id)) ⟨id, w64 (k.N + by_)⟩ else l.eraseIdx (l.findIdx (isKid id)))
    else (if 0 < by_ then l.take (l.findIdx (isKid id)) ++ [⟨id, by_⟩] ++ l.drop (l.findIdx (isKid id)) else l)
  | none => if 0 < by_ then l ++ [⟨id, by_⟩] else l
def kidMid (l : List Kid) (id by_ : Int) : List Kid :=
  match l[l.findIdx (isKid id)]? with
  | some k => if k.Id = id then (if 0 < w64 (k.N + by_) then l.set (l.findIdx (isKid id)) ⟨id, w64 (k.N + by_)⟩ else l.eraseIdx (l.findIdx (isKid id)))
    else (if 0 < by_ then l.take (l.findIdx (isKid id)) ++ [⟨id, by_⟩] ++ l.drop (l.findIdx (isKid id)) else l)
  | none => l
theorem kid_mid {l : List Kid} {id by_ : Int} (h : l.findIdx (isKid id) < l.length) : kidMid l id by_ = kidPutF l id by_ := by
  unfold kidMid kidPutF
  rw [List.getElem?_eq_getElem h]
theorem kidPut_len (l : List Kid) (id by_ : Int) : (kidPutF l id by_).length ≤ l.length + 1 := by
  unfold kidPutF
  split
  · split
    · split
      · rw [List.length_set]; omega
      · rw [List.length_eraseIdx]; split <;> omega
    · split
      · simp; omega
      · omega
  · split
    · simp
    · omega
theorem findIdx_takeA {α : Type} (p : α → Bool) (l : List α) {i : Nat} {x : α} (hx : l[i]? = some x) (hn : ¬ (l.take i).findIdx p < i) : (p x = true → l.findIdx p = i) ∧ (p x = false → ¬ (l.take (i + 1)).findIdx p < i + 1) := by
  have hi := at_lt hx
  have hl : (l.take i).length = i := by rw [List.length_take]; omega
  constructor
  · intro hp
    have e : l = l.take i ++ x :: l.drop (i + 1) := by
      conv => lhs; rw [← List.take_append_drop i l, List.drop_eq_getElem_cons hi]
      rw [List.getElem?_eq_getElem hi] at hx
      rw [Option.some.inj hx]
    rw [e, List.findIdx_append, hl, if_neg hn, List.findIdx_cons, hp]
    simp
  · intro hp
    rw [take_snoc hx, List.findIdx_append, hl, if_neg hn, List.findIdx_cons, hp]
    simp
    omega

theorem spec_KidPut_2 (l : List Kid) (id by_ : Int) (K : List Kid → Bool → Option (List Kid)) : ∀ (k i : Nat) (acc : List Kid), i ≤ l.length → l.length < i + k → (acc.length : Int) + (l.length - i : Nat) ≤ 1099511627777 → (l.length : Int) ≤ 1099511627776 →
    spec_KidPut.l0 l id by_ K k acc true i = K (acc ++ l.drop i) true := by
  intro k
  induction k with
  | zero => intro i acc h h'; omega
  | succ k ih =>
    intro i acc h h' hz hl
    by_cases hi : i < l.length
    · have hx : l[i]? = some l[i] := List.getElem?_eq_getElem hi
      rw [spec_KidPut.l0, lenI_eq, decide_eq_true (by omega), cond_true, getO_nat, hx, Option.bind_some, bo3_T, bo3_F, cond_false, Option.bind_some, appO_ok (by simp only [List.length_cons, List.length_nil]; omega), Option.bind_some, w64_succ (by omega), ih (i + 1) _ (by omega) (by omega) (by simp only [List.length_append, List.length_cons, List.length_nil]; omega) hl, List.drop_eq_getElem_cons hi]
      simp
    · rw [spec_KidPut.l0, lenI_eq, decide_eq_false (by omega), cond_false, List.drop_eq_nil_of_le (by omega), List.append_nil]
theorem spec_KidPut_3 (l : List Kid) (id by_ : Int) (K : List Kid → Bool → Option (List Kid)) (hl : (l.length : Int) ≤ 1099511627776) (k i : Nat) (x : Kid) (hx : l[i]? = some x) (hp : id ≤ x.Id) (h' : l.length < i + (k + 1)) (hf : l.findIdx (isKid id) = i) :
    spec_KidPut.l0 l id by_ K (k + 1) (l.take i) false i = K (kidMid l id by_) true := by
  have hi := at_lt hx
  have ht : (l.take i).length = i := by rw [List.length_take]; omega
  have hdr : l.drop i = x :: l.drop (i + 1) := by
    rw [List.drop_eq_getElem_cons hi]
    rw [List.getElem?_eq_getElem hi] at hx
    rw [Option.some.inj hx]
  have hm : kidMid l id by_ = if x.Id = id then (if 0 < w64 (x.N + by_) then l.set i ⟨id, w64 (x.N + by_)⟩ else l.eraseIdx i) else (if 0 < by_ then l.take i ++ [⟨id, by_⟩] ++ l.drop i else l) := by
    unfold kidMid
    rw [hf, hx]
  rw [hm, spec_KidPut.l0, lenI_eq, decide_eq_true (by omega), cond_true, getO_nat, hx, Option.bind_some, w64_succ (by omega), decide_eq_true hp, bo3_F, bo3_T, cond_true]
  simp only [joinK]
  by_cases e : x.Id = id
  · rw [if_pos e, decide_eq_true e, cond_true]
    by_cases n0 : 0 < w64 (x.N + by_)
    · rw [if_pos n0, decide_eq_true n0, cond_true, Option.bind_some, appO_ok (by simp only [ht, List.length_cons, List.length_nil]; omega), Option.bind_some, cond_true, spec_KidPut_2 l id by_ _ k (i + 1) _ (by omega) (by omega) (by simp only [List.length_append, ht, List.length_cons, List.length_nil]; omega) hl, List.set_eq_take_append_cons_drop, if_pos hi, List.append_assoc]
      rfl
    · rw [if_neg n0, decide_eq_false n0, cond_false, cond_true, spec_KidPut_2 l id by_ _ k (i + 1) _ (by omega) (by omega) (by simp only [ht]; omega) hl, List.eraseIdx_eq_take_drop_succ]
  · rw [if_neg e, decide_eq_false e, cond_false]
    by_cases n0 : 0 < by_
    · rw [if_pos n0, decide_eq_true n0, cond_true, Option.bind_some, appO_ok (by simp only [ht, List.length_cons, List.length_nil]; omega), Option.bind_some, cond_false, Option.bind_some, appO_ok (by simp only [List.length_append, ht, List.length_cons, List.length_nil]; omega), Option.bind_some, spec_KidPut_2 l id by_ _ k (i + 1) _ (by omega) (by omega) (by simp only [List.length_append, ht, List.length_cons, List.length_nil]; omega) hl, hdr, List.append_assoc]
      rfl
    · rw [if_neg n0, decide_eq_false n0, cond_false, cond_false, Option.bind_some, appO_ok (by simp only [ht, List.length_cons, List.length_nil]; omega), Option.bind_some, spec_KidPut_2 l id by_ _ k (i + 1) _ (by omega) (by omega) (by simp only [List.length_append, ht, List.length_cons, List.length_nil]; omega) hl, List.append_assoc, List.singleton_append, ← hdr, List.take_append_drop]
theorem spec_KidPut_1 (l : List Kid) (id by_ : Int) (K : List Kid → Bool → Option (List Kid)) (hl : (l.length : Int) ≤ 1099511627776) : ∀ (k i : Nat), i ≤ l.length → l.length < i + k → ¬ (l.take i).findIdx (isKid id) < i →
    spec_KidPut.l0 l id by_ K k (l.take i) false i = if l.findIdx (isKid id) < l.length then K (kidMid l id by_) true else K l false := by
  intro k
  induction k with
  | zero => intro i h h'; omega
  | succ k ih =>
    intro i h h' hn
    by_cases hi : i < l.length
    · obtain ⟨x, hx⟩ : ∃ x, l[i]? = some x := ⟨_, List.getElem?_eq_getElem hi⟩
      have ht : (l.take i).length = i := by rw [List.length_take]; omega
      obtain ⟨f1, f2⟩ := findIdx_takeA (isKid id) l hx hn
      by_cases hp : id ≤ x.Id
      · have hf := f1 (decide_eq_true hp)
        rw [if_pos (by omega)]
        exact spec_KidPut_3 l id by_ K hl k i x hx hp h' hf
      · have := f2 (decide_eq_false hp)
        rw [spec_KidPut.l0, lenI_eq, decide_eq_true (by omega), cond_true, getO_nat, hx, Option.bind_some, w64_succ (by omega), decide_eq_false hp, bo3_F, bo3_T, cond_false, Option.bind_some, appO_ok (by simp only [ht, List.length_cons, List.length_nil]; omega), Option.bind_some, ← take_snoc hx]
        exact ih (i + 1) (by omega) (by omega) this
    · rw [List.take_of_length_le (by omega)] at hn ⊢
      rw [spec_KidPut.l0, lenI_eq, decide_eq_false (by omega), cond_false, if_neg (by omega)]
theorem spec_KidPut_eq (l : List Kid) (id by_ : Int) (h : (l.length : Int) ≤ 1099511627776) : spec_KidPut.f l id by_ = some (kidPutF l id by_) := by
  unfold spec_KidPut.f
  simp only [joinK]
  have hle := List.findIdx_le_length (xs := l) (p := isKid id)
  refine (spec_KidPut_1 l id by_ _ h (((lenI l) - 0).toNat + 1) 0 (by omega) (by rw [lenI_eq]; omega) (by omega)).trans ?_
  by_cases c : l.findIdx (isKid id) < l.length
  · rw [if_pos c, kid_mid c]
    rfl
  · rw [if_neg c, bo3_F, bo3_T]
    unfold kidPutF
    rw [List.getElem?_eq_none (by omega)]
    by_cases n0 : 0 < by_
    · rw [decide_eq_true n0, cond_true, Option.bind_some, appO_ok (by simp only [List.length_cons, List.length_nil]; omega), Option.bind_some]
      simp only [if_pos n0]
    · rw [decide_eq_false n0, cond_false]
      simp only [if_neg n0]

def Cond_r (x : Cond) : Prop := (-9223372036854775808 ≤ x.Col ∧ x.Col ≤ 9223372036854775807) ∧ (-9223372036854775808 ≤ x.Op ∧ x.Op ≤ 9223372036854775807) ∧ (-9223372036854775808 ≤ x.V ∧ x.V ≤ 9223372036854775807)
def sz_CondS (l : List Cond) : Int := l.length
def CondS_b (l : List Cond) : Prop := l.length ≤ 9223372036854775807
theorem sz_CondS_0 (l : List Cond) : 0 ≤ sz_CondS l := by unfold sz_CondS; omega
def CondS_r (l : List Cond) : Prop := ∀ x ∈ l, Cond_r x
def sz_Query (x : Query) : Int := sz_CondS x.Where + sz_IntS x.Show
def Query_b (x : Query) : Prop := CondS_b x.Where ∧ IntS_b x.Show
theorem sz_Query_0 (x : Query) : 0 ≤ sz_Query x := by unfold sz_Query; exact by have := sz_CondS_0 x.Where; have := sz_IntS_0 x.Show;  omega
def Query_r (x : Query) : Prop := (-9223372036854775808 ≤ x.Table ∧ x.Table ≤ 9223372036854775807) ∧ CondS_r x.Where ∧ (-9223372036854775808 ≤ x.Order ∧ x.Order ≤ 9223372036854775807) ∧ (-9223372036854775808 ≤ x.First ∧ x.First ≤ 9223372036854775807) ∧ IntS_r x.Show ∧ (-9223372036854775808 ≤ x.KidTable ∧ x.KidTable ≤ 9223372036854775807) ∧ (-9223372036854775808 ≤ x.KidCol ∧ x.KidCol ≤ 9223372036854775807)
def sz_Row (x : Row) : Int := sz_IntS x.Cells
def Row_b (x : Row) : Prop := IntS_b x.Cells
theorem sz_Row_0 (x : Row) : 0 ≤ sz_Row x := by unfold sz_Row; exact by have := sz_IntS_0 x.Cells;  omega
def Row_r (x : Row) : Prop := (-9223372036854775808 ≤ x.Id ∧ x.Id ≤ 9223372036854775807) ∧ IntS_r x.Cells
def sz_RowS (l : List Row) : Int := l.length + (l.map sz_Row).sum
def RowS_b (l : List Row) : Prop := l.length ≤ 9223372036854775807 ∧ ∀ x ∈ l, Row_b x
theorem sz_RowS_0 (l : List Row) : 0 ≤ sz_RowS l := by have := sum_nonneg sz_Row_0 l; unfold sz_RowS; omega
def RowS_r (l : List Row) : Prop := ∀ x ∈ l, Row_r x
def sz_View (x : View) : Int := sz_Query x.Q + sz_RowS x.Rows + sz_KidS x.Kids
def View_b (x : View) : Prop := Query_b x.Q ∧ RowS_b x.Rows ∧ KidS_b x.Kids
theorem sz_View_0 (x : View) : 0 ≤ sz_View x := by unfold sz_View; exact by have := sz_Query_0 x.Q; have := sz_RowS_0 x.Rows; have := sz_KidS_0 x.Kids;  omega
def View_r (x : View) : Prop := Query_r x.Q ∧ RowS_r x.Rows ∧ KidS_r x.Kids
def kidN : List Kid → Int → Int
  | [], _ => 0
  | k :: l, id => if k.Id = id then k.N else kidN l id
theorem loop_find {R α : Type} {f : Nat → Int → Option R} {l : List α} (F : List α → Option R) (h0 : ∀ k (i : Nat) x, l[i]? = some x → f k ((i + 1 : Nat) : Int) = F (l.drop (i + 1)) → f (k + 1) i = F (x :: l.drop (i + 1))) (h1 : ∀ k (i : Nat), i = l.length → f (k + 1) i = F []) :
    ∀ (k i : Nat), i ≤ l.length → l.length < i + k → f k i = F (l.drop i)
  | 0, i, h, h' => by omega
  | k + 1, i, h, h' => by
    by_cases hi : i < l.length
    · rw [List.drop_eq_getElem_cons hi]
      exact h0 k i _ (List.getElem?_eq_getElem hi) (loop_find F h0 h1 k (i + 1) (by omega) (by omega))
    · rw [h1 k i (by omega), List.drop_eq_nil_of_le (by omega)]

/-- Kids that ascend, each with a number that is not too great. -/
def KidsUp : Int → List Kid → Prop
  | _, [] => True
  | lo, k :: l => lo < k.Id ∧ 1 ≤ k.N ∧ k.N ≤ 1000000 ∧ KidsUp k.Id l
theorem KidsUp.mono {lo lo' : Int} (h : lo' ≤ lo) : ∀ {l : List Kid}, KidsUp lo l → KidsUp lo' l
  | [], _ => trivial
  | _ :: _, hk => ⟨by have := hk.1; omega, hk.2⟩
theorem KidsUp.mem : ∀ {l : List Kid} {lo : Int}, KidsUp lo l → ∀ k ∈ l, lo < k.Id ∧ 1 ≤ k.N ∧ k.N ≤ 1000000
  | k :: l, lo, h, x, hx => by
    rcases List.mem_cons.1 hx with rfl | hx
    · exact ⟨h.1, h.2.1, h.2.2.1⟩
    · have := h.2.2.2.mem x hx
      exact ⟨by have := h.1; omega, this.2⟩
theorem kidN_low {id : Int} : ∀ {l : List Kid} {lo : Int}, KidsUp lo l → id ≤ lo → kidN l id = 0
  | [], _, _, _ => rfl
  | k :: l, lo, h, hi => by
    rw [kidN, if_neg (by have := h.1; omega)]
    exact kidN_low h.2.2.2 (by have := h.1; omega)
def maxZ (n : Int) : Int := if n < 0 then 0 else n
theorem maxZ_0 {n : Int} (h : n ≤ 0) : maxZ n = 0 := by unfold maxZ; split <;> omega
theorem maxZ_1 {n : Int} (h : 0 ≤ n) : maxZ n = n := by unfold maxZ; split <;> omega
theorem kidPut_nil (id by_ : Int) : kidPutF [] id by_ = if 0 < by_ then [⟨id, by_⟩] else [] := by
  unfold kidPutF
  simp
theorem kidPut_cons_lt {k : Kid} {l : List Kid} {id by_ : Int} (h : k.Id < id) : kidPutF (k :: l) id by_ = k :: kidPutF l id by_ := by
  unfold kidPutF
  have e : isKid id k = false := decide_eq_false (by omega)
  rw [List.findIdx_cons, e]
  simp only [cond_false, List.getElem?_cons_succ]
  cases l[l.findIdx (isKid id)]? with
  | none => dsimp only; split <;> simp
  | some x =>
    dsimp only
    split
    · split <;> simp
    · split <;> simp
theorem kidPut_cons_eq {k : Kid} {l : List Kid} {id by_ : Int} (h : k.Id = id) : kidPutF (k :: l) id by_ = if 0 < w64 (k.N + by_) then ⟨id, w64 (k.N + by_)⟩ :: l else l := by
  unfold kidPutF
  have e : isKid id k = true := decide_eq_true (by omega)
  rw [List.findIdx_cons, e]
  simp [h]
theorem kidPut_cons_gt {k : Kid} {l : List Kid} {id by_ : Int} (h : id < k.Id) : kidPutF (k :: l) id by_ = if 0 < by_ then ⟨id, by_⟩ :: k :: l else k :: l := by
  unfold kidPutF
  have e : isKid id k = true := decide_eq_true (by omega)
  rw [List.findIdx_cons, e]
  simp only [cond_true, List.getElem?_cons_zero]
  rw [if_neg (by omega)]
  simp
/-- What a put does to kids that ascend. -/
theorem kidPut_law {id by_ : Int} (hb : -1000000 ≤ by_ ∧ by_ ≤ 1000000) : ∀ {l : List Kid} {lo : Int}, KidsUp lo l → lo < id → (∀ k ∈ l, k.N + by_ ≤ 1000000) →
    KidsUp lo (kidPutF l id by_) ∧ ∀ x, kidN (kidPutF l id by_) x = if x = id then maxZ (kidN l id + by_) else kidN l x
  | [], lo, _, hlo, _ => by
    rw [kidPut_nil]
    by_cases h : 0 < by_
    · rw [if_pos h]
      refine ⟨⟨hlo, by dsimp only; omega, by dsimp only; omega, trivial⟩, fun x => ?_⟩
      simp only [kidN]
      by_cases e : x = id
      · rw [if_pos e.symm, if_pos e, maxZ_1 (by omega)]; omega
      · rw [if_neg (fun h => e h.symm), if_neg e]
    · rw [if_neg h]
      refine ⟨trivial, fun x => ?_⟩
      simp only [kidN]
      rw [maxZ_0 (by omega)]
      split <;> rfl
  | k :: l, lo, hu, hlo, hn => by
    obtain ⟨u1, u2, u3, u4⟩ := hu
    by_cases c : k.Id < id
    · obtain ⟨r1, r2⟩ := kidPut_law hb u4 c (fun x hx => hn x (List.mem_cons_of_mem _ hx))
      rw [kidPut_cons_lt c]
      refine ⟨⟨u1, u2, u3, r1⟩, fun x => ?_⟩
      simp only [kidN]
      rw [r2 x, if_neg (show ¬ k.Id = id by omega)]
      by_cases e : x = id
      · rw [if_pos e, if_pos e, if_neg (by omega)]
      · rw [if_neg e, if_neg e]
    by_cases d : k.Id = id
    · have hnk := hn k (List.mem_cons_self ..)
      have hw : w64 (k.N + by_) = k.N + by_ := w64_id (by omega)
      rw [kidPut_cons_eq d, hw]
      by_cases p : 0 < k.N + by_
      · rw [if_pos p]
        refine ⟨⟨hlo, by dsimp only; omega, by dsimp only; omega, u4.mono (by dsimp only; omega)⟩, fun x => ?_⟩
        simp only [kidN]
        rw [if_pos d]
        by_cases e : x = id
        · rw [if_pos e.symm, if_pos e, maxZ_1 (by omega)]
        · rw [if_neg (fun h => e h.symm), if_neg e, if_neg (by omega)]
      · rw [if_neg p]
        refine ⟨u4.mono (by omega), fun x => ?_⟩
        simp only [kidN]
        rw [if_pos d]
        by_cases e : x = id
        · rw [if_pos e, maxZ_0 (by omega), kidN_low u4 (by omega)]
        · rw [if_neg e, if_neg (by omega)]
    · rw [kidPut_cons_gt (by omega)]
      have hz : kidN (k :: l) id = 0 := kidN_low (lo := id) (l := k :: l) ⟨by omega, u2, u3, u4⟩ (by omega)
      rw [hz]
      by_cases p : 0 < by_
      · rw [if_pos p]
        refine ⟨⟨hlo, by dsimp only; omega, by dsimp only; omega, by dsimp only; omega, u2, u3, u4⟩, fun x => ?_⟩
        rw [kidN]
        by_cases e : x = id
        · rw [if_pos e.symm, if_pos e, maxZ_1 (by omega)]; dsimp only; omega
        · rw [if_neg (fun h => e h.symm), if_neg e]
      · rw [if_neg p]
        refine ⟨⟨u1, u2, u3, u4⟩, fun x => ?_⟩
        by_cases e : x = id
        · rw [if_pos e, maxZ_0 (by omega), e, hz]
        · rw [if_neg e]
theorem kidPut_N {id by_ : Int} {B : Int} {l : List Kid} (h : ∀ k ∈ l, k.N ≤ B) (hb : 0 ≤ by_) (hB : 0 ≤ B ∧ B + by_ ≤ 9223372036854775807) (h0 : ∀ k ∈ l, 0 ≤ k.N) : ∀ k ∈ kidPutF l id by_, k.N ≤ B + by_ := by
  intro k hk
  unfold kidPutF at hk
  split at hk
  · rename_i y hy
    have hy1 := h y (List.mem_of_getElem? hy)
    have hy0 := h0 y (List.mem_of_getElem? hy)
    split at hk
    · split at hk
      · rcases List.mem_or_eq_of_mem_set hk with hk | rfl
        · have := h k hk; omega
        · dsimp only; rw [w64_id (by omega)]; omega
      · have := h k (List.mem_of_mem_eraseIdx hk); omega
    · split at hk
      · rcases List.mem_append.1 hk with hk | hk
        · rcases List.mem_append.1 hk with hk | hk
          · have := h k (List.mem_of_mem_take hk); omega
          · rw [List.mem_singleton.1 hk]; dsimp only; omega
        · have := h k (List.mem_of_mem_drop hk); omega
      · have := h k hk; omega
  · split at hk
    · rcases List.mem_append.1 hk with hk | hk
      · have := h k hk; omega
      · rw [List.mem_singleton.1 hk]; dsimp only; omega
    · have := h k hk; omega

def KI (n : Nat) (l : List Kid) : Prop := KidsUp (-1) l ∧ l.length ≤ n ∧ ∀ k ∈ l, k.N ≤ 2 * n
theorem spec_DrawKidPut_l0 (r1 : l1Cur) (K : Int → Int → List Kid → Option (List Kid × Int × Int)) : ∀ (k i : Nat) (ci h : Int) (l : List Kid), CI r1.b ci → i ≤ 6 → 7 ≤ i + k → KI i l → ∃ ci' h' l', CI r1.b ci' ∧ KI 6 l' ∧ spec_DrawKidPut.l0 r1 K k ci h l i = K ci' h' l' := by
  intro k
  induction k with
  | zero => intro i ci h0 l hc h h'; omega
  | succ k ih =>
    intro i ci h0 l hc h h' hI
    obtain ⟨c1, h1, x1, e1, k1, l1, u1, _⟩ := l1Below_ok h0 6 hc
    rw [spec_DrawKidPut.l0, e1, Option.bind_some]
    dsimp only
    by_cases hi : (i : Int) < x1
    · obtain ⟨c2, h2, x2, e2, k2, l2, u2, _⟩ := l1Below_ok h1 7 k1
      obtain ⟨c3, h3, x3, e3, k3, l3, u3, _⟩ := l1Below_ok h2 2 k2
      obtain ⟨i1, i2, i3⟩ := hI
      have h6 := u1 (by omega)
      have h7 := u2 (by omega)
      have h2' := u3 (by omega)
      have hm := i1.mem
      rw [decide_eq_true hi, cond_true, e2, Option.bind_some]
      dsimp only
      rw [e3, Option.bind_some]
      dsimp only
      rw [w64_id (by omega), spec_KidPut_eq _ _ _ (by omega), Option.bind_some, w64_id (by omega)]
      have hlaw := kidPut_law (id := x2) (by_ := 1 + x3) (by omega) i1 (by omega) (fun y hy => by have := i3 y hy; omega)
      have hl := kidPut_len l x2 (1 + x3)
      have hN := kidPut_N (id := x2) (by_ := 1 + x3) (B := 2 * i) i3 (by omega) (by omega) (fun y hy => by have := (hm y hy).2.1; omega)
      exact ih (i + 1) c3 h3 (kidPutF l x2 (1 + x3)) k3 (by omega) (by omega) ⟨hlaw.1, by omega, fun y hy => by have := hN y hy; omega⟩
    · rw [decide_eq_false hi, cond_false]
      exact ⟨c1, h1, l, k1, ⟨hI.1, by have := hI.2.1; omega, fun y hy => by have := hI.2.2 y hy; omega⟩, rfl⟩
theorem spec_DrawKidPut_ok (code : List Int) (hl : (code.length : Int) ≤ 1048576) : ∃ l id by_, spec_DrawKidPut.f code = some (l, id, by_) ∧ KI 6 l ∧ 0 ≤ id ∧ id ≤ 6 ∧ -3 ≤ by_ ∧ by_ ≤ 2 := by
  unfold spec_DrawKidPut.f
  obtain ⟨h0, e, hc⟩ := l1New_ok code hl
  rw [e, Option.bind_some]
  rw [joinK_eq]
  obtain ⟨c', h', l', hc', hI, e'⟩ := spec_DrawKidPut_l0 (l1Cur.mk code 0 h0) (fun y3 y4 y5 => (spec_l1Below.f (l1Cur.mk code y3 y4) 7).bind fun r22 => (spec_l1Below.f (l1Cur.mk code r22.1.i r22.1.h) 6).bind fun r23 => some (y5, r22.2, (w64 (r23.2 - 3)))) 1000 0 0 h0 [] hc (by omega) (by omega) ⟨trivial, by simp, by simp⟩
  obtain ⟨c2, h2, x2, e2, k2, l2, u2, _⟩ := l1Below_ok h' 7 hc'
  obtain ⟨c3, h3, x3, e3, k3, l3, u3, _⟩ := l1Below_ok h2 6 k2
  have := u2 (by omega)
  have := u3 (by omega)
  refine ⟨l', x2, x3 - 3, ?_, hI, l2, by omega, by omega, by omega⟩
  refine e'.trans ?_
  dsimp only at e2 ⊢
  rw [e2, Option.bind_some]
  dsimp only
  rw [e3, Option.bind_some, w64_id (by dsimp only; omega)]





theorem impl_KidPut_l0 (l : List Kid) (id : Int) (K : Int → Option (List Kid)) (hl : (l.length : Int) ≤ 1099511627776) : ∀ (k i : Nat), i ≤ l.length → l.length < i + k → ¬ (l.take i).findIdx (isKid id) < i →
    impl_KidPut.l0 id l K k i = K (l.findIdx (isKid id) : Int) := by
  intro k
  induction k with
  | zero => intro i h h'; omega
  | succ k ih =>
    intro i h h' hn
    by_cases hi : i < l.length
    · have hx : l[i]? = some l[i] := List.getElem?_eq_getElem hi
      obtain ⟨f1, f2⟩ := findIdx_takeA (isKid id) l hx hn
      rw [impl_KidPut.l0, lenI_eq, decide_eq_true (by omega), gd_true, getO_nat, hx, Option.bind_some, bo3_T, w64_succ (by omega)]
      by_cases c : l[i].Id < id
      · rw [decide_eq_true c, cond_true]
        exact ih (i + 1) (by omega) (by omega) (f2 (decide_eq_false (by omega)))
      · rw [decide_eq_false c, cond_false, f1 (decide_eq_true (by omega))]
    · rw [List.take_of_length_le (by omega)] at hn
      have hle := List.findIdx_le_length (xs := l) (p := isKid id)
      rw [impl_KidPut.l0, lenI_eq, decide_eq_false (by omega), gd_false, Option.bind_some, bo3_F, cond_false]
      congr 1
      omega
theorem impl_KidPut_eq (l : List Kid) (id by_ : Int) (h : (l.length : Int) ≤ 1099511627776) : impl_KidPut.f l id by_ = some (kidPutF l id by_) := by
  unfold impl_KidPut.f
  rw [appO_ok (by simp; omega), Option.bind_some, List.nil_append]
  simp only [joinK]
  refine (impl_KidPut_l0 l id _ h (((lenI l) - 0).toNat + 1) 0 (by omega) (by rw [lenI_eq]; omega) (by omega)).trans ?_
  have hle := List.findIdx_le_length (xs := l) (p := isKid id)
  unfold kidPutF
  by_cases c : l.findIdx (isKid id) < l.length
  · have hx : l[l.findIdx (isKid id)]? = some l[l.findIdx (isKid id)] := List.getElem?_eq_getElem c
    rw [lenI_eq, decide_eq_false (by omega), bo3_F, gd_true, getO_nat, hx, Option.bind_some, bo3_F]
    dsimp only
    generalize hk : l[l.findIdx (isKid id)] = x at *
    generalize hn : l.findIdx (isKid id) = n at *
    by_cases e : x.Id = id
    · rw [decide_eq_false (show ¬ x.Id ≠ id from fun h => h e), cond_false, if_pos e, Option.bind_some, Option.bind_some, setI_nat, getO_nat, List.getElem?_set_self c, Option.bind_some, e]
      dsimp only
      by_cases n0 : 0 < w64 (x.N + by_)
      · rw [decide_eq_false (by omega), cond_false, if_pos n0]
      · rw [decide_eq_true (by omega), cond_true, if_neg n0, slices_Delete_impl_Kid.f, delO, w64_succ (by omega), if_pos ⟨by omega, by omega, by rw [List.length_set]; omega⟩, Option.bind_some, Int.toNat_natCast, Int.toNat_natCast, List.eraseIdx_eq_take_drop_succ, List.take_set_of_le (Nat.le_refl _), List.drop_set_of_lt (by omega)]
    · rw [decide_eq_true (show x.Id ≠ id from e), cond_true, if_neg e]
      by_cases n0 : 0 < by_
      · rw [decide_eq_false (by omega), cond_false, if_pos n0, Option.bind_some, slices_Insert_impl_Kid.f, insO, if_pos ⟨rfl, by omega, by omega, by simp; omega, by simp; omega⟩, Option.bind_some, Int.toNat_natCast]
      · rw [decide_eq_true (by omega), cond_true, if_neg n0]
  · have e : l.findIdx (isKid id) = l.length := by omega
    rw [lenI_eq, e, decide_eq_true rfl, bo3_T, gd_false, Option.bind_some, bo3_T, cond_true, List.getElem?_eq_none (by omega)]
    dsimp only
    by_cases n0 : 0 < by_
    · rw [decide_eq_false (by omega), cond_false, if_pos n0, Option.bind_some, slices_Insert_impl_Kid.f, insO, if_pos ⟨rfl, by omega, by omega, by simp; omega, by simp; omega⟩, Option.bind_some, Int.toNat_natCast, List.take_length, List.drop_length, List.append_nil]
    · rw [decide_eq_true (by omega), cond_true, if_neg n0]

theorem impl_KidsIn_eq (v : View) (id : Int) (hv : View_b v) : impl_KidsIn.f v id = some (kidN v.Kids id) := by
  have hl : v.Kids.length ≤ 9223372036854775807 := hv.2.2
  unfold impl_KidsIn.f
  refine (loop_find (f := impl_KidsIn.l0 v id) (l := v.Kids) (fun l => some (kidN l id)) (fun k i x hx ih => ?_) (fun k i hi => ?_) _ 0 (by omega) (by (try simp only [lenI_eq]); omega)).trans (by rw [List.drop_zero])
  · have hi := at_lt hx
    rw [impl_KidsIn.l0, lenI_eq, decide_eq_true (by omega), cond_true, getO_nat, hx, Option.bind_some, w64_succ (by omega), kidN]
    by_cases c : x.Id = id
    · rw [decide_eq_true c, cond_true, if_pos c]
    · rw [decide_eq_false c, cond_false, if_neg c, ih]
  · rw [impl_KidsIn.l0, lenI_eq, decide_eq_false (by omega), cond_false, kidN]

theorem laws_max0_eq (x : Int) : laws_max0.f x = some (maxZ x) := by
  unfold laws_max0.f maxZ
  by_cases h : x < 0
  · rw [decide_eq_true h, if_pos h]; rfl
  · rw [decide_eq_false h, if_neg h]; rfl

theorem up_lt_of {l : List Kid} : ∀ {lo : Int}, KidsUp lo l → ∀ (i : Nat) x y, l[i]? = some x → l[i + 1]? = some y → x.Id < y.Id := by
  induction l with
  | nil => intro lo _ i x y h; simp at h
  | cons k l ih =>
    intro lo h i x y hx hy
    cases i with
    | zero =>
      simp at hx hy
      subst hx
      exact (h.2.2.2.mem y (List.mem_of_getElem? hy)).1
    | succ i => exact ih h.2.2.2 i x y (by simpa using hx) (by simpa using hy)
theorem laws_FnKidPut_l1 {l : List Kid} {lo : Int} (h : KidsUp lo l) (hl : (l.length : Int) ≤ 1000) : ∀ (k i : Nat), 1 ≤ i → 0 < k → l.length < i + k → laws_FnKidPut.l1 l k i = some true := by
  intro k
  induction k with
  | zero => intro i h0 h1 h2; omega
  | succ k ih =>
    intro i h0 h1 h2
    rw [laws_FnKidPut.l1, lenI_eq]
    by_cases hi : (i : Int) < l.length
    · obtain ⟨j, rfl⟩ : ∃ j, i = j + 1 := ⟨i - 1, by omega⟩
      have hx : l[j]? = some l[j] := List.getElem?_eq_getElem (by omega)
      have hy : l[j + 1]? = some l[j + 1] := List.getElem?_eq_getElem (by omega)
      have := up_lt_of h j _ _ hx hy
      rw [decide_eq_true hi, cond_true, w64_id (by omega), show ((j + 1 : Nat) : Int) - 1 = (j : Int) by omega, getO_nat, hx, Option.bind_some, getO_nat, hy, Option.bind_some, decide_eq_false (by omega), cond_false, w64_succ (by omega)]
      exact ih (j + 1 + 1) (by omega) (by omega) (by omega)
    · rw [decide_eq_false hi, cond_false]
theorem laws_FnKidPut_l0 (l m : List Kid) (id by_ : Int) (K : Unit → Option Bool) (hl : (l.length : Int) ≤ 1000) (hm : (m.length : Int) ≤ 1000) (hb : -1000 ≤ kidN l id + by_ ∧ kidN l id + by_ ≤ 9223372036854775807) (hlaw : ∀ x, kidN m x = if x = id then maxZ (kidN l id + by_) else kidN l x) : ∀ (k i : Nat), i ≤ 8 → 9 ≤ i + k → laws_FnKidPut.l0 (l, id, by_) m K k i = K () := by
  intro k
  induction k with
  | zero => intro i h h'; omega
  | succ k ih =>
    intro i h h'
    have vb : ∀ q : List Kid, (q.length : Int) ≤ 1000 → View_b (View.mk (Query.mk 0 [] 0 false 0 [] false 0 0) [] q) := fun q hq => ⟨⟨by simp [CondS_b], by simp [IntS_b]⟩, by simp [RowS_b], by unfold KidS_b; dsimp only; omega⟩
    rw [laws_FnKidPut.l0]
    by_cases hi : (i : Int) < 8
    · rw [decide_eq_true hi, cond_true, impl_KidsIn_eq _ _ (vb l hl), Option.bind_some, impl_KidsIn_eq _ _ (vb m hm)]
      simp only [joinK, Option.bind_some, laws_max0_eq]
      rw [w64_succ (by omega), ih (i + 1) (by omega) (by omega)]
      by_cases e : (i : Int) = id
      · rw [decide_eq_true e, cond_true, hlaw, if_pos e, e, w64_id (by omega)]
        simp
      · rw [decide_eq_false e, cond_false, hlaw, if_neg e]
        simp
    · rw [decide_eq_false hi, cond_false]
theorem kidN_le {l : List Kid} {B : Int} (h : ∀ k ∈ l, 0 ≤ k.N ∧ k.N ≤ B) (hB : 0 ≤ B) (id : Int) : 0 ≤ kidN l id ∧ kidN l id ≤ B := by
  induction l with
  | nil => exact ⟨Int.le_refl _, hB⟩
  | cons k l ih =>
    rw [kidN]
    split
    · exact h k (List.mem_cons_self ..)
    · exact ih fun x hx => h x (List.mem_cons_of_mem _ hx)
theorem laws_FnKidPut_pure (a0 : List Int) (b0 : IntS_b a0) (r0 : ∀ y ∈ a0, 0 ≤ y ∧ y ≤ 255) : laws_FnKidPut.f a0 = some true := by
  unfold laws_FnKidPut.f
  rw [laws_big_eq, Option.bind_some]
  by_cases hb : 1048576 < (a0.length : Int)
  · rw [decide_eq_true hb]; rfl
  rw [decide_eq_false hb, cond_false]
  obtain ⟨l, id, by_, e, ⟨i1, i2, i3⟩, d1, d2, d3, d4⟩ := spec_DrawKidPut_ok a0 (by omega)
  rw [e, Option.bind_some]
  dsimp only
  have hl := kidPut_len l id by_
  rw [impl_KidPut_eq _ _ _ (by omega), Option.bind_some, spec_KidPut_eq _ _ _ (by omega), Option.bind_some, decide_eq_false (fun h => h rfl), cond_false]
  simp only [joinK]
  have hm := i1.mem
  have hN := kidN_le (l := l) (B := 12) (fun k hk => ⟨by have := (hm k hk).2.1; omega, by have := i3 k hk; omega⟩) (by omega) id
  obtain ⟨w1, w2⟩ := kidPut_law (id := id) (by_ := by_) (by omega) i1 (by omega) (fun y hy => by have := i3 y hy; omega)
  refine (laws_FnKidPut_l0 l (kidPutF l id by_) id by_ _ (by omega) (by omega) (by omega) w2 _ 0 (by omega) (by omega)).trans ?_
  exact laws_FnKidPut_l1 w1 (by omega) _ 1 (by omega) (by omega) (by rw [lenI_eq]; omega)

end Go.Proofs.Yteihbneplbpklaa.L
