/- What the pure functions give. -/
import Derived.Test.YtcpekllcbimpmaaDoorPv0
import Derived.Test.YtcpekllcbimpmaaDoorFxQueryReadU
namespace Go.Proofs.YtcpekllcbimpmaaDoor.L
open Go
set_option linter.unusedVariables false
set_option linter.unusedSimpArgs false
def sz_IntS (l : List Int) : Int := l.length
def IntS_b (l : List Int) : Prop := l.length ≤ 9223372036854775807
theorem sz_IntS_0 (l : List Int) : 0 ≤ sz_IntS l := by unfold sz_IntS; omega
def IntS_r (l : List Int) : Prop := ∀ x ∈ l, (-9223372036854775808 ≤ x ∧ x ≤ 9223372036854775807)
theorem laws_toIntS_eq (a : List Int) (h : sz_IntS a ≤ 1048576) : laws_toIntS.f a = some a := by
  unfold laws_toIntS.f
  unfold sz_IntS at h
  rw [lenI_eq, mkO_ok (by omega), Option.bind_some]
  refine loop_fill (f := laws_toIntS.l0 a) (l := a) some (fun k i s x y hx hy => ?_) (fun k s i hi => ?_) _ 0 _ (by omega) (by omega) (by rw [List.length_replicate]; omega) (by simp)
  · have hi := at_lt hx
    rw [laws_toIntS.l0, lenI_eq, decide_eq_true (by omega), cond_true, getO_nat, hx, Option.bind_some, getO_nat, hy, Option.bind_some, Option.bind_some, setI_nat, w64_succ (by omega)]
  · rw [laws_toIntS.l0, lenI_eq, decide_eq_false (by omega), cond_false]
def sz_Schema (x : Schema) : Int := sz_IntS x.Cols
def Schema_b (x : Schema) : Prop := IntS_b x.Cols
theorem sz_Schema_0 (x : Schema) : 0 ≤ sz_Schema x := by unfold sz_Schema; exact by have := sz_IntS_0 x.Cols;  omega
def Schema_r (x : Schema) : Prop := IntS_r x.Cols
theorem laws_toSchema_eq (a : Schema) (h : sz_Schema a ≤ 1048576) : laws_toSchema.f a = some a := by
  unfold sz_Schema at h
  have p_Cols := sz_IntS_0 a.Cols
  unfold laws_toSchema.f
  rw [laws_toIntS_eq _ (by omega), Option.bind_some]
theorem laws_eqIntS_eq (a b : List Int) (ha : IntS_b a) (hb : IntS_b b) : laws_eqIntS.f a b = some (decide (a = b)) := by
  unfold IntS_b at ha hb
  unfold laws_eqIntS.f
  by_cases hl : a.length = b.length
  · rw [decide_eq_false (by simp only [lenI_eq]; omega), cond_false]
    refine (loop_eq (f := laws_eqIntS.l0 a b) hl (some false) (some true) (fun k i x y hx hy => ?_) (fun k i hi => ?_) _ (by simp only [lenI_eq]; omega)).trans ?_
    · have hi := at_lt hx
      rw [laws_eqIntS.l0, lenI_eq, decide_eq_true (by omega), cond_true, getO_nat, hx, Option.bind_some, getO_nat, hy, Option.bind_some, w64_succ (by omega)]
      by_cases c : x = y
      · simp [c]
      · simp [c]
    · rw [laws_eqIntS.l0, lenI_eq, decide_eq_false (by omega), cond_false]
    · cases decide (a = b) <;> rfl
  · rw [decide_eq_true (by simp only [lenI_eq]; omega), cond_true, decide_eq_false (fun e => hl (by rw [e]))]
theorem laws_eqSchema_eq (a b : Schema) (ha : Schema_b a) (hb : Schema_b b) : laws_eqSchema.f a b = some (decide (a = b)) := by
  have ha_Cols := ha
  have hb_Cols := hb
  unfold laws_eqSchema.f
  rw [laws_eqIntS_eq _ _ ha_Cols hb_Cols, Option.bind_some]
  by_cases c_Cols : a.Cols = b.Cols
  case neg => rw [decide_eq_false c_Cols, show bo3 false false true = true from rfl, cond_true, decide_eq_false (fun e => c_Cols (by rw [e]))]
  rw [decide_eq_true c_Cols, show bo3 true false true = false from rfl, cond_false]
  rw [decide_eq_true (by cases a; cases b; simp_all)]
def Cond_r (x : Cond) : Prop := (-9223372036854775808 ≤ x.Col ∧ x.Col ≤ 9223372036854775807) ∧ (-9223372036854775808 ≤ x.Op ∧ x.Op ≤ 9223372036854775807) ∧ (-9223372036854775808 ≤ x.V ∧ x.V ≤ 9223372036854775807)
theorem laws_eqCond_eq (a b : Cond) : laws_eqCond.f a b = some (decide (a = b)) := by
  unfold laws_eqCond.f
  by_cases c_Col : a.Col = b.Col
  case neg => rw [decide_eq_true c_Col, cond_true, decide_eq_false (fun e => c_Col (by rw [e]))]
  rw [decide_eq_false (fun e => e c_Col), cond_false]
  by_cases c_Op : a.Op = b.Op
  case neg => rw [decide_eq_true c_Op, cond_true, decide_eq_false (fun e => c_Op (by rw [e]))]
  rw [decide_eq_false (fun e => e c_Op), cond_false]
  by_cases c_V : a.V = b.V
  case neg => rw [decide_eq_true c_V, cond_true, decide_eq_false (fun e => c_V (by rw [e]))]
  rw [decide_eq_false (fun e => e c_V), cond_false]
  rw [decide_eq_true (by cases a; cases b; simp_all)]
def sz_CondS (l : List Cond) : Int := l.length
def CondS_b (l : List Cond) : Prop := l.length ≤ 9223372036854775807
theorem sz_CondS_0 (l : List Cond) : 0 ≤ sz_CondS l := by unfold sz_CondS; omega
def CondS_r (l : List Cond) : Prop := ∀ x ∈ l, Cond_r x
theorem laws_eqCondS_eq (a b : List Cond) (ha : CondS_b a) (hb : CondS_b b) : laws_eqCondS.f a b = some (decide (a = b)) := by
  unfold CondS_b at ha hb
  unfold laws_eqCondS.f
  by_cases hl : a.length = b.length
  · rw [decide_eq_false (by simp only [lenI_eq]; omega), cond_false]
    refine (loop_eq (f := laws_eqCondS.l0 a b) hl (some false) (some true) (fun k i x y hx hy => ?_) (fun k i hi => ?_) _ (by simp only [lenI_eq]; omega)).trans ?_
    · have hi := at_lt hx
      rw [laws_eqCondS.l0, lenI_eq, decide_eq_true (by omega), cond_true, getO_nat, hx, Option.bind_some, getO_nat, hy, Option.bind_some, laws_eqCond_eq x y, Option.bind_some, bo3_not, w64_succ (by omega)]
      by_cases c : x = y
      · simp [c]
      · simp [c]
    · rw [laws_eqCondS.l0, lenI_eq, decide_eq_false (by omega), cond_false]
    · cases decide (a = b) <;> rfl
  · rw [decide_eq_true (by simp only [lenI_eq]; omega), cond_true, decide_eq_false (fun e => hl (by rw [e]))]
def sz_Query (x : Query) : Int := sz_CondS x.Where + sz_IntS x.Show
def Query_b (x : Query) : Prop := CondS_b x.Where ∧ IntS_b x.Show
theorem sz_Query_0 (x : Query) : 0 ≤ sz_Query x := by unfold sz_Query; exact by have := sz_CondS_0 x.Where; have := sz_IntS_0 x.Show;  omega
def Query_r (x : Query) : Prop := (-9223372036854775808 ≤ x.Table ∧ x.Table ≤ 9223372036854775807) ∧ CondS_r x.Where ∧ (-9223372036854775808 ≤ x.Order ∧ x.Order ≤ 9223372036854775807) ∧ (-9223372036854775808 ≤ x.First ∧ x.First ≤ 9223372036854775807) ∧ IntS_r x.Show ∧ (-9223372036854775808 ≤ x.KidTable ∧ x.KidTable ≤ 9223372036854775807) ∧ (-9223372036854775808 ≤ x.KidCol ∧ x.KidCol ≤ 9223372036854775807)
theorem laws_eqQuery_eq (a b : Query) (ha : Query_b a) (hb : Query_b b) : laws_eqQuery.f a b = some (decide (a = b)) := by
  obtain ⟨ha_Where, ha_Show⟩ := ha
  obtain ⟨hb_Where, hb_Show⟩ := hb
  unfold laws_eqQuery.f
  by_cases c_Table : a.Table = b.Table
  case neg => rw [decide_eq_true c_Table, cond_true, decide_eq_false (fun e => c_Table (by rw [e]))]
  rw [decide_eq_false (fun e => e c_Table), cond_false]
  rw [laws_eqCondS_eq _ _ ha_Where hb_Where, Option.bind_some]
  by_cases c_Where : a.Where = b.Where
  case neg => rw [decide_eq_false c_Where, show bo3 false false true = true from rfl, cond_true, decide_eq_false (fun e => c_Where (by rw [e]))]
  rw [decide_eq_true c_Where, show bo3 true false true = false from rfl, cond_false]
  by_cases c_Order : a.Order = b.Order
  case neg => rw [decide_eq_true c_Order, cond_true, decide_eq_false (fun e => c_Order (by rw [e]))]
  rw [decide_eq_false (fun e => e c_Order), cond_false]
  by_cases c_Down : a.Down = b.Down
  case neg => rw [show bo3 a.Down (bo3 b.Down false true) b.Down = true from by revert c_Down; cases a.Down <;> cases b.Down <;> simp [bo3], cond_true, decide_eq_false (fun e => c_Down (by rw [e]))]
  rw [show bo3 a.Down (bo3 b.Down false true) b.Down = false from by rw [c_Down]; cases b.Down <;> rfl, cond_false]
  by_cases c_First : a.First = b.First
  case neg => rw [decide_eq_true c_First, cond_true, decide_eq_false (fun e => c_First (by rw [e]))]
  rw [decide_eq_false (fun e => e c_First), cond_false]
  rw [laws_eqIntS_eq _ _ ha_Show hb_Show, Option.bind_some]
  by_cases c_Show : a.Show = b.Show
  case neg => rw [decide_eq_false c_Show, show bo3 false false true = true from rfl, cond_true, decide_eq_false (fun e => c_Show (by rw [e]))]
  rw [decide_eq_true c_Show, show bo3 true false true = false from rfl, cond_false]
  by_cases c_Kids : a.Kids = b.Kids
  case neg => rw [show bo3 a.Kids (bo3 b.Kids false true) b.Kids = true from by revert c_Kids; cases a.Kids <;> cases b.Kids <;> simp [bo3], cond_true, decide_eq_false (fun e => c_Kids (by rw [e]))]
  rw [show bo3 a.Kids (bo3 b.Kids false true) b.Kids = false from by rw [c_Kids]; cases b.Kids <;> rfl, cond_false]
  by_cases c_KidTable : a.KidTable = b.KidTable
  case neg => rw [decide_eq_true c_KidTable, cond_true, decide_eq_false (fun e => c_KidTable (by rw [e]))]
  rw [decide_eq_false (fun e => e c_KidTable), cond_false]
  by_cases c_KidCol : a.KidCol = b.KidCol
  case neg => rw [decide_eq_true c_KidCol, cond_true, decide_eq_false (fun e => c_KidCol (by rw [e]))]
  rw [decide_eq_false (fun e => e c_KidCol), cond_false]
  rw [decide_eq_true (by cases a; cases b; simp_all)]
theorem spec_l10Signs_eq : spec_l10Signs.f = some [ByteArray.mk #[], ByteArray.mk #[61], ByteArray.mk #[60], ByteArray.mk #[62], ByteArray.mk #[33]] := rfl

def bl (l : List UInt8) : ByteArray := ⟨l.toArray⟩
theorem bl_sa (a b : List UInt8) : Ls.sa (bl a) (bl b) = bl (a ++ b) := by
  show (bl a ++ bl b) = _
  apply ByteArray.ext
  simp [bl]
theorem bl_size (a : List UInt8) : (bl a).size = a.length := rfl
theorem bsO_one (n : Nat) (h : n < 256) : bsO [(n : Int)] = bl [UInt8.ofNat n] := rfl
def digs (u : Nat) : List UInt8 := if u = 0 then [] else Lib.decDigits u
theorem digs_step {u : Nat} (h : 0 < u) : digs u = digs (u / 10) ++ [UInt8.ofNat (48 + u % 10)] := by
  unfold digs
  rw [if_neg (by omega), Lib.decDigits]
  split
  · rename_i c
    rw [if_pos (by omega)]
    have : u % 10 = u := by omega
    rw [this]; rfl
  · rw [if_neg (by omega)]
theorem wrap8 {n : Nat} (h : n < 256) : IntKind.wrap .u8 (n : Int) = n := by simp [IntKind.wrap, IntKind.signed, IntKind.bits]; omega
theorem smO_ok {x y : ByteArray} (h : (x.size + y.size : Int) ≤ 9223372036854775807) : smO x y = some () := by unfold smO; rw [if_pos h]
theorem decDigits_len : ∀ (k u : Nat), u < 10 ^ k → (digs u).length ≤ k := by
  intro k
  induction k with
  | zero => intro u h; have : u = 0 := by simpa using h
            subst this; simp [digs]
  | succ k ih =>
    intro u h
    by_cases h0 : u = 0
    · subst h0; simp [digs]
    · rw [digs_step (by omega)]
      have := ih (u / 10) (by rw [Nat.pow_succ] at h; omega)
      simp only [List.length_append, List.length_cons, List.length_nil]; omega

/-- A text's words: what stands between its spaces. -/
def words : List UInt8 → List (List UInt8)
  | [] => [[]]
  | c :: r => if c = 32 then [] :: words r else match words r with
    | [] => [[c]]
    | w :: ws => (c :: w) :: ws
theorem words_ne : ∀ s, words s ≠ []
  | [] => by simp [words]
  | c :: r => by
    unfold words
    split
    · simp
    · split <;> simp
theorem words_free : ∀ {w : List UInt8}, (32 : UInt8) ∉ w → words w = [w]
  | [], _ => rfl
  | c :: w, h => by
    have h1 : c ≠ 32 := fun e => h (by simp [e])
    rw [words, if_neg h1, words_free (w := w) (fun e => h (by simp [e]))]
theorem words_app : ∀ {w : List UInt8} (r : List UInt8), (32 : UInt8) ∉ w → words (w ++ 32 :: r) = w :: words r
  | [], r, _ => by simp [words]
  | c :: w, r, h => by
    have h1 : c ≠ 32 := fun e => h (by simp [e])
    rw [List.cons_append, words, if_neg h1, words_app r (w := w) (fun e => h (by simp [e]))]
theorem words_jt : ∀ (ws : List (List UInt8)) (w : List UInt8), (32 : UInt8) ∉ w → (∀ x ∈ ws, (32 : UInt8) ∉ x) → words (w ++ Lib.joinTail [32] ws) = w :: ws
  | [], w, h, _ => by simp [Lib.joinTail, words_free h]
  | x :: ws, w, h, hs => by
    have e : Lib.joinTail [32] (x :: ws) = 32 :: (x ++ Lib.joinTail [32] ws) := by simp [Lib.joinTail]
    rw [e, words_app _ h, words_jt ws x (hs x (by simp)) (fun y hy => hs y (by simp [hy]))]
theorem words_len : ∀ s : List UInt8, (words s).length ≤ s.length + 1 ∧ ∀ w ∈ words s, w.length ≤ s.length
  | [] => by simp [words]
  | c :: r => by
    obtain ⟨h1, h2⟩ := words_len r
    unfold words
    split
    · refine ⟨by simp only [List.length_cons]; omega, fun w hw => ?_⟩
      rcases List.mem_cons.1 hw with rfl | hw
      · simp
      · have := h2 w hw; simp only [List.length_cons]; omega
    · split
      · refine ⟨by simp, fun w hw => ?_⟩
        simp only [List.mem_cons, List.not_mem_nil, or_false] at hw
        subst hw; simp
      · rename_i w0 ws e
        rw [e] at h1 h2
        refine ⟨by simp only [List.length_cons] at *; omega, fun w hw => ?_⟩
        rcases List.mem_cons.1 hw with rfl | hw
        · have := h2 w0 (by simp); simp only [List.length_cons]; omega
        · have := h2 w (by simp [hw]); simp only [List.length_cons]; omega
theorem occ_one {s : List UInt8} {j : Nat} : Lib.occAt s [32] j = true ↔ s[j]? = some 32 := by
  unfold Lib.occAt
  constructor
  · intro h
    cases hd : s.drop j with
    | nil => rw [hd] at h; simp at h
    | cons a l =>
      rw [hd] at h
      have ha : (32 : UInt8) = a := by simpa using h
      have := congrArg (fun l => l[0]?) hd
      simp only [List.getElem?_drop, Nat.add_zero, List.getElem?_cons_zero] at this
      rw [this, ha]
  · intro h
    obtain ⟨hj, e⟩ := List.getElem?_eq_some_iff.1 h
    rw [List.drop_eq_getElem_cons hj, e]
    simp
theorem splitK_words : ∀ (n : Nat) (s : List UInt8) (k : Nat), s.length ≤ n → Lib.count s [32] ≤ k → Lib.splitK [32] 0 k s = words s
  | n, s, k, hn, hk => by
    rcases Lib.index_spec s [32] with ⟨h, hf⟩ | ⟨i, h, hi, ho, hf⟩
    · have h0 : (32 : UInt8) ∉ s := by
        intro hm
        obtain ⟨j, hj⟩ := List.mem_iff_getElem?.1 hm
        have := occ_one.2 hj
        rw [hf j (by have := at_lt hj; omega)] at this
        cases this
      rw [words_free h0]
      cases k with
      | zero => rfl
      | succ k => unfold Lib.splitK; rw [if_pos (beq_iff_eq.2 h)]
    · have h1 := occ_one.1 ho
      obtain ⟨hil, he⟩ := List.getElem?_eq_some_iff.1 h1
      have hc := Lib.count_hit (by simp) h
      rw [show i + [(32 : UInt8)].length = i + 1 from rfl] at hc
      have hs : s = s.take i ++ 32 :: s.drop (i + 1) := by
        conv => lhs; rw [← List.take_append_drop i s, List.drop_eq_getElem_cons hil, he]
      have h0 : (32 : UInt8) ∉ s.take i := by
        intro hm
        obtain ⟨j, hj⟩ := List.mem_iff_getElem?.1 hm
        have hjl := at_lt hj
        rw [List.length_take] at hjl
        rw [List.getElem?_take_of_lt (by omega)] at hj
        have h2 := occ_one.2 hj
        rw [hf j (by omega)] at h2
        cases h2
      cases k with
      | zero => omega
      | succ k =>
        have hm : ¬ (Lib.index s [32] == -1) = true := fun e => by have := beq_iff_eq.1 e; omega
        have e : (Lib.index s [32]).toNat = i := by omega
        unfold Lib.splitK
        rw [if_neg hm, e, Nat.add_zero, show i + [(32 : UInt8)].length = i + 1 from rfl]
        cases n with
        | zero => omega
        | succ n =>
          rw [splitK_words n (s.drop (i + 1)) k (by rw [List.length_drop]; omega) (by omega)]
          conv => rhs; rw [hs, words_app _ h0]
theorem bl_inj {a b : List UInt8} : bl a = bl b ↔ a = b := by
  constructor
  · intro h
    have := congrArg (fun x : ByteArray => x.data.toList) h
    simpa [bl] using this
  · exact congrArg _
theorem bl_toList (x : ByteArray) : bl x.data.toList = x := by
  cases x; simp [bl]
theorem data_bl (l : List UInt8) : (bl l).data.toList = l := by simp [bl]
theorem map_data {l : List ByteArray} {m : List (List UInt8)} (h : l.map (·.data.toList) = m) : l = m.map bl := by
  subst h
  rw [List.map_map]
  conv => lhs; rw [← List.map_id l]
  apply List.map_congr_left
  intro x _
  exact (bl_toList x).symm
theorem splitO_eq (t : List UInt8) (h : t.length < 4294967281) : splitO (bl t) (ByteArray.mk #[32]) = some ((words t).map bl) := by
  unfold splitO
  rw [if_pos ⟨rfl, h⟩]
  congr 1
  apply map_data
  rw [Lib.splitB_data]
  show Lib.splitK [32] 0 (Lib.count (bl t).data.toList [32]) (bl t).data.toList = words t
  rw [data_bl]
  exact splitK_words _ _ _ (Nat.le_refl _) (Nat.le_refl _)

theorem bl_ex (x : ByteArray) : ∃ l, x = bl l := ⟨_, (bl_toList x).symm⟩
theorem str_beq (a b : List UInt8) : ((bl a).toList == (bl b).toList) = decide (a = b) := by
  have e : ∀ z : ByteArray, z.toList = z.data.toList := fun z => ByteArray.toList_eq z
  rw [e, e, data_bl, data_bl]
  by_cases c : a = b
  · subst c; simp
  · rw [decide_eq_false c]; simpa using c
theorem str_eq (a b : List UInt8) : Ls.sc .eql (bl a) (bl b) = decide (a = b) := str_beq a b
theorem str_ne (a b : List UInt8) : Ls.sc .neq (bl a) (bl b) = !decide (a = b) := by
  show (!((bl a).toList == (bl b).toList)) = _
  rw [str_beq]
theorem sl_bl (a : List UInt8) : Ls.sl (bl a) = (a.length : Int) := rfl
theorem sx_bl {a : List UInt8} {i : Nat} {b : UInt8} (h : a[i]? = some b) : Ls.sx (bl a) (i : Int) = (b.toNat : Int) := by
  show (((bl a).data.toList.getD ((i : Nat) : Int).toNat 0).toNat : Int) = _
  rw [data_bl, Int.toNat_natCast, List.getD_eq_getElem?_getD, h]; rfl
theorem inS_bl {a : List UInt8} {i : Nat} (h : i < a.length) : inS (bl a) (i : Int) = some () := by
  unfold inS
  rw [if_pos ⟨by omega, by rw [bl_size]; omega⟩]
theorem cutS_bl {a : List UInt8} {lo hi : Nat} (h : lo ≤ hi) (h2 : hi ≤ a.length) : cutS (bl a) (lo : Int) (hi : Int) = some () := by
  unfold cutS
  rw [if_pos ⟨by omega, by omega, by rw [bl_size]; omega⟩]
theorem ss_bl (a : List UInt8) (lo hi : Nat) : Ls.ss (bl a) (lo : Int) (hi : Int) = bl ((a.take hi).drop lo) := by
  show (bl a).extract ((lo : Nat) : Int).toNat ((hi : Nat) : Int).toNat = _
  rw [Int.toNat_natCast, Int.toNat_natCast]
  apply ByteArray.ext
  simp [bl, List.extract_eq_take_drop, List.drop_take]
theorem bd {α β : Type} (a : α) (f : α → Option β) : (some a).bind f = f a := rfl

theorem l10Words_l0 (t : List UInt8) (ht : t.length ≤ 1048576) : ∀ (k i fr : Nat) (acc : List (List UInt8)), fr ≤ i → i ≤ t.length → (32 : UInt8) ∉ (t.take i).drop fr → t.length + 2 ≤ i + k → acc.length ≤ i → spec_l10Words.l0 (bl t) k (acc.map bl) (fr : Int) (i : Int) = some ((acc ++ words (t.drop fr)).map bl) := by
  intro k
  induction k with
  | zero => intro i fr acc h1 h2 _ h3; omega
  | succ k ih =>
    intro i fr acc h1 h2 hf h3 ha
    rw [spec_l10Words.l0, sl_bl, decide_eq_true (by omega), cond_true]
    have hlen : acc.length ≤ 1048576 := by omega
    by_cases hi : i = t.length
    · subst hi
      have e : (t.take t.length).drop fr = t.drop fr := by rw [List.take_of_length_le (Nat.le_refl _)]
      rw [decide_eq_true rfl, show bo3 true false true = false from rfl, gd_false, bd, show ∀ x, bo3 true true x = true from fun _ => rfl, cond_true, cutS_bl h1 (Nat.le_refl _), bd, ss_bl, bd, appO_ok (by simp only [List.length_map, List.length_cons, List.length_nil]; omega), bd, w64_succ (by omega)]
      rw [e] at hf ⊢
      rw [words_free hf]
      cases k with
      | zero => omega
      | succ k =>
        rw [spec_l10Words.l0, sl_bl, decide_eq_false (by omega), cond_false, List.map_append]
        rfl
    · have hlt : i < t.length := by omega
      have hx := List.getElem?_eq_getElem hlt
      rw [decide_eq_false (by omega), show bo3 false false true = true from rfl, gd_true, inS_bl hlt, bd, sx_bl hx, show ∀ x, bo3 false true x = x from fun _ => rfl]
      by_cases hc : t[i] = 32
      · rw [decide_eq_true (by rw [hc]; rfl), cond_true, cutS_bl h1 (by omega), bd, ss_bl, bd, appO_ok (by simp only [List.length_map, List.length_cons, List.length_nil]; omega), bd, w64_succ (by omega)]
        have e : acc.map bl ++ [bl ((t.take i).drop fr)] = (acc ++ [(t.take i).drop fr]).map bl := by rw [List.map_append]; rfl
        rw [e, ih (i + 1) (i + 1) _ (Nat.le_refl _) (by omega) (by rw [List.drop_eq_nil_of_le (by rw [List.length_take]; omega)]; simp) (by omega) (by rw [List.length_append, List.length_singleton]; omega)]
        have e2 : t.drop fr = (t.take i).drop fr ++ 32 :: t.drop (i + 1) := by
          have : t.drop fr = (t.take i ++ t.drop i).drop fr := by rw [List.take_append_drop]
          rw [this, List.drop_append_of_le_length (by rw [List.length_take]; omega), List.drop_eq_getElem_cons hlt, hc]
        rw [e2, words_app _ hf, List.append_assoc]
        rfl
      · have hc' : ¬ ((t[i].toNat : Int) = 32) := by
          intro h
          apply hc
          apply UInt8.toNat_inj.1
          have e : (32 : UInt8).toNat = 32 := rfl
          omega
        rw [decide_eq_false hc', cond_false, w64_succ (by omega), ih (i + 1) fr acc (by omega) (by omega) ?_ (by omega) (by omega)]
        rw [List.take_add_one, hx, List.drop_append_of_le_length (by rw [List.length_take]; omega)]
        intro hm
        rw [List.mem_append] at hm
        rcases hm with hm | hm
        · exact hf hm
        · simp only [Option.toList_some, List.mem_cons, List.not_mem_nil, or_false] at hm
          exact hc hm.symm
theorem spec_l10Words_eq (t : List UInt8) (ht : t.length ≤ 1048576) : spec_l10Words.f (bl t) = some ((words t).map bl) := by
  unfold spec_l10Words.f
  rw [sl_bl]
  refine (l10Words_l0 t ht _ 0 0 [] (by omega) (by omega) (by simp) (by omega) (by simp)).trans ?_
  rw [List.drop_zero, List.nil_append]

theorem l2Digits_l0 (K : Bool → ByteArray → Option ByteArray) (b : Bool) : ∀ (k u : Nat) (neg : Bool) (l : List UInt8), u < 10 ^ k → u ≤ 9223372036854775808 → l.length + k ≤ 1000 → spec_l2Digits.l0 K (k + 1) (if neg = true then -(u : Int) else u) b (bl l) = K b (bl (digs u ++ l)) := by
  intro k
  induction k with
  | zero =>
    intro u neg l h _ _
    have : u = 0 := by simpa using h
    subst this
    rw [spec_l2Digits.l0]
    cases neg <;> simp [digs]
  | succ k ih =>
    intro u neg l h hu hl
    rw [spec_l2Digits.l0]
    by_cases h0 : u = 0
    · subst h0
      cases neg <;> simp [digs]
    · have hz : (if neg = true then -(u : Int) else u) ≠ 0 := by cases neg <;> simp <;> omega
      have hd : u / 10 < 10 ^ k := by rw [Nat.pow_succ] at h; omega
      have hdiv : w64 (Int.tdiv (if neg = true then -(u : Int) else u) 10) = (if neg = true then -((u / 10 : Nat) : Int) else ((u / 10 : Nat) : Int)) := by
        cases neg with
        | true => simp only [if_true]; rw [Int.neg_tdiv, Int.tdiv_eq_ediv_of_nonneg (by omega), w64_id (by omega)]; omega
        | false => simp only [if_false, Bool.false_eq_true]; rw [Int.tdiv_eq_ediv_of_nonneg (by omega), w64_id (by omega)]; omega
      have hm : Int.tmod (if neg = true then -(u : Int) else u) 10 = (if neg = true then -((u % 10 : Nat) : Int) else ((u % 10 : Nat) : Int)) := by
        cases neg with
        | true => simp only [if_true]; rw [Int.neg_tmod, Int.tmod_eq_emod_of_nonneg (by omega)]; omega
        | false => simp only [if_false, Bool.false_eq_true]; rw [Int.tmod_eq_emod_of_nonneg (by omega)]; omega
      rw [decide_eq_true hz, cond_true, hdiv, hm, digs_step (by omega)]
      have hsm : smO (bl [UInt8.ofNat (48 + u % 10)]) (bl l) = some () := smO_ok (by rw [bl_size, bl_size]; simp only [List.length_cons, List.length_nil]; omega)
      have fin : spec_l2Digits.l0 K (k + 1) (if neg = true then -((u / 10 : Nat) : Int) else ((u / 10 : Nat) : Int)) b (Ls.sa (bl [UInt8.ofNat (48 + u % 10)]) (bl l)) = K b (bl (digs (u / 10) ++ [UInt8.ofNat (48 + u % 10)] ++ l)) := by
        rw [bl_sa, ih (u / 10) neg _ hd (by omega) (by simp only [List.length_append, List.length_cons, List.length_nil]; omega)]
        simp
      by_cases hneg : (if neg = true then -((u % 10 : Nat) : Int) else ((u % 10 : Nat) : Int)) < 0
      · have hn : neg = true := by cases neg <;> simp_all <;> omega
        subst hn
        simp only [if_true] at hneg fin ⊢
        rw [decide_eq_true hneg, cond_true, w64_id (x := 0 - -((u % 10 : Nat) : Int)) (by omega), w64_id (by omega), show (48 : Int) + (0 - -((u % 10 : Nat) : Int)) = ((48 + u % 10 : Nat) : Int) by omega, wrap8 (by omega), Option.bind_some, bsO_one _ (by omega), Option.bind_some, hsm, Option.bind_some, fin]
      · have hv : (if neg = true then -((u % 10 : Nat) : Int) else ((u % 10 : Nat) : Int)) = ((u % 10 : Nat) : Int) := by cases neg <;> simp at hneg ⊢ <;> omega
        rw [decide_eq_false hneg, cond_false, hv, w64_id (by omega), show (48 : Int) + ((u % 10 : Nat) : Int) = ((48 + u % 10 : Nat) : Int) by omega, wrap8 (by omega), Option.bind_some, bsO_one _ (by omega), Option.bind_some, hsm, Option.bind_some, fin]
theorem spec_l2Digits_eq (n : Int) (h : -9223372036854775808 ≤ n ∧ n ≤ 9223372036854775807) : spec_l2Digits.f n = some (bl (Lib.itoa n)) := by
  unfold spec_l2Digits.f
  by_cases h0 : n = 0
  · subst h0
    rw [decide_eq_true rfl, cond_true, show Lib.itoa 0 = [48] by rw [Lib.itoa, if_neg (by omega), Lib.decDigits, dif_pos (by decide)]; rfl]
    rfl
  · rw [decide_eq_false h0, cond_false, joinK_eq]
    have key := l2Digits_l0 (fun (y2 : Bool) (y3 : ByteArray) =>
      bif y2 then (
      (smO (ByteArray.mk #[45]) y3).bind fun u20 =>
      some (Ls.sa (ByteArray.mk #[45]) y3))
      else (
      some y3)) (decide (n < 0)) 29 n.natAbs (decide (n < 0)) [] (by omega) (by omega) (by simp)
    have hn : (if decide (n < 0) = true then -((n.natAbs : Nat) : Int) else (n.natAbs : Nat)) = n := by
      by_cases c : n < 0
      · rw [if_pos (by simpa using c)]; omega
      · rw [if_neg (by simpa using c)]; omega
    rw [hn] at key
    have hlen := decDigits_len 29 n.natAbs (by omega)
    refine key.trans ?_
    rw [List.append_nil]
    have hdg : digs n.natAbs = Lib.decDigits n.natAbs := by unfold digs; rw [if_neg (by omega)]
    by_cases c : n < 0
    · rw [decide_eq_true c, cond_true, show ByteArray.mk #[45] = bl [45] from rfl, smO_ok (by rw [bl_size, bl_size]; simp only [List.length_cons, List.length_nil]; omega), Option.bind_some, bl_sa, hdg]
      simp [Lib.itoa, c]
    · rw [decide_eq_false c, cond_false, hdg]
      simp [Lib.itoa, c]
      try congr 2; omega

/-- The byte at a place; 0 behind the end. -/
def pk (s : List UInt8) (i : Nat) : Int := match s[i]? with
  | some c => (c.toNat : Int)
  | none => 0
theorem pk_range (s : List UInt8) (i : Nat) : 0 ≤ pk s i ∧ pk s i ≤ 255 := by
  unfold pk
  split
  · rename_i c _; have := UInt8.toNat_lt c; omega
  · omega
theorem pk_in {s : List UInt8} {i : Nat} (h : pk s i ≠ 0) : i < s.length := by
  unfold pk at h
  split at h
  · rename_i c hc; exact at_lt hc
  · exact absurd rfl h
theorem spec_l2Peek_eq (s : List UInt8) (i : Nat) (ok : Bool) (left : Int) : spec_l2Peek.f ⟨bl s, (i : Int), ok, left⟩ = some (pk s i) := by
  unfold spec_l2Peek.f pk
  dsimp only
  rw [sl_bl]
  by_cases h : i < s.length
  · have hx := List.getElem?_eq_getElem h
    rw [decide_eq_false (by omega), cond_false, inS_bl h, bd, sx_bl hx, hx]
  · rw [decide_eq_true (by omega), cond_true, List.getElem?_eq_none (by omega)]

theorem itoa_len {n : Int} {k : Nat} (hk : 0 < k) (h : n.natAbs < 10 ^ k) : (Lib.itoa n).length ≤ k + 1 := by
  have h1 := decDigits_len k n.natAbs h
  unfold digs at h1
  unfold Lib.itoa
  by_cases h0 : n.natAbs = 0
  · have : n = 0 := by omega
    subst this
    rw [if_neg (by omega), show (0 : Int).toNat = 0 from rfl, Lib.decDigits, dif_pos (by decide)]
    simp
  · rw [if_neg h0] at h1
    split
    · simp only [List.length_cons]; omega
    · rw [show n.toNat = n.natAbs by omega]; omega
theorem itoa_len11 {n : Int} (h : -1000000000 ≤ n ∧ n ≤ 1000000000) : (Lib.itoa n).length ≤ 11 := itoa_len (k := 10) (by decide) (by omega)
theorem addO_bl {a b : List UInt8} (h : a.length + b.length ≤ 4611686018427387904) : addO (bl a) (bl b) = some (bl (a ++ b)) := by
  unfold addO
  rw [if_pos (by rw [bl_size, bl_size]; omega)]
  exact congrArg some (bl_sa a b)
theorem dec_mem : ∀ (u : Nat), ∀ c ∈ Lib.decDigits u, 48 ≤ c.toNat ∧ c.toNat ≤ 57 := by
  intro u
  induction u using Nat.strongRecOn with
  | ind u ih =>
    intro c hc
    rw [Lib.decDigits] at hc
    split at hc
    · rename_i h
      simp only [List.mem_cons, List.not_mem_nil, or_false] at hc
      subst hc
      have : (UInt8.ofNat (48 + u)).toNat = 48 + u := by simp; omega
      omega
    · rename_i h
      rw [List.mem_append] at hc
      rcases hc with hc | hc
      · exact ih (u / 10) (by omega) c hc
      · simp only [List.mem_cons, List.not_mem_nil, or_false] at hc
        subst hc
        have : (UInt8.ofNat (48 + u % 10)).toNat = 48 + u % 10 := by simp; omega
        omega
theorem itoa_mem {n : Int} {c : UInt8} (h : c ∈ Lib.itoa n) : c.toNat = 45 ∨ 48 ≤ c.toNat ∧ c.toNat ≤ 57 := by
  unfold Lib.itoa at h
  split at h
  · rcases List.mem_cons.1 h with rfl | h
    · exact .inl rfl
    · exact .inr (dec_mem _ _ h)
  · exact .inr (dec_mem _ _ h)
theorem itoa_free (n : Int) : (32 : UInt8) ∉ Lib.itoa n := by
  intro h
  have := itoa_mem h
  have e : (32 : UInt8).toNat = 32 := rfl
  omega

theorem parse_app (d : UInt8) : ∀ (l : List UInt8) (acc : Nat), Lib.parseUint10 acc (l ++ [d]) = match Lib.parseUint10 acc l with
    | .ok v => Lib.parseUint10 v [d]
    | e => e
  | [], acc => rfl
  | c :: r, acc => by
    rw [List.cons_append]
    simp only [Lib.parseUint10]
    split
    · split
      · rfl
      · split
        · rfl
        · rw [parse_app d r]; simp only [Lib.parseUint10]
    · rfl
theorem parse_dec : ∀ (u : Nat), u < 10000000000000000000 → Lib.parseUint10 0 (Lib.decDigits u) = .ok u := by
  intro u
  induction u using Nat.strongRecOn with
  | ind u ih =>
    intro hu
    rw [Lib.decDigits]
    split
    · rename_i h
      have : (UInt8.ofNat (48 + u)).toNat = 48 + u := by simp; omega
      simp only [Lib.parseUint10, this]
      rw [if_pos (by omega), if_neg (by omega), if_neg (by omega)]
      congr 1; omega
    · rename_i h
      have h1 := ih (u / 10) (by omega) (by omega)
      have : (UInt8.ofNat (48 + u % 10)).toNat = 48 + u % 10 := by simp; omega
      rw [parse_app, h1]
      simp only [Lib.parseUint10, this]
      rw [if_pos (by omega), if_neg (by omega), if_neg (by omega)]
      congr 1; omega
theorem dec_cons (u : Nat) : ∃ c r, Lib.decDigits u = c :: r ∧ 48 ≤ c.toNat ∧ c.toNat ≤ 57 := by
  induction u using Nat.strongRecOn with
  | ind u ih =>
    rw [Lib.decDigits]
    split
    · rename_i h
      have : (UInt8.ofNat (48 + u)).toNat = 48 + u := by simp; omega
      exact ⟨_, [], rfl, by omega, by omega⟩
    · rename_i h
      obtain ⟨c, r, e, h1, h2⟩ := ih (u / 10) (by omega)
      exact ⟨c, _, by rw [e]; rfl, h1, h2⟩
theorem atoi_itoa {n : Int} (h : -9223372036854775808 ≤ n ∧ n ≤ 9223372036854775807) : Lib.atoiAll (Lib.itoa n) = .ok n := by
  unfold Lib.itoa
  split
  · rename_i hn
    obtain ⟨c, r, e, h1, h2⟩ := dec_cons n.natAbs
    have hp := parse_dec n.natAbs (by omega)
    have hm : Lib.parseMag (Lib.decDigits n.natAbs) = .ok n.natAbs := by
      unfold Lib.parseMag
      rw [if_neg (by rw [e]; simp), hp]
    rw [Lib.atoiAll_minus, hm]
    simp only [Lib.signed]
    rw [if_neg (by omega)]
    congr 1; omega
  · rename_i hn
    obtain ⟨c, r, e, h1, h2⟩ := dec_cons n.toNat
    have hp := parse_dec n.toNat (by omega)
    have hm : Lib.parseMag (Lib.decDigits n.toNat) = .ok n.toNat := by
      unfold Lib.parseMag
      rw [if_neg (by rw [e]; simp), hp]
    rw [e, Lib.atoiAll_plain c r (by omega) (by omega), ← e, hm]
    simp only [Lib.signless]
    rw [if_neg (by omega)]
    congr 1; omega
def numOf (w : List UInt8) : Int × Bool := match Lib.atoiAll w with
  | .ok v => (v, true)
  | .range => (Lib.atoiSat w, false)
  | _ => (0, false)
theorem atoiO_bl {w : List UInt8} (h : w.length ≤ 281474976710656) : atoiO (bl w) = some (numOf w) := by
  unfold atoiO numOf
  rw [bl_size, if_pos h]
  have : (bl w).data.toList = w := by simp [bl]
  rw [this]
  cases Lib.atoiAll w <;> rfl
theorem numOf_itoa {n : Int} (h : -9223372036854775808 ≤ n ∧ n ≤ 9223372036854775807) : numOf (Lib.itoa n) = (n, true) := by
  unfold numOf
  rw [atoi_itoa h]

def In64i (x : Int) : Prop := -9223372036854775808 ≤ x ∧ x ≤ 9223372036854775807
theorem w64_in (x : Int) : In64i (w64 x) := by
  unfold In64i w64
  rw [IntKind.wrap_i64]
  omega
/-- How much digits spell. -/
def dval (x : Int) : List UInt8 → Int
  | [] => x
  | c :: r => dval (10 * x + (c.toNat : Int) - 48) r
theorem dval_app (x : Int) : ∀ (l : List UInt8) (d : UInt8), dval x (l ++ [d]) = 10 * dval x l + (d.toNat : Int) - 48
  | [], d => rfl
  | c :: r, d => by rw [List.cons_append, dval, dval, dval_app _ r d]
theorem dval_dec : ∀ u : Nat, dval 0 (Lib.decDigits u) = (u : Int) := by
  intro u
  induction u using Nat.strongRecOn with
  | ind u ih =>
    rw [Lib.decDigits]
    split
    · rename_i h
      have : (UInt8.ofNat (48 + u)).toNat = 48 + u := by simp; omega
      simp only [dval, this]; omega
    · rename_i h
      have : (UInt8.ofNat (48 + u % 10)).toNat = 48 + u % 10 := by simp; omega
      rw [dval_app, ih (u / 10) (by omega), this]; omega
theorem num_tot (s : List UInt8) (hs : s.length ≤ 1048576) (a0 : l2Cur) (ha : a0.s = bl s) (fr : Nat) (hfr : fr ≤ 1048577) (K : Int → Int → Option (l2Cur × Int)) : ∀ (k p : Nat) (x : Int), fr ≤ p → p ≤ fr + 11 → fr + 12 ≤ p + k → In64i x → ∃ (p' : Nat) (x' : Int), spec_l2Number.l0 a0 (fr : Int) K k (p : Int) x = K (p' : Int) x' ∧ p ≤ p' ∧ (p ≤ s.length → p' ≤ s.length) ∧ In64i x' ∧ (pk s p < 48 ∨ 57 < pk s p → p' = p) := by
  intro k
  induction k with
  | zero => intro p x h1 h2 h3; omega
  | succ k ih =>
    intro p x h1 h2 h3 hx
    rw [spec_l2Number.l0, ha, spec_l2Peek_eq, bd, gd_of, bd]
    by_cases c1 : 48 ≤ pk s p
    · rw [decide_eq_true c1, cond_true, show ∀ y, bo3 true y false = y from fun _ => rfl]
      by_cases c2 : pk s p ≤ 57
      · rw [decide_eq_true c2, show ∀ y, bo3 true y false = y from fun _ => rfl, w64_id (x := (p : Int) - fr) (by omega)]
        by_cases c3 : (p : Int) - fr < 11
        · have hin := pk_in (s := s) (i := p) (by omega)
          rw [decide_eq_true c3, cond_true, bd, w64_succ (by omega)]
          obtain ⟨p', x', e, l1, l2, l3, _⟩ := ih (p + 1) (w64 (w64 (w64 (10 * x) + w64 (pk s p)) - 48)) (by omega) (by omega) (by omega) (w64_in _)
          exact ⟨p', x', e, by omega, fun _ => l2 (by omega), l3, fun h => by omega⟩
        · rw [decide_eq_false c3, cond_false]
          exact ⟨p, x, rfl, Nat.le_refl _, fun h => h, hx, fun _ => rfl⟩
      · rw [decide_eq_false c2, show ∀ y, bo3 false y false = false from fun _ => rfl, cond_false]
        exact ⟨p, x, rfl, Nat.le_refl _, fun h => h, hx, fun _ => rfl⟩
    · rw [decide_eq_false c1, cond_false]
      exact ⟨p, x, rfl, Nat.le_refl _, fun h => h, hx, fun _ => rfl⟩
theorem spec_l2Number_tot (s : List UInt8) (hs : s.length ≤ 1048576) (i : Nat) (hi : i ≤ s.length) (ok : Bool) (left : Int) : ∃ (i' : Nat) (ok' : Bool) (x : Int), spec_l2Number.f ⟨bl s, (i : Int), ok, left⟩ = some (⟨bl s, (i' : Int), ok', left⟩, x) ∧ i ≤ i' ∧ i' ≤ s.length ∧ In64i x ∧ (ok = false → ok' = false) ∧ (ok' = true → i < i') := by
  unfold spec_l2Number.f
  rw [spec_l2Peek_eq, bd, joinK_eq]
  have hz : In64i 0 := by unfold In64i; omega
  have key : ∀ (fr : Nat) (b : Bool), i ≤ fr → fr ≤ s.length → ∃ (i' : Nat) (ok' : Bool) (x : Int), joinK (fun (y6 : Int) (y7 : Int) =>
      joinK (fun (y36 : Bool) =>
      bif b then (
      some ((l2Cur.mk (bl s) y6 y36 left), (w64 (0 - y7))))
      else (
      some ((l2Cur.mk (bl s) y6 y36 left), y7))) (fun K37 =>
      bif (decide (y6 = (fr : Int))) then (
      K37 false)
      else (
      K37 ok))) (fun K8 =>
      spec_l2Number.l0 ⟨bl s, (i : Int), ok, left⟩ (fr : Int) K8 20 (fr : Int) 0) = some (⟨bl s, (i' : Int), ok', left⟩, x) ∧ i ≤ i' ∧ i' ≤ s.length ∧ In64i x ∧ (ok = false → ok' = false) ∧ (ok' = true → i < i') := by
    intro fr b h1 h2
    rw [joinK_eq]
    obtain ⟨p', x', e, l1, l2, l3, _⟩ := num_tot s hs ⟨bl s, (i : Int), ok, left⟩ rfl fr (by omega) (fun (y6 : Int) (y7 : Int) =>
      joinK (fun (y36 : Bool) =>
      bif b then (
      some ((l2Cur.mk (bl s) y6 y36 left), (w64 (0 - y7))))
      else (
      some ((l2Cur.mk (bl s) y6 y36 left), y7))) (fun K37 =>
      bif (decide (y6 = (fr : Int))) then (
      K37 false)
      else (
      K37 ok))) 20 fr 0 (Nat.le_refl _) (by omega) (by omega) hz
    refine ⟨p', (bif decide ((p' : Int) = fr) then false else ok), (bif b then w64 (0 - x') else x'), e.trans ?_, by omega, l2 h2, ?_, ?_, ?_⟩
    · rw [joinK_eq]
      cases decide ((p' : Int) = fr) <;> cases b <;> rfl
    · cases b with
      | true => exact w64_in _
      | false => exact l3
    · intro h; cases decide ((p' : Int) = fr) <;> simp [h]
    · intro h
      by_cases c : (p' : Int) = fr
      · rw [decide_eq_true c] at h; cases h
      · omega
  by_cases c : pk s i = 45
  · have hin := pk_in (s := s) (i := i) (by omega)
    rw [decide_eq_true c, cond_true, w64_succ (by omega)]
    exact key (i + 1) true (by omega) (by omega)
  · rw [decide_eq_false c, cond_false]
    exact key i false (Nat.le_refl _) hi
/-- Digits, and what follows is none. -/
theorem num_right (s : List UInt8) (hs : s.length ≤ 1048576) (a0 : l2Cur) (ha : a0.s = bl s) (fr : Nat) (K : Int → Int → Option (l2Cur × Int)) : ∀ (ds : List UInt8) (k p : Nat) (x : Int) (rest : List UInt8), (∀ c ∈ ds, 48 ≤ c.toNat ∧ c.toNat ≤ 57) → s.drop p = ds ++ rest → (∀ c ∈ rest.head?, c.toNat < 48 ∨ 57 < c.toNat) → fr ≤ p → p + ds.length ≤ fr + 10 → ds.length < k → 0 ≤ x → x < 10 ^ (p - fr) → spec_l2Number.l0 a0 (fr : Int) K k (p : Int) x = K ((p + ds.length : Nat) : Int) (dval x ds) := by
  intro ds
  induction ds with
  | nil =>
    intro k p x rest _ hd hr h1 h2 h3 h4 h5
    cases k with
    | zero => simp at h3
    | succ k =>
      rw [spec_l2Number.l0, ha, spec_l2Peek_eq, bd, gd_of, bd]
      have hp : pk s p < 48 ∨ 57 < pk s p := by
        unfold pk
        have e : s[p]? = rest.head? := by
          have := congrArg (fun l => l[0]?) hd
          simpa [List.getElem?_drop, List.head?_eq_getElem?] using this
        rw [e]
        cases hh : rest.head? with
        | none => exact .inl (by show (0 : Int) < 48; omega)
        | some c => have := hr c (by rw [hh]; rfl); show (c.toNat : Int) < 48 ∨ 57 < (c.toNat : Int); omega
      have : bo3 (bo3 (decide (48 ≤ pk s p)) (decide ((bif decide (48 ≤ pk s p) then pk s p else default) ≤ 57)) false) (decide (w64 ((p : Int) - fr) < 11)) false = false := by
        by_cases c1 : 48 ≤ pk s p
        · rw [decide_eq_true c1, cond_true, decide_eq_false (by omega)]; rfl
        · rw [decide_eq_false c1]; rfl
      rw [this, cond_false]
      rfl
  | cons c ds ih =>
    intro k p x rest hc hd hr h1 h2 h3 h4 h5
    cases k with
    | zero => simp at h3
    | succ k =>
      simp only [List.length_cons] at h2 h3
      have hx : s[p]? = some c := by
        have := congrArg (fun l => l[0]?) hd
        simpa [List.getElem?_drop] using this
      have hin := at_lt hx
      have hcc := hc c (by simp)
      have hp : pk s p = (c.toNat : Int) := by unfold pk; rw [hx]
      have h6 : (10 : Int) ^ (p - fr) ≤ 10 ^ 10 := by
        have : (10 : Nat) ^ (p - fr) ≤ 10 ^ 10 := Nat.pow_le_pow_right (by decide) (by omega)
        exact_mod_cast this
      rw [spec_l2Number.l0, ha, spec_l2Peek_eq, bd, gd_of, bd, hp, decide_eq_true (by omega), cond_true, decide_eq_true (by omega), w64_id (x := (p : Int) - fr) (by omega), decide_eq_true (by omega), show bo3 (bo3 true true false) true false = true from rfl, cond_true, bd, w64_succ (by omega), w64_id (x := 10 * x) (by omega), w64_id (x := (c.toNat : Int)) (by omega), w64_id (x := 10 * x + (c.toNat : Int)) (by omega), w64_id (by omega)]
      rw [ih k (p + 1) _ rest (fun c hc' => hc c (by simp [hc'])) ?_ hr (by omega) (by omega) (by omega) (by omega) ?_]
      · rw [dval, show p + 1 + ds.length = p + (c :: ds).length by simp only [List.length_cons]; omega]
      · rw [← List.drop_drop, hd]; rfl
      · rw [show p + 1 - fr = (p - fr) + 1 by omega, Int.pow_succ]; omega
theorem spec_l2Number_itoa (s : List UInt8) (hs : s.length ≤ 1048576) {n : Int} (hn : -1000000000 ≤ n ∧ n ≤ 1000000000) (i : Nat) (ok : Bool) (left : Int) (rest : List UInt8) (hd : s.drop i = Lib.itoa n ++ rest) (hr : ∀ c ∈ rest.head?, c.toNat < 48 ∨ 57 < c.toNat) : spec_l2Number.f ⟨bl s, (i : Int), ok, left⟩ = some (⟨bl s, ((i + (Lib.itoa n).length : Nat) : Int), ok, left⟩, n) := by
  unfold spec_l2Number.f
  rw [spec_l2Peek_eq, bd, joinK_eq]
  have hlen : i + (Lib.itoa n).length ≤ s.length := by
    have := congrArg List.length hd
    simp only [List.length_drop, List.length_append] at this
    obtain ⟨c, r, e, _⟩ := dec_cons n.natAbs
    have : 0 < (Lib.itoa n).length := by
      unfold Lib.itoa
      split
      · simp
      · rw [show n.toNat = n.natAbs by omega, e]; simp
    omega
  have dl : ∀ u : Nat, u ≤ 1000000000 → (Lib.decDigits u).length ≤ 10 := by
    intro u hu
    have := decDigits_len 10 u (by omega)
    unfold digs at this
    split at this
    · rename_i h0; rw [h0, Lib.decDigits, dif_pos (by decide)]; simp
    · exact this
  by_cases hneg : n < 0
  · have e : Lib.itoa n = 45 :: Lib.decDigits n.natAbs := if_pos hneg
    rw [e] at hd hlen ⊢
    have hx : s[i]? = some 45 := by
      have := congrArg (fun l => l[0]?) hd
      simpa [List.getElem?_drop] using this
    have hp : pk s i = 45 := by unfold pk; rw [hx]; rfl
    have hin := at_lt hx
    obtain ⟨c, r, ed, _⟩ := dec_cons n.natAbs
    rw [hp, decide_eq_true rfl, cond_true, w64_succ (by omega)]
    dsimp only
    rw [joinK_eq]
    have hd' : s.drop (i + 1) = Lib.decDigits n.natAbs ++ rest := by rw [← List.drop_drop, hd]; rfl
    refine (num_right s hs _ rfl (i + 1) _ (Lib.decDigits n.natAbs) 20 (i + 1) 0 rest (dec_mem _) hd' hr (Nat.le_refl _) (by have := dl n.natAbs (by omega); omega) (by have := dl n.natAbs (by omega); omega) (by omega) (by rw [Nat.sub_self]; decide)).trans ?_
    rw [joinK_eq, decide_eq_false (by rw [ed]; simp only [List.length_cons]; omega), cond_false]
    dsimp only
    rw [cond_true, dval_dec, w64_id (by omega)]
    congr 3
    · simp only [List.length_cons]; omega
    · omega
  · have e : Lib.itoa n = Lib.decDigits n.natAbs := by unfold Lib.itoa; rw [if_neg hneg, show n.toNat = n.natAbs by omega]
    rw [e] at hd hlen ⊢
    obtain ⟨c, r, ed, h1, h2⟩ := dec_cons n.natAbs
    have hx : s[i]? = some c := by
      have := congrArg (fun l => l[0]?) hd
      rw [ed] at this
      simpa [List.getElem?_drop] using this
    have hp : pk s i = (c.toNat : Int) := by unfold pk; rw [hx]
    rw [hp, decide_eq_false (by omega), cond_false]
    dsimp only
    rw [joinK_eq]
    refine (num_right s hs _ rfl i _ (Lib.decDigits n.natAbs) 20 i 0 rest (dec_mem _) hd hr (Nat.le_refl _) (by have := dl n.natAbs (by omega); omega) (by have := dl n.natAbs (by omega); omega) (by omega) (by rw [Nat.sub_self]; decide)).trans ?_
    rw [joinK_eq, decide_eq_false (by rw [ed]; simp only [List.length_cons]; omega), cond_false]
    dsimp only
    rw [cond_false, dval_dec, show ((n.natAbs : Nat) : Int) = n by omega]

def schemaB (s : Schema) : Bool := s.Cols.all (fun n => decide (1 ≤ n ∧ n ≤ 4)) && decide (1 ≤ (s.Cols.length : Int) ∧ (s.Cols.length : Int) ≤ 3)

def kidsB (s : Schema) (q : Query) : Bool :=
  if q.Kids then decide (0 ≤ q.KidTable ∧ q.KidTable ≤ (s.Cols.length : Int) - 1) && decide (0 ≤ q.KidCol ∧ q.KidCol ≤ w64 (s.Cols.getD q.KidTable.toNat 0 - 1)) else decide (q.KidTable = 0) && decide (q.KidCol = 0)
def condB (cols : Int) (c : Cond) : Bool := decide (0 ≤ c.Col ∧ c.Col ≤ w64 (cols - 1)) && decide (1 ≤ c.Op ∧ c.Op ≤ 4) && decide (-1000000000 ≤ c.V ∧ c.V ≤ 1000000000)
def showB (cols : Int) (l : List Int) : Bool := allFrom (fun i x => decide (0 ≤ x ∧ x ≤ w64 (cols - 1)) && !(decide (0 < i) && decide (x ≤ l.getD (i - 1) 0))) l 0
def queryB (s : Schema) (q : Query) : Bool :=
  schemaB s && decide (0 ≤ q.Table ∧ q.Table ≤ (s.Cols.length : Int) - 1) &&
    (let cols := s.Cols.getD q.Table.toNat 0
     q.Where.all (condB cols) && showB cols q.Show && (decide (q.Where.length ≤ 3) && decide (0 ≤ q.Order ∧ q.Order ≤ cols) && (!q.Down || decide (0 < q.Order)) && decide (0 ≤ q.First ∧ q.First ≤ 24) && kidsB s q))
theorem show_step {r : Bool} {l : List Int} {i : Nat} {x : Int} (hx : l[i]? = some x) (hl : i < 9223372036854775807) : gd (bo3 r (decide (0 < (i : Int))) false) (getO l (w64 ((i : Int) - 1))) = some (bif bo3 r (decide (0 < (i : Int))) false then l.getD (i - 1) 0 else 0) := by
  refine gd_some _ fun h => ?_
  have h0 := of_decide_eq_true (bo_r h)
  have hi := at_lt hx
  rw [w64_id (by omega), show ((i : Int) - 1) = ((i - 1 : Nat) : Int) by omega, getO_nat, List.getD_eq_getElem?_getD, List.getElem?_eq_getElem (by omega)]
  rfl

theorem strconv_Itoa_eq (n : Int) (h : -9223372036854775808 ≤ n ∧ n ≤ 9223372036854775807) : strconv_Itoa.f n = some (bl (Lib.itoa n)) := by
  unfold strconv_Itoa.f itoaO
  rw [if_pos h]; rfl

def sgn (op : Int) : List UInt8 := if op = 1 then [61] else if op = 2 then [60] else if op = 3 then [62] else [33]
def condW (c : Cond) : List (List UInt8) := [[119, 104, 101, 114, 101], Lib.itoa c.Col, sgn c.Op, Lib.itoa c.V]
def whereW (l : List Cond) : List (List UInt8) := l.flatMap condW
def downW (q : Query) : List (List UInt8) := if q.Down = true then [[100, 111, 119, 110]] else []
def orderW (q : Query) : List (List UInt8) := if q.Order ≠ 0 then [111, 114, 100, 101, 114] :: Lib.itoa (q.Order - 1) :: downW q else []
def firstW (q : Query) : List (List UInt8) := if q.First ≠ 0 then [[102, 105, 114, 115, 116], Lib.itoa q.First] else []
def showW (l : List Int) : List (List UInt8) := if l = [] then [] else [115, 104, 111, 119] :: l.map Lib.itoa
def kidsW (q : Query) : List (List UInt8) := if q.Kids = true then [[107, 105, 100, 115], Lib.itoa q.KidTable, Lib.itoa q.KidCol] else []
def restW (q : Query) : List (List UInt8) := Lib.itoa q.Table :: (whereW q.Where ++ (orderW q ++ (firstW q ++ (showW q.Show ++ kidsW q))))
def qwords (q : Query) : List (List UInt8) := [102, 114, 111, 109] :: restW q
abbrev jt (ws : List (List UInt8)) : List UInt8 := Lib.joinTail [32] ws
def qtext (q : Query) : List UInt8 := [102, 114, 111, 109] ++ jt (restW q)
theorem jt_nil : jt [] = [] := rfl
theorem jt_cons (w : List UInt8) (ws : List (List UInt8)) : jt (w :: ws) = 32 :: w ++ jt ws := by simp [Lib.joinTail]
theorem jt_app (a b : List (List UInt8)) : jt (a ++ b) = jt a ++ jt b := by simp [Lib.joinTail]
theorem qtext_join (q : Query) : Lib.join (qwords q) [32] = qtext q := Lib.join_cons _ _ _
/-- What is asked of a question that is right, in numbers. -/
structure QRight (q : Query) : Prop where
  t : 0 ≤ q.Table ∧ q.Table ≤ 2
  w : q.Where.length ≤ 3
  c : ∀ c ∈ q.Where, (0 ≤ c.Col ∧ c.Col ≤ 3) ∧ (1 ≤ c.Op ∧ c.Op ≤ 4) ∧ (-1000000000 ≤ c.V ∧ c.V ≤ 1000000000)
  o : 0 ≤ q.Order ∧ q.Order ≤ 4
  d : q.Down = true → 0 < q.Order
  f : 0 ≤ q.First ∧ q.First ≤ 24
  s : ∀ x ∈ q.Show, 0 ≤ x ∧ x ≤ 3
  sl : q.Show.length ≤ 4
  k : 0 ≤ q.KidTable ∧ q.KidTable ≤ 2
  kc : 0 ≤ q.KidCol ∧ q.KidCol ≤ 3
  k0 : q.Kids = false → q.KidTable = 0 ∧ q.KidCol = 0
theorem show_up {cols : Int} {l : List Int} (h : showB cols l = true) : ∀ (i : Nat) x, l[i]? = some x → (i : Int) ≤ x := by
  unfold showB at h
  rw [allFrom_iff] at h
  intro i
  induction i with
  | zero =>
    intro x hx
    have := h 0 x hx
    simp only [Bool.and_eq_true, decide_eq_true_eq] at this
    have := this.1
    omega
  | succ i ih =>
    intro x hx
    have hi := at_lt hx
    have hy := List.getElem?_eq_getElem (show i < l.length by omega)
    have h1 := ih _ hy
    have := h (i + 1) x hx
    simp only [Bool.and_eq_true, decide_eq_true_eq, Bool.not_eq_true', Bool.and_eq_false_iff, decide_eq_false_iff_not, Nat.add_sub_cancel, List.getD_eq_getElem?_getD, hy, Option.getD_some] at this
    obtain ⟨_, h2⟩ := this
    rcases h2 with h2 | h2
    · omega
    · omega
theorem cols_at {s : Schema} (hs : schemaB s = true) {t : Int} (ht : 0 ≤ t ∧ t ≤ (s.Cols.length : Int) - 1) : 1 ≤ s.Cols.getD t.toNat 0 ∧ s.Cols.getD t.toNat 0 ≤ 4 := by
  unfold schemaB at hs
  rw [Bool.and_eq_true, List.all_eq_true] at hs
  have hx := List.getElem?_eq_getElem (show t.toNat < s.Cols.length by omega)
  rw [List.getD_eq_getElem?_getD, hx, Option.getD_some]
  exact of_decide_eq_true (hs.1 _ (List.getElem_mem _))
theorem queryB_QR {s : Schema} {q : Query} (h : queryB s q = true) : QRight q := by
  unfold queryB kidsB at h
  dsimp only at h
  simp only [Bool.and_eq_true, decide_eq_true_eq, List.all_eq_true, Bool.or_eq_true, Bool.not_eq_true'] at h
  obtain ⟨⟨hs, ht⟩, ⟨hw, hsh⟩, ⟨⟨⟨h3, ho⟩, hd⟩, hf⟩, hk⟩ := h
  have hc := cols_at hs ht
  have hs' := hs
  unfold schemaB at hs'
  rw [Bool.and_eq_true] at hs'
  have hl := of_decide_eq_true hs'.2
  generalize s.Cols.getD q.Table.toNat 0 = cols at *
  have hup := show_up hsh
  have hsh' := hsh
  unfold showB at hsh'
  rw [allFrom_iff] at hsh'
  have hx : ∀ (i : Nat) x, q.Show[i]? = some x → 0 ≤ x ∧ x ≤ 3 := by
    intro i x hx
    have := hsh' i x hx
    simp only [Bool.and_eq_true, decide_eq_true_eq] at this
    have h1 := this.1
    rw [w64_id (by omega)] at h1
    omega
  refine ⟨by omega, h3, ?_, by omega, ?_, hf, ?_, ?_, ?_, ?_, ?_⟩
  · intro c hc'
    have := hw c hc'
    unfold condB at this
    simp only [Bool.and_eq_true, decide_eq_true_eq] at this
    rw [w64_id (by omega)] at this
    omega
  · intro h
    rcases hd with hd | hd
    · rw [h] at hd; cases hd
    · exact hd
  · intro x hm
    obtain ⟨i, hi⟩ := List.mem_iff_getElem?.1 hm
    exact hx i x hi
  · by_cases hlen : q.Show.length ≤ 4
    · exact hlen
    · have hy := List.getElem?_eq_getElem (show 4 < q.Show.length by omega)
      have := hup 4 _ hy
      have := hx 4 _ hy
      omega
  · split at hk
    · have := of_decide_eq_true ((Bool.and_eq_true _ _).mp hk).1
      omega
    · have := of_decide_eq_true ((Bool.and_eq_true _ _).mp hk).1
      omega
  · split at hk
    · have h1 := of_decide_eq_true ((Bool.and_eq_true _ _).mp hk).1
      have h2 := of_decide_eq_true ((Bool.and_eq_true _ _).mp hk).2
      have hc2 := cols_at hs h1
      rw [w64_id (by omega)] at h2
      omega
    · have := of_decide_eq_true ((Bool.and_eq_true _ _).mp hk).2
      omega
  · intro h0
    rw [h0, if_neg (by simp)] at hk
    exact ⟨of_decide_eq_true ((Bool.and_eq_true _ _).mp hk).1, of_decide_eq_true ((Bool.and_eq_true _ _).mp hk).2⟩
/-- The words' lengths. -/
theorem len_jt (ws : List (List UInt8)) : (jt ws).length = ws.length + Lib.lens ws := by
  have := Lib.joinTail_length [32] ws
  simpa using this
theorem sgn_len (o : Int) : (sgn o).length = 1 := by unfold sgn; (repeat' split) <;> rfl
theorem jt_where {l : List Cond} (h : ∀ c ∈ l, (0 ≤ c.Col ∧ c.Col ≤ 3) ∧ (1 ≤ c.Op ∧ c.Op ≤ 4) ∧ (-1000000000 ≤ c.V ∧ c.V ≤ 1000000000)) : (jt (whereW l)).length ≤ 32 * l.length ∧ (whereW l).length = 4 * l.length := by
  induction l with
  | nil => exact ⟨Nat.le_refl _, rfl⟩
  | cons c l ih =>
    have h1 := h c (by simp)
    have h2 := ih fun c hc => h c (by simp [hc])
    have e1 := itoa_len11 (n := c.Col) (by omega)
    have e2 := itoa_len11 (n := c.V) (by omega)
    have e3 := sgn_len c.Op
    have : whereW (c :: l) = condW c ++ whereW l := rfl
    rw [this, jt_app, List.length_append, List.length_append, h2.2]
    simp only [condW, jt_cons, jt_nil, List.length_append, List.length_cons, List.length_nil]
    omega
theorem jt_show {l : List Int} (h : ∀ x ∈ l, 0 ≤ x ∧ x ≤ 3) : (jt (l.map Lib.itoa)).length ≤ 12 * l.length := by
  induction l with
  | nil => exact Nat.le_refl _
  | cons x l ih =>
    have h1 := itoa_len11 (n := x) (by have := h x (by simp); omega)
    have h2 := ih fun x hx => h x (by simp [hx])
    rw [List.map_cons, jt_cons]
    simp only [List.length_append, List.length_cons]
    omega
theorem jt_showW {l : List Int} (h : ∀ x ∈ l, 0 ≤ x ∧ x ≤ 3) : (jt (showW l)).length ≤ 12 * l.length + 5 := by
  unfold showW
  have := jt_show h
  split
  · simp [jt_nil]
  · rw [jt_cons]; simp only [List.length_append, List.length_cons, List.length_nil]; omega
theorem len_qtext {q : Query} (h : QRight q) : (qtext q).length ≤ 300 := by
  have h1 := jt_where h.c
  have h2 := jt_showW h.s
  have hw := h.w
  have hsl := h.sl
  have e1 := itoa_len11 (n := q.Table) (by have := h.t; omega)
  have e2 := itoa_len11 (n := q.Order - 1) (by have := h.o; omega)
  have e3 := itoa_len11 (n := q.First) (by have := h.f; omega)
  have e4 := itoa_len11 (n := q.KidTable) (by have := h.k; omega)
  have e5 := itoa_len11 (n := q.KidCol) (by have := h.kc; omega)
  have g1 : (jt (orderW q)).length ≤ 24 := by
    unfold orderW downW
    split
    · split <;> simp only [jt_cons, jt_nil, List.length_append, List.length_cons, List.length_nil] <;> omega
    · simp [jt_nil]
  have g2 : (jt (firstW q)).length ≤ 24 := by
    unfold firstW
    split
    · simp only [jt_cons, jt_nil, List.length_append, List.length_cons, List.length_nil]; omega
    · simp [jt_nil]
  have g3 : (jt (kidsW q)).length ≤ 36 := by
    unfold kidsW
    split
    · simp only [jt_cons, jt_nil, List.length_append, List.length_cons, List.length_nil]; omega
    · simp [jt_nil]
  unfold qtext restW
  rw [jt_cons]
  simp only [jt_app, List.length_append, List.length_cons, List.length_nil]
  omega

theorem QB_of {q : Query} (h1 : q.Where.length ≤ 1099511627776) (h2 : q.Show.length ≤ 1099511627776) : Query_b q := ⟨show q.Where.length ≤ 9223372036854775807 by omega, show q.Show.length ≤ 9223372036854775807 by omega⟩
def noQ : Query := ⟨0, [], 0, false, 0, [], false, 0, 0⟩
open Classical in
/-- What is read of a text: the question whose text it is. -/
noncomputable def readF (s : Schema) (t : List UInt8) : Query × Bool := if h : ∃ q, queryB s q = true ∧ qtext q = t then (Classical.choose h, true) else (noQ, false)
theorem sgn_free (o : Int) : (32 : UInt8) ∉ sgn o := by unfold sgn; (repeat' split) <;> decide
theorem qwords_free (q : Query) : ∀ x ∈ restW q, (32 : UInt8) ∉ x := by
  intro x hx
  unfold restW at hx
  simp only [List.mem_cons, List.mem_append] at hx
  rcases hx with rfl | hx | hx | hx | hx | hx
  · exact itoa_free _
  · unfold whereW at hx
    obtain ⟨c, _, hx⟩ := List.mem_flatMap.1 hx
    unfold condW at hx
    simp only [List.mem_cons, List.not_mem_nil, or_false] at hx
    rcases hx with rfl | rfl | rfl | rfl
    · decide
    · exact itoa_free _
    · exact sgn_free _
    · exact itoa_free _
  · unfold orderW downW at hx
    split at hx
    · simp only [List.mem_cons] at hx
      rcases hx with rfl | rfl | hx
      · decide
      · exact itoa_free _
      · split at hx
        · simp only [List.mem_cons, List.not_mem_nil, or_false] at hx
          subst hx; decide
        · cases hx
    · cases hx
  · unfold firstW at hx
    split at hx
    · simp only [List.mem_cons, List.not_mem_nil, or_false] at hx
      rcases hx with rfl | rfl
      · decide
      · exact itoa_free _
    · cases hx
  · unfold showW at hx
    split at hx
    · cases hx
    · rcases List.mem_cons.1 hx with rfl | hx
      · decide
      · obtain ⟨y, _, rfl⟩ := List.mem_map.1 hx
        exact itoa_free _
  · unfold kidsW at hx
    split at hx
    · simp only [List.mem_cons, List.not_mem_nil, or_false] at hx
      rcases hx with rfl | rfl | rfl
      · decide
      · exact itoa_free _
      · exact itoa_free _
    · cases hx
theorem words_qtext (q : Query) : words (qtext q) = qwords q := words_jt (restW q) [102, 114, 111, 109] (by decide) (qwords_free q)
theorem readF_yes {s : Schema} {t : List UInt8} (h : ∃ q, queryB s q = true ∧ qtext q = t) : ∃ q, readF s t = (q, true) ∧ queryB s q = true ∧ qtext q = t := by
  refine ⟨Classical.choose h, ?_, (Classical.choose_spec h).1, (Classical.choose_spec h).2⟩
  unfold readF
  rw [dif_pos h]
theorem readF_no {s : Schema} {t : List UInt8} (h : ¬ ∃ q, queryB s q = true ∧ qtext q = t) : readF s t = (noQ, false) := by
  unfold readF
  rw [dif_neg h]

theorem spec_l10Num_tot (w : List UInt8) (hw : w.length ≤ 1048576) : ∃ x b, spec_l10Num.f (bl w) = some (x, b) ∧ In64i x := by
  unfold spec_l10Num.f
  obtain ⟨i', ok', x, e, _, _, hx, _⟩ := spec_l2Number_tot w hw 0 (Nat.zero_le _) true 0
  have e' : spec_l2Number.f ⟨bl w, 0, true, 0⟩ = _ := e
  rw [e', bd]
  cases ok' with
  | false => exact ⟨x, _, rfl, hx⟩
  | true =>
    dsimp only
    rw [gd_true, spec_l2Digits_eq x hx, bd]
    exact ⟨x, _, rfl, hx⟩
theorem spec_l10Num_itoa {n : Int} (hn : -1000000000 ≤ n ∧ n ≤ 1000000000) : spec_l10Num.f (bl (Lib.itoa n)) = some (n, true) := by
  unfold spec_l10Num.f
  have hl := itoa_len11 hn
  have e := spec_l2Number_itoa (Lib.itoa n) (by omega) hn 0 true 0 [] (by simp) (by simp)
  have e' : spec_l2Number.f ⟨bl (Lib.itoa n), 0, true, 0⟩ = _ := e
  rw [e', bd]
  dsimp only
  rw [gd_true, spec_l2Digits_eq n (by omega), bd, str_eq, decide_eq_true rfl]
  rfl
theorem spec_l10Num_kids : ∃ x, spec_l10Num.f (bl [107, 105, 100, 115]) = some (x, false) := ⟨0, by rfl⟩

theorem spec_l10Arg_tot (ws : List (List UInt8)) (hw : ∀ w ∈ ws, w.length ≤ 1048576) (i : Nat) : ∃ x, spec_l10Arg.f (ws.map bl) (i : Int) = some x := by
  unfold spec_l10Arg.f
  rw [lenI_eq, List.length_map]
  by_cases h : i < ws.length
  · rw [decide_eq_false (by omega), cond_false, getO_nat, List.getElem?_map, List.getElem?_eq_getElem h]
    obtain ⟨x, b, e, _⟩ := spec_l10Num_tot ws[i] (hw _ (List.getElem_mem h))
    exact ⟨x, by show (spec_l10Num.f (bl ws[i])).bind _ = _; rw [e]; rfl⟩
  · rw [decide_eq_true (by omega), cond_true]
    exact ⟨0, rfl⟩
theorem spec_l10Arg_itoa {ws : List (List UInt8)} {i : Nat} {n : Int} (hn : -1000000000 ≤ n ∧ n ≤ 1000000000) (h : ws[i]? = some (Lib.itoa n)) : spec_l10Arg.f (ws.map bl) (i : Int) = some n := by
  unfold spec_l10Arg.f
  have hi := at_lt h
  rw [lenI_eq, List.length_map, decide_eq_false (by omega), cond_false, getO_nat, List.getElem?_map, h]
  show (spec_l10Num.f (bl (Lib.itoa n))).bind _ = _
  rw [spec_l10Num_itoa hn]
  rfl

theorem spec_l1In_eq (x y z : Int) : spec_l1In.f x y z = some (decide (y ≤ x ∧ x ≤ z)) := by
  unfold spec_l1In.f
  rw [bo3_and, Bool.decide_and]

theorem spec_SchemaOk_eq (s : Schema) (h : Schema_b s) : spec_SchemaOk.f s = some (schemaB s) := by
  have hl : s.Cols.length ≤ 9223372036854775807 := h
  unfold spec_SchemaOk.f joinK
  refine (loop_all (f := spec_SchemaOk.l0 s _) (l := s.Cols) (fun _ n => decide (1 ≤ n ∧ n ≤ 4)) (some false) (some (decide (1 ≤ (s.Cols.length : Int) ∧ (s.Cols.length : Int) ≤ 3))) (fun k i x hx => ?_) (fun k i hi => ?_) _ 0 (by omega) (by (try simp only [lenI_eq]); omega)).trans ?_
  · have hi := at_lt hx
    rw [spec_SchemaOk.l0, lenI_eq, decide_eq_true (by omega), cond_true, getO_nat, hx, Option.bind_some, spec_l1In_eq, Option.bind_some, bo3_not, w64_succ (by omega)]
    cases decide (1 ≤ x ∧ x ≤ 4) <;> rfl
  · rw [spec_SchemaOk.l0, lenI_eq, decide_eq_false (by omega), cond_false, spec_l1In_eq, Option.bind_some]
  · rw [allFrom_zero, schemaB]
    cases s.Cols.all fun n => decide (1 ≤ n ∧ n ≤ 4) <;> rfl

theorem spec_QueryOk_eq (s : Schema) (q : Query) (h : Schema_b s) (hq : Query_b q) : spec_QueryOk.f s q = some (queryB s q) := by
  have hcl : s.Cols.length ≤ 9223372036854775807 := h
  obtain ⟨hw, hs⟩ := hq
  have hwl : q.Where.length ≤ 9223372036854775807 := hw
  have hsl : q.Show.length ≤ 9223372036854775807 := hs
  unfold spec_QueryOk.f queryB
  rw [spec_SchemaOk_eq _ h, Option.bind_some]
  cases schemaB s with
  | false => rfl
  | true =>
    rw [show bo3 (bo3 true false true) false true = true from rfl, gd_true, lenI_eq, w64_id (by omega), spec_l1In_eq, Option.bind_some]
    by_cases d : 0 ≤ q.Table ∧ q.Table ≤ (s.Cols.length : Int) - 1
    case neg => rw [decide_eq_false d]; rfl
    rw [decide_eq_true d, getO_Int d]
    generalize s.Cols.getD q.Table.toNat 0 = cols
    by_cases d3 : q.Where.length ≤ 3
    case neg =>
      rw [lenI_eq, decide_eq_true (by omega), show bo3 (bo3 (bo3 true false true) true (bo3 true false true)) true true = true from rfl, cond_true, decide_eq_false d3]
      simp
    rw [lenI_eq, decide_eq_false (by omega), show bo3 (bo3 (bo3 true false true) true (bo3 true false true)) true false = false from rfl, cond_false, decide_eq_true d3, Option.bind_some]
    simp only [joinK, Bool.true_and]
    refine (loop_all (f := spec_QueryOk.l0 q cols _) (l := q.Where) (fun _ c => condB cols c) (some false) (some (showB cols q.Show && (decide (0 ≤ q.Order ∧ q.Order ≤ cols) && (!q.Down || decide (0 < q.Order)) && decide (0 ≤ q.First ∧ q.First ≤ 24) && kidsB s q))) (fun k i x hx => ?_) (fun k i hi => ?_) _ 0 (by omega) (by (try simp only [lenI_eq]); omega)).trans ?_
    · have hi := at_lt hx
      rw [spec_QueryOk.l0, lenI_eq, decide_eq_true (by omega), cond_true, getO_nat, hx, Option.bind_some, spec_l1In_eq, Option.bind_some, spec_l1In_eq, spec_l1In_eq, w64_succ (by omega)]
      unfold condB
      cases decide (0 ≤ x.Col ∧ x.Col ≤ w64 (cols - 1)) <;> cases decide (1 ≤ x.Op ∧ x.Op ≤ 4) <;> cases decide (-1000000000 ≤ x.V ∧ x.V ≤ 1000000000) <;> rfl
    · rw [spec_QueryOk.l0, lenI_eq, decide_eq_false (by omega), cond_false]
      refine (loop_all (f := spec_QueryOk.l1 q cols _) (l := q.Show) (fun i x => decide (0 ≤ x ∧ x ≤ w64 (cols - 1)) && !(decide (0 < i) && decide (x ≤ q.Show.getD (i - 1) 0))) (some false) (some (decide (0 ≤ q.Order ∧ q.Order ≤ cols) && (!q.Down || decide (0 < q.Order)) && decide (0 ≤ q.First ∧ q.First ≤ 24) && kidsB s q)) (fun k i x hx => ?_) (fun k i hi => ?_) _ 0 (by omega) (by (try simp only [lenI_eq]); omega)).trans ?_
      · have hi := at_lt hx
        rw [spec_QueryOk.l1, lenI_eq, decide_eq_true (by omega), cond_true, getO_nat, hx, Option.bind_some, spec_l1In_eq, Option.bind_some, show_step hx (by omega), Option.bind_some, w64_succ (by omega)]
        rw [show decide (0 < (i : Int)) = decide (0 < i) from by simp]
        cases decide (0 ≤ x ∧ x ≤ w64 (cols - 1)) <;> cases decide (0 < i) <;> (try rfl)
        simp only [bo3_and, bo3_not, bo3_or, Bool.not_true, Bool.not_false, Bool.true_and, cond_true]
        cases decide (x ≤ q.Show.getD (i - 1) 0) <;> rfl
      · rw [spec_QueryOk.l1, lenI_eq, decide_eq_false (by omega), cond_false, spec_l1In_eq, Option.bind_some, spec_l1In_eq]
        by_cases e0 : 0 ≤ q.Order ∧ q.Order ≤ cols
        case neg => rw [decide_eq_false e0]; rfl
        rw [decide_eq_true e0, show bo3 (bo3 true false true) false true = true from rfl, gd_true, Option.bind_some]
        by_cases e1 : 0 ≤ q.First ∧ q.First ≤ 24
        case neg => rw [decide_eq_false e1]; simp [bo3]
        rw [decide_eq_true e1]
        have e2 : (bo3 (decide (q.Order = 0)) q.Down false) = !(!q.Down || decide (0 < q.Order)) := by
          cases q.Down with
          | false => cases decide (q.Order = 0) <;> rfl
          | true =>
            by_cases e3 : q.Order = 0
            · simp [e3, bo3]
            · have : 0 < q.Order := by omega
              simp [e3, bo3, this]
        rw [e2]
        cases hd : (!q.Down || decide (0 < q.Order)) with
        | false => simp [bo3]
        | true =>
          rw [show bo3 (bo3 (bo3 true false true) true (bo3 true false true)) true (!true) = false from rfl, cond_false, bo3_not]
          unfold kidsB
          cases q.Kids with
          | false => simp [bo3_and]
          | true =>
            rw [Bool.not_true, cond_false, spec_l1In_eq, Option.bind_some, if_pos rfl]
            by_cases d : 0 ≤ q.KidTable ∧ q.KidTable ≤ (s.Cols.length : Int) - 1
            · rw [decide_eq_true d, gd_true, getO_Int d, Option.bind_some, gd_true, spec_l1In_eq, Option.bind_some, bo3_and]
              simp
            · rw [decide_eq_false d, gd_false, Option.bind_some, gd_false, Option.bind_some, bo3_and]
              simp
      · unfold showB
        cases allFrom (fun i x => decide (0 ≤ x ∧ x ≤ w64 (cols - 1)) && !(decide (0 < i) && decide (x ≤ q.Show.getD (i - 1) 0))) q.Show 0 <;> rfl
    · rw [allFrom_zero]
      cases q.Where.all fun c => condB cols c <;> simp

theorem sgn_at {o : Int} (h : 1 ≤ o ∧ o ≤ 4) : getO [ByteArray.mk #[], ByteArray.mk #[61], ByteArray.mk #[60], ByteArray.mk #[62], ByteArray.mk #[33]] o = some (bl (sgn o)) := by
  have : o = 1 ∨ o = 2 ∨ o = 3 ∨ o = 4 := by omega
  rcases this with rfl | rfl | rfl | rfl <;> rfl
theorem bind_sm {α β : Type} (a : α) (f : α → Option β) : (some a).bind f = f a := rfl
theorem mk_bl (l : List UInt8) : ByteArray.mk l.toArray = bl l := rfl
theorem sqt_l0 (q : Query) (K : ByteArray → Option ByteArray) (h : ∀ c ∈ q.Where, (0 ≤ c.Col ∧ c.Col ≤ 3) ∧ (1 ≤ c.Op ∧ c.Op ≤ 4) ∧ (-1000000000 ≤ c.V ∧ c.V ≤ 1000000000)) (hl : q.Where.length ≤ 3) : ∀ (k i : Nat) (t : List UInt8), i ≤ q.Where.length → q.Where.length < i + k → t.length ≤ 1000 + 100 * i → spec_QueryText.l0 q K k (bl t) (i : Int) = K (bl (t ++ jt (whereW (q.Where.drop i)))) := by
  intro k
  induction k with
  | zero => intro i t h1 h2; omega
  | succ k ih =>
    intro i t h1 h2 h3
    rw [spec_QueryText.l0, lenI_eq]
    by_cases hi : i < q.Where.length
    · have hx := List.getElem?_eq_getElem hi
      have hc := h _ (List.getElem_mem hi)
      have e1 := itoa_len11 (n := q.Where[i].Col) (by omega)
      have e2 := itoa_len11 (n := q.Where[i].V) (by omega)
      have e3 := sgn_len q.Where[i].Op
      rw [decide_eq_true (by omega), cond_true, getO_nat, hx, bind_sm, show ByteArray.mk #[32, 119, 104, 101, 114, 101, 32] = bl [32, 119, 104, 101, 114, 101, 32] from rfl, show ByteArray.mk #[32] = bl [32] from rfl,
        addO_bl (by simp only [List.length_cons, List.length_nil]; omega), bind_sm, spec_l2Digits_eq _ (by omega), bind_sm, addO_bl (by simp only [List.length_append, List.length_cons, List.length_nil]; omega), bind_sm, addO_bl (by simp only [List.length_append, List.length_cons, List.length_nil]; omega), bind_sm,
        spec_l10Signs_eq, bind_sm, sgn_at hc.2.1, bind_sm, addO_bl (by simp only [List.length_append, List.length_cons, List.length_nil]; omega), bind_sm, addO_bl (by simp only [List.length_append, List.length_cons, List.length_nil]; omega), bind_sm,
        spec_l2Digits_eq _ (by omega), bind_sm, addO_bl (by simp only [List.length_append, List.length_cons, List.length_nil]; omega), bind_sm, w64_succ (by omega), ih (i + 1) _ (by omega) (by omega) (by simp only [List.length_append, List.length_cons, List.length_nil]; omega), List.drop_eq_getElem_cons hi]
      congr 2
      rw [show whereW (q.Where[i] :: q.Where.drop (i + 1)) = condW q.Where[i] ++ whereW (q.Where.drop (i + 1)) from rfl, jt_app]
      simp [condW, jt_cons, jt_nil]
    · rw [decide_eq_false (by omega), cond_false, List.drop_eq_nil_of_le (by omega)]
      simp [whereW, jt_nil]
theorem sqt_l1 (q : Query) (K : ByteArray → Option ByteArray) (h : ∀ x ∈ q.Show, 0 ≤ x ∧ x ≤ 3) (hl : q.Show.length ≤ 4) : ∀ (k i : Nat) (t : List UInt8), i ≤ q.Show.length → q.Show.length < i + k → t.length ≤ 2000 + 100 * i → spec_QueryText.l1 q K k (bl t) (i : Int) = K (bl (t ++ jt (if i = 0 then showW q.Show else (q.Show.drop i).map Lib.itoa))) := by
  intro k
  induction k with
  | zero => intro i t h1 h2; omega
  | succ k ih =>
    intro i t h1 h2 h3
    rw [spec_QueryText.l1, lenI_eq]
    by_cases hi : i < q.Show.length
    · have hx := List.getElem?_eq_getElem hi
      have hc := h _ (List.getElem_mem hi)
      have e1 := itoa_len11 (n := q.Show[i]) (by omega)
      have hne : q.Show ≠ [] := List.length_pos_iff.1 (by omega)
      rw [decide_eq_true (by omega), cond_true, joinK_eq]
      have go : ∀ t' : List UInt8, t'.length ≤ 2050 + 100 * i → ((addO (bl t') (ByteArray.mk #[32])).bind fun s66 => (getO q.Show (i : Int)).bind fun x67 => (spec_l2Digits.f x67).bind fun r68 => (addO s66 r68).bind fun s69 => spec_QueryText.l1 q K k s69 (w64 ((i : Int) + 1))) = K (bl (t' ++ jt ((q.Show.drop i).map Lib.itoa))) := by
        intro t' ht'
        rw [show ByteArray.mk #[32] = bl [32] from rfl, addO_bl (by simp only [List.length_cons, List.length_nil]; omega), bind_sm, getO_nat, hx, bind_sm, spec_l2Digits_eq _ (by omega), bind_sm, addO_bl (by simp only [List.length_append, List.length_cons, List.length_nil]; omega), bind_sm, w64_succ (by omega), ih (i + 1) _ (by omega) (by omega) (by simp only [List.length_append, List.length_cons, List.length_nil]; omega), if_neg (by omega), List.drop_eq_getElem_cons hi, List.map_cons, jt_cons]
        congr 2
        simp
      by_cases h0 : i = 0
      · subst h0
        rw [decide_eq_true (by omega), cond_true, show ByteArray.mk #[32, 115, 104, 111, 119] = bl [32, 115, 104, 111, 119] from rfl, addO_bl (by simp only [List.length_cons, List.length_nil]; omega), bind_sm]
        refine (go _ (by simp only [List.length_append, List.length_cons, List.length_nil]; omega)).trans ?_
        rw [if_pos rfl, List.drop_zero]
        unfold showW
        rw [if_neg hne, jt_cons]
        congr 2
        simp
      · rw [decide_eq_false (by omega), cond_false, if_neg h0]
        exact go _ (by omega)
    · rw [decide_eq_false (by omega), cond_false, List.drop_eq_nil_of_le (by omega)]
      have : (if i = 0 then showW q.Show else ([] : List Int).map Lib.itoa) = [] := by
        split
        · have : q.Show = [] := List.length_eq_zero_iff.1 (by omega)
          rw [this]; rfl
        · rfl
      rw [this, jt_nil, List.append_nil]
theorem sqt_order (q : Query) (Q : QRight q) (K : ByteArray → Option ByteArray) (t : List UInt8) (hl : t.length ≤ 3000) : (bif (decide (q.Order ≠ 0)) then ((addO (bl t) (ByteArray.mk #[32, 111, 114, 100, 101, 114, 32])).bind fun s35 => (spec_l2Digits.f (w64 (q.Order - 1))).bind fun r36 => (addO s35 r36).bind fun s37 => bif q.Down then ((addO s37 (ByteArray.mk #[32, 100, 111, 119, 110])).bind fun s39 => K s39) else K s37) else K (bl t)) = K (bl (t ++ jt (orderW q))) := by
  have ho := Q.o
  have e1 := itoa_len11 (n := q.Order - 1) (by omega)
  unfold orderW downW
  by_cases h : q.Order = 0
  · rw [decide_eq_false (by simp [h]), if_neg (by simp [h]), cond_false, jt_nil, List.append_nil]
  · rw [decide_eq_true h, if_pos h, cond_true, w64_id (by omega), show ByteArray.mk #[32, 111, 114, 100, 101, 114, 32] = bl [32, 111, 114, 100, 101, 114, 32] from rfl, addO_bl (by simp only [List.length_cons, List.length_nil]; omega), bind_sm, spec_l2Digits_eq _ (by omega), bind_sm, addO_bl (by simp only [List.length_append, List.length_cons, List.length_nil]; omega), bind_sm]
    cases hd : q.Down with
    | false => rw [cond_false, if_neg (by simp)]; congr 2; simp [jt_cons, jt_nil]
    | true =>
      rw [cond_true, show ByteArray.mk #[32, 100, 111, 119, 110] = bl [32, 100, 111, 119, 110] from rfl, addO_bl (by simp only [List.length_append, List.length_cons, List.length_nil]; omega), bind_sm, if_pos rfl]
      congr 2
      simp [jt_cons, jt_nil]
theorem sqt_first (q : Query) (Q : QRight q) (K : ByteArray → Option ByteArray) (t : List UInt8) (hl : t.length ≤ 4000) : (bif (decide (q.First ≠ 0)) then ((addO (bl t) (ByteArray.mk #[32, 102, 105, 114, 115, 116, 32])).bind fun s43 => (spec_l2Digits.f q.First).bind fun r44 => (addO s43 r44).bind fun s45 => K s45) else K (bl t)) = K (bl (t ++ jt (firstW q))) := by
  have hf := Q.f
  have e1 := itoa_len11 (n := q.First) (by omega)
  unfold firstW
  by_cases h : q.First = 0
  · rw [decide_eq_false (by simp [h]), if_neg (by simp [h]), cond_false, jt_nil, List.append_nil]
  · rw [decide_eq_true h, if_pos h, cond_true, show ByteArray.mk #[32, 102, 105, 114, 115, 116, 32] = bl [32, 102, 105, 114, 115, 116, 32] from rfl, addO_bl (by simp only [List.length_cons, List.length_nil]; omega), bind_sm, spec_l2Digits_eq _ (by omega), bind_sm, addO_bl (by simp only [List.length_append, List.length_cons, List.length_nil]; omega), bind_sm]
    congr 2
    simp [jt_cons, jt_nil]
theorem sqt_kids (q : Query) (Q : QRight q) (t : List UInt8) (hl : t.length ≤ 5000) : (bif q.Kids then ((addO (bl t) (ByteArray.mk #[32, 107, 105, 100, 115, 32])).bind fun s71 => (spec_l2Digits.f q.KidTable).bind fun r72 => (addO s71 r72).bind fun s73 => (addO s73 (ByteArray.mk #[32])).bind fun s74 => (spec_l2Digits.f q.KidCol).bind fun r75 => (addO s74 r75).bind fun s76 => some s76) else some (bl t)) = some (bl (t ++ jt (kidsW q))) := by
  have hk := Q.k
  have hkc := Q.kc
  have e1 := itoa_len11 (n := q.KidTable) (by omega)
  have e2 := itoa_len11 (n := q.KidCol) (by omega)
  unfold kidsW
  cases hK : q.Kids with
  | true =>
    rw [if_pos rfl, cond_true, show ByteArray.mk #[32, 107, 105, 100, 115, 32] = bl [32, 107, 105, 100, 115, 32] from rfl, show ByteArray.mk #[32] = bl [32] from rfl, addO_bl (by simp only [List.length_cons, List.length_nil]; omega), bind_sm, spec_l2Digits_eq _ (by omega), bind_sm, addO_bl (by simp only [List.length_append, List.length_cons, List.length_nil]; omega), bind_sm, addO_bl (by simp only [List.length_append, List.length_cons, List.length_nil]; omega), bind_sm, spec_l2Digits_eq _ (by omega), bind_sm, addO_bl (by simp only [List.length_append, List.length_cons, List.length_nil]; omega), bind_sm]
    congr 2
    simp [jt_cons, jt_nil]
  | false => rw [if_neg (by simp), cond_false, jt_nil, List.append_nil]
theorem spec_QueryText_eq (s : Schema) (q : Query) (hs : Schema_b s) (hb : Query_b q) : spec_QueryText.f s q = some (bl (if queryB s q = true then qtext q else [])) := by
  unfold spec_QueryText.f
  rw [spec_QueryOk_eq s q hs hb, bind_sm, bo3_not]
  by_cases hq : queryB s q = true
  · have Q := queryB_QR hq
    have ht := Q.t
    have hlq := len_qtext Q
    have hW := Q.w
    have hsl := Q.sl
    have e1 := itoa_len11 (n := q.Table) (by omega)
    rw [hq, if_pos rfl, Bool.not_true, cond_false, spec_l2Digits_eq _ (by omega), bind_sm, show ByteArray.mk #[102, 114, 111, 109, 32] = bl [102, 114, 111, 109, 32] from rfl, addO_bl (by simp only [List.length_cons, List.length_nil]; omega), bind_sm, joinK_eq, show (((lenI q.Where) - 0).toNat + 1) = q.Where.length + 1 by rw [lenI_eq]; omega]
    have e : qtext q = ((((([102, 114, 111, 109, 32] ++ Lib.itoa q.Table) ++ jt (whereW q.Where)) ++ jt (orderW q)) ++ jt (firstW q)) ++ jt (showW q.Show)) ++ jt (kidsW q) := by simp [qtext, restW, jt_cons, jt_app]
    have el := congrArg List.length e
    simp only [List.length_append] at el
    refine (sqt_l0 q _ Q.c Q.w _ 0 _ (by omega) (by omega) (by simp; omega)).trans ?_
    rw [List.drop_zero, joinK_eq]
    refine (sqt_order q Q _ _ (by simp only [List.length_append]; omega)).trans ?_
    rw [joinK_eq]
    refine (sqt_first q Q _ _ (by simp only [List.length_append]; omega)).trans ?_
    rw [joinK_eq, show (((lenI q.Show) - 0).toNat + 1) = q.Show.length + 1 by rw [lenI_eq]; omega]
    refine (sqt_l1 q _ Q.s Q.sl _ 0 _ (by omega) (by omega) (by simp only [List.length_append]; omega)).trans ?_
    rw [if_pos rfl]
    refine (sqt_kids q Q _ (by simp only [List.length_append]; omega)).trans ?_
    rw [← e]
  · rw [Bool.not_eq_true] at hq
    rw [hq, if_neg (by simp)]
    rfl

abbrev wFrom : List UInt8 := [102, 114, 111, 109]
abbrev wWhere : List UInt8 := [119, 104, 101, 114, 101]
abbrev wOrder : List UInt8 := [111, 114, 100, 101, 114]
abbrev wDown : List UInt8 := [100, 111, 119, 110]
abbrev wFirst : List UInt8 := [102, 105, 114, 115, 116]
abbrev wShow : List UInt8 := [115, 104, 111, 119]
abbrev wKids : List UInt8 := [107, 105, 100, 115]
abbrev KQ := Int → (List Cond) → Int → Bool → Int → (List Int) → Bool → Int → Int → Option (Query × Bool)
abbrev atQ (K : KQ) (q : Query) : Option (Query × Bool) := K q.Table q.Where q.Order q.Down q.First q.Show q.Kids q.KidTable q.KidCol
abbrev l0Q (t : List UInt8) (ws : List (List UInt8)) (K : KQ) (k : Nat) (q : Query) (i : Int) : Option (Query × Bool) := spec_QueryRead.l0 (bl t) (ws.map bl) K k q.Table q.Where q.Order q.Down q.First q.Show q.Kids q.KidTable q.KidCol i
/-- A turn at a word. -/
theorem qr_turn (t : List UInt8) (ht : t.length ≤ 400) (ws : List (List UInt8)) (K : KQ) (k i : Nat) (q : Query) {w : List UInt8} (hw : ws[i]? = some w) (hn : ws.length ≤ 1000) : l0Q t ws K (k + 1) q i =
    (bif decide (w = wFrom) then (spec_l10Arg.f (ws.map bl) ((i + 1 : Nat) : Int)).bind fun x => l0Q t ws K k { q with Table := x } ((i + 1 : Nat) : Int)
    else bif decide (w = wWhere) then (spec_l10Arg.f (ws.map bl) ((i + 1 : Nat) : Int)).bind fun x => (spec_l10Arg.f (ws.map bl) ((i + 3 : Nat) : Int)).bind fun y => spec_QueryRead.l1 (ws.map bl) (i : Int) (fun o => (some [(Cond.mk x o y)]).bind fun l => (appO 24 q.Where l).bind fun l' => l0Q t ws K k { q with Where := l' } ((i + 1 : Nat) : Int)) 5 0 1
    else bif decide (w = wOrder) then (spec_l10Arg.f (ws.map bl) ((i + 1 : Nat) : Int)).bind fun x => l0Q t ws K k { q with Order := w64 (x + 1) } ((i + 1 : Nat) : Int)
    else bif decide (w = wDown) then l0Q t ws K k { q with Down := true } ((i + 1 : Nat) : Int)
    else bif decide (w = wFirst) then (spec_l10Arg.f (ws.map bl) ((i + 1 : Nat) : Int)).bind fun x => l0Q t ws K k { q with First := x } ((i + 1 : Nat) : Int)
    else bif decide (w = wShow) then spec_QueryRead.l2 (ws.map bl) q.Table q.Where q.Order q.Down q.First q.Kids q.KidTable q.KidCol (fun y66 y67 y68 y69 y70 y71 y72 y73 y74 => spec_QueryRead.l0 (bl t) (ws.map bl) K k y66 y67 y68 y69 y70 y71 y72 y73 y74 ((i + 1 : Nat) : Int)) ((ws.length - (i + 1)) + 1) q.Show ((i + 1 : Nat) : Int)
    else bif decide (w = wKids) then (spec_l10Arg.f (ws.map bl) ((i + 1 : Nat) : Int)).bind fun x => (spec_l10Arg.f (ws.map bl) ((i + 2 : Nat) : Int)).bind fun y => l0Q t ws K k { q with Kids := true, KidTable := x, KidCol := y } ((i + 1 : Nat) : Int)
    else l0Q t ws K k q ((i + 1 : Nat) : Int)) := by
  have hi := at_lt hw
  have e1 : w64 ((i : Int) + 1) = ((i + 1 : Nat) : Int) := w64_succ (by omega)
  have e2 : w64 ((i : Int) + 2) = ((i + 2 : Nat) : Int) := by rw [w64_id (by omega)]; rfl
  have e3 : w64 ((i : Int) + 3) = ((i + 3 : Nat) : Int) := by rw [w64_id (by omega)]; rfl
  have hg : getO (ws.map bl) (i : Int) = some (bl w) := by rw [getO_nat, List.getElem?_map, hw]; rfl
  have hfl : ((lenI (ws.map bl)) - ((i + 1 : Nat) : Int)).toNat + 1 = (ws.length - (i + 1)) + 1 := by rw [lenI_eq, List.length_map]; omega
  show spec_QueryRead.l0 (bl t) (ws.map bl) K (k + 1) q.Table q.Where q.Order q.Down q.First q.Show q.Kids q.KidTable q.KidCol i = _
  rw [spec_QueryRead.l0, lenI_eq, List.length_map, decide_eq_true (by omega), sl_bl, decide_eq_true (by omega), show bo3 true true false = true from rfl, cond_true, joinK_eq, hg, bd, e1, e2, e3, ← List.length_map (f := bl), ← lenI_eq, hfl]
  rw [show ByteArray.mk #[102, 114, 111, 109] = bl wFrom from rfl, show ByteArray.mk #[119, 104, 101, 114, 101] = bl wWhere from rfl, show ByteArray.mk #[111, 114, 100, 101, 114] = bl wOrder from rfl, show ByteArray.mk #[100, 111, 119, 110] = bl wDown from rfl, show ByteArray.mk #[102, 105, 114, 115, 116] = bl wFirst from rfl, show ByteArray.mk #[115, 104, 111, 119] = bl wShow from rfl, show ByteArray.mk #[107, 105, 100, 115] = bl wKids from rfl]
  rw [show (((4 : Int) - 1).toNat + 2) = 5 from rfl]
  simp only [str_eq, joinK_eq]
  generalize decide (w = wFrom) = b1
  generalize decide (w = wWhere) = b2
  generalize decide (w = wOrder) = b3
  generalize decide (w = wDown) = b4
  generalize decide (w = wFirst) = b5
  generalize decide (w = wShow) = b6
  generalize decide (w = wKids) = b7
  cases b1 with
  | true => rw [cond_true, cond_true]
  | false =>
  rw [cond_false, cond_false]
  cases b2 with
  | true => rw [cond_true, cond_true]
  | false =>
  rw [cond_false, cond_false]
  cases b3 with
  | true => rw [cond_true, cond_true]
  | false =>
  rw [cond_false, cond_false]
  cases b4 with
  | true => rw [cond_true, cond_true]
  | false =>
  rw [cond_false, cond_false]
  cases b5 with
  | true => rw [cond_true, cond_true]
  | false =>
  rw [cond_false, cond_false]
  cases b6 with
  | true => rw [cond_true, cond_true, List.length_map]
  | false =>
  rw [cond_false, cond_false]
theorem qr_out (t : List UInt8) (ws : List (List UInt8)) (K : KQ) (k i : Nat) (q : Query) (h : ws.length ≤ i ∨ 400 < t.length) : l0Q t ws K (k + 1) q i = atQ K q := by
  show spec_QueryRead.l0 (bl t) (ws.map bl) K (k + 1) q.Table q.Where q.Order q.Down q.First q.Show q.Kids q.KidTable q.KidCol i = _
  rw [spec_QueryRead.l0, lenI_eq, List.length_map, sl_bl]
  have : bo3 (decide ((i : Int) < (ws.length : Int))) (decide ((t.length : Int) ≤ 400)) false = false := by
    rcases h with h | h
    · rw [decide_eq_false (by omega)]; rfl
    · rw [decide_eq_false (p := (t.length : Int) ≤ 400) (by omega)]; cases decide ((i : Int) < (ws.length : Int)) <;> rfl
  rw [this, cond_false]
theorem qr_l1_tot (ws : List (List UInt8)) (hn : ws.length ≤ 1000) (i : Nat) (hi : i < ws.length) (K : Int → Option (Query × Bool)) : ∀ (k : Nat) (o op : Int), 1 ≤ op → op ≤ 5 → 5 < op + k → ∃ o', spec_QueryRead.l1 (ws.map bl) (i : Int) K k o op = K o' := by
  intro k
  induction k with
  | zero => intro o op h1 h2 h3; omega
  | succ k ih =>
    intro o op h1 h2 h3
    rw [spec_QueryRead.l1, lenI_eq, List.length_map, w64_id (x := (i : Int) + 2) (by omega)]
    by_cases c1 : op ≤ 4
    · rw [decide_eq_true c1, show ∀ y, bo3 true y false = y from fun _ => rfl]
      by_cases c2 : (i : Int) + 2 < ws.length
      · have hx : getO (ws.map bl) ((i : Int) + 2) = some (bl (ws[i + 2]'(by omega))) := by
          rw [show (i : Int) + 2 = ((i + 2 : Nat) : Int) by omega, getO_nat, List.getElem?_map, List.getElem?_eq_getElem (by omega)]; rfl
        rw [decide_eq_true c2, cond_true, hx, bd, spec_l10Signs_eq, bd, sgn_at ⟨h1, c1⟩, bd, str_eq, w64_id (by omega)]
        obtain ⟨a, ea⟩ := ih op (op + 1) (by omega) (by omega) (by omega)
        obtain ⟨b, eb⟩ := ih o (op + 1) (by omega) (by omega) (by omega)
        cases decide (ws[i + 2]'(by omega) = sgn op) with
        | true => exact ⟨a, ea⟩
        | false => exact ⟨b, eb⟩
      · rw [decide_eq_false c2, cond_false]
        exact ⟨o, rfl⟩
    · rw [decide_eq_false c1, show ∀ y, bo3 false y false = false from fun _ => rfl, cond_false]
      exact ⟨o, rfl⟩
theorem qr_l2_tot (ws : List (List UInt8)) (hn : ws.length ≤ 1000) (hw : ∀ w ∈ ws, w.length ≤ 1048576) (a : Int) (b : List Cond) (c : Int) (d : Bool) (e : Int) (f : Bool) (g h : Int) (K : KQ) : ∀ (k p : Nat) (sh : List Int), p ≤ ws.length → ws.length < p + k → sh.length ≤ 1000000 + p → ∃ sh' : List Int, spec_QueryRead.l2 (ws.map bl) a b c d e f g h K k sh (p : Int) = K a b c d e sh' f g h ∧ sh'.length + p ≤ sh.length + ws.length := by
  intro k
  induction k with
  | zero => intro p sh h1 h2; omega
  | succ k ih =>
    intro p sh h1 h2 h3
    rw [spec_QueryRead.l2, lenI_eq, List.length_map]
    by_cases c1 : p < ws.length
    · have hx : getO (ws.map bl) (p : Int) = some (bl ws[p]) := by
        rw [getO_nat, List.getElem?_map, List.getElem?_eq_getElem c1]; rfl
      obtain ⟨x, ok, ex, _⟩ := spec_l10Num_tot ws[p] (hw _ (List.getElem_mem c1))
      rw [decide_eq_true (by omega), cond_true, hx, bd, ex, bd]
      cases ok with
      | false => exact ⟨sh, rfl, by omega⟩
      | true =>
        dsimp only
        rw [show bo3 true false true = false from rfl, cond_false, bd, appO_ok (by simp only [List.length_cons, List.length_nil]; omega), bd, w64_succ (by omega)]
        obtain ⟨sh', e1, l1⟩ := ih (p + 1) (sh ++ [x]) (by omega) (by omega) (by rw [List.length_append, List.length_singleton]; omega)
        exact ⟨sh', e1, by rw [List.length_append, List.length_singleton] at l1; omega⟩
    · rw [decide_eq_false (by omega), cond_false]
      exact ⟨sh, rfl, by omega⟩
theorem qr_tot (t : List UInt8) (ws : List (List UInt8)) (hn : t.length ≤ 400 → ws.length ≤ 500) (hw : ∀ w ∈ ws, w.length ≤ 1048576) (K : KQ) : ∀ (k i : Nat) (q : Query), i ≤ ws.length → ws.length < i + k → q.Where.length ≤ i → q.Show.length ≤ i * 500 → ∃ q', l0Q t ws K k q i = atQ K q' ∧ q'.Where.length ≤ ws.length ∧ q'.Show.length ≤ ws.length * 500 := by
  intro k
  induction k with
  | zero => intro i q h1 h2; omega
  | succ k ih =>
    intro i q h1 h2 h3 h4
    by_cases c1 : i < ws.length ∧ t.length ≤ 400
    · have h5 := hn c1.2
      have hx := List.getElem?_eq_getElem c1.1
      rw [qr_turn t c1.2 ws K k i q hx (by omega)]
      obtain ⟨x1, e1⟩ := spec_l10Arg_tot ws hw (i + 1)
      obtain ⟨x2, e2⟩ := spec_l10Arg_tot ws hw (i + 2)
      obtain ⟨x3, e3⟩ := spec_l10Arg_tot ws hw (i + 3)
      rw [e1, e2, e3]
      have go : ∀ q2 : Query, q2.Where.length ≤ q.Where.length + 1 → q2.Show.length ≤ q.Show.length + 500 → ∃ q', l0Q t ws K k q2 ((i + 1 : Nat) : Int) = atQ K q' ∧ q'.Where.length ≤ ws.length ∧ q'.Show.length ≤ ws.length * 500 := fun q2 g1 g2 => ih (i + 1) q2 (by omega) (by omega) (by omega) (by omega)
      generalize ws[i] = w
      cases decide (w = wFrom) with
      | true => rw [cond_true, bd]; exact go _ (by dsimp only; omega) (by dsimp only; omega)
      | false =>
      rw [cond_false]
      cases decide (w = wWhere) with
      | true =>
        rw [cond_true, bd, bd]
        obtain ⟨o, eo⟩ := qr_l1_tot ws (by omega) i c1.1 (fun o => (some [(Cond.mk x1 o x3)]).bind fun l => (appO 24 q.Where l).bind fun l' => l0Q t ws K k { q with Where := l' } ((i + 1 : Nat) : Int)) 5 0 1 (by omega) (by omega) (by omega)
        rw [eo, bd, appO_ok (by simp only [List.length_cons, List.length_nil]; omega), bd]
        exact go _ (by simp) (by dsimp only; omega)
      | false =>
      rw [cond_false]
      cases decide (w = wOrder) with
      | true => rw [cond_true, bd]; exact go _ (by dsimp only; omega) (by dsimp only; omega)
      | false =>
      rw [cond_false]
      cases decide (w = wDown) with
      | true => rw [cond_true]; exact go _ (by dsimp only; omega) (by dsimp only; omega)
      | false =>
      rw [cond_false]
      cases decide (w = wFirst) with
      | true => rw [cond_true, bd]; exact go _ (by dsimp only; omega) (by dsimp only; omega)
      | false =>
      rw [cond_false]
      cases decide (w = wShow) with
      | true =>
        rw [cond_true]
        obtain ⟨sh, es, ls⟩ := qr_l2_tot ws (by omega) hw q.Table q.Where q.Order q.Down q.First q.Kids q.KidTable q.KidCol (fun y66 y67 y68 y69 y70 y71 y72 y73 y74 => spec_QueryRead.l0 (bl t) (ws.map bl) K k y66 y67 y68 y69 y70 y71 y72 y73 y74 ((i + 1 : Nat) : Int)) ((ws.length - (i + 1)) + 1) (i + 1) q.Show (by omega) (by omega) (by omega)
        rw [es]
        exact go { q with Show := sh } (by dsimp only; omega) (by dsimp only; omega)
      | false =>
      rw [cond_false]
      cases decide (w = wKids) with
      | true => rw [cond_true, bd, bd]; exact go _ (by dsimp only; omega) (by dsimp only; omega)
      | false => rw [cond_false]; exact go _ (by omega) (by omega)
    · refine ⟨q, qr_out t ws K k i q ?_, by omega, ?_⟩
      · by_cases c2 : i < ws.length
        · exact .inr (by have := fun h => c1 ⟨c2, h⟩; omega)
        · exact .inl (by omega)
      · exact Nat.le_trans h4 (Nat.mul_le_mul_right _ h1)
/-! what a right question's words give -/
theorem at_drop {α : Type} {l : List α} {i : Nat} {a : α} {r : List α} (h : l.drop i = a :: r) : l[i]? = some a ∧ l.drop (i + 1) = r := by
  constructor
  · have := congrArg (fun l => l[0]?) h
    simpa [List.getElem?_drop] using this
  · rw [← List.drop_drop, h]; rfl
def isKey (w : List UInt8) : Bool := decide (w = wFrom) || decide (w = wWhere) || decide (w = wOrder) || decide (w = wDown) || decide (w = wFirst) || decide (w = wShow) || decide (w = wKids)
theorem key_itoa (n : Int) : isKey (Lib.itoa n) = false := by
  cases h : isKey (Lib.itoa n) with
  | false => rfl
  | true =>
    exfalso
    unfold isKey at h
    simp only [Bool.or_eq_true, decide_eq_true_eq] at h
    have hm : ∀ (c : UInt8) (r : List UInt8), Lib.itoa n = c :: r → 90 ≤ c.toNat → False := by
      intro c r e hc
      have := itoa_mem (n := n) (c := c) (by rw [e]; simp)
      omega
    rcases h with (((((h | h) | h) | h) | h) | h) | h <;> exact hm _ _ h (by decide)
theorem key_sgn (o : Int) : isKey (sgn o) = false := by unfold sgn; (repeat' split) <;> rfl
theorem qr_other (t : List UInt8) (ht : t.length ≤ 400) (ws : List (List UInt8)) (hn : ws.length ≤ 1000) (K : KQ) (k i : Nat) (q : Query) {w : List UInt8} (hw : ws[i]? = some w) (h : isKey w = false) : l0Q t ws K (k + 1) q i = l0Q t ws K k q ((i + 1 : Nat) : Int) := by
  unfold isKey at h
  simp only [Bool.or_eq_false_iff] at h
  obtain ⟨⟨⟨⟨⟨⟨h1, h2⟩, h3⟩, h4⟩, h5⟩, h6⟩, h7⟩ := h
  rw [qr_turn t ht ws K k i q hw hn, h1, h2, h3, h4, h5, h6, h7]
  simp only [cond_false]
theorem qr_where (t : List UInt8) (ht : t.length ≤ 400) (ws : List (List UInt8)) (hn : ws.length ≤ 1000) (K : KQ) (k i : Nat) (q : Query) (c : Cond) (hc : (0 ≤ c.Col ∧ c.Col ≤ 3) ∧ (1 ≤ c.Op ∧ c.Op ≤ 4) ∧ (-1000000000 ≤ c.V ∧ c.V ≤ 1000000000)) (rest : List (List UInt8)) (hd : ws.drop i = wWhere :: Lib.itoa c.Col :: sgn c.Op :: Lib.itoa c.V :: rest) (hq : q.Where.length ≤ 1000) : l0Q t ws K (k + 4) q i = l0Q t ws K k { q with Where := q.Where ++ [c] } ((i + 4 : Nat) : Int) ∧ ws.drop (i + 4) = rest := by
  obtain ⟨a0, d1⟩ := at_drop hd
  obtain ⟨a1, d2⟩ := at_drop d1
  obtain ⟨a2, d3⟩ := at_drop d2
  obtain ⟨a3, d4⟩ := at_drop d3
  refine ⟨?_, d4⟩
  rw [show k + 4 = (k + 3) + 1 from rfl, qr_turn t ht ws K (k + 3) i q a0 hn, show decide (wWhere = wFrom) = false from rfl, cond_false, decide_eq_true rfl, cond_true, spec_l10Arg_itoa (by omega) a1, bd, spec_l10Arg_itoa (i := i + 3) (by omega) a3, bd]
  have hl1 : ∀ K1 : Int → Option (Query × Bool), spec_QueryRead.l1 (ws.map bl) (i : Int) K1 5 0 1 = K1 c.Op := by
    intro K1
    have hi := at_lt a3
    have step : ∀ (k o op : Int) (m : Nat), 1 ≤ op → op ≤ 4 → spec_QueryRead.l1 (ws.map bl) (i : Int) K1 (m + 1) o op = spec_QueryRead.l1 (ws.map bl) (i : Int) K1 m (bif decide (sgn c.Op = sgn op) then op else o) (op + 1) := by
      intro _ o op m h1 h2
      have hx : getO (ws.map bl) ((i : Int) + 2) = some (bl (sgn c.Op)) := by
        rw [show (i : Int) + 2 = ((i + 2 : Nat) : Int) by omega, getO_nat, List.getElem?_map, show ws[i + 2]? = _ from a2]; rfl
      rw [spec_QueryRead.l1, lenI_eq, List.length_map, w64_id (x := (i : Int) + 2) (by omega), decide_eq_true h2, decide_eq_true (by omega), show bo3 true true false = true from rfl, cond_true, hx, bd, spec_l10Signs_eq, bd, sgn_at ⟨h1, h2⟩, bd, str_eq, w64_id (by omega)]
      cases decide (sgn c.Op = sgn op) <;> rfl
    have last : ∀ o : Int, spec_QueryRead.l1 (ws.map bl) (i : Int) K1 1 o 5 = K1 o := by
      intro o
      rw [spec_QueryRead.l1, decide_eq_false (by omega), show ∀ y, bo3 false y false = false from fun _ => rfl, cond_false]
    rw [step 0 0 1 4 (by omega) (by omega), step 0 _ (1 + 1) 3 (by omega) (by omega), step 0 _ (1 + 1 + 1) 2 (by omega) (by omega), step 0 _ (1 + 1 + 1 + 1) 1 (by omega) (by omega)]
    refine (last _).trans ?_
    have ho : c.Op = 1 ∨ c.Op = 2 ∨ c.Op = 3 ∨ c.Op = 4 := by omega
    rcases ho with ho | ho | ho | ho <;> rw [ho] <;> rfl
  rw [hl1, bd, appO_ok (by simp only [List.length_cons, List.length_nil]; omega), bd, qr_other t ht ws hn K (k + 2) (i + 1) _ a1 (key_itoa _), qr_other t ht ws hn K (k + 1) (i + 2) _ a2 (key_sgn _), qr_other t ht ws hn K k (i + 3) _ a3 (key_itoa _)]
theorem qr_wheres (t : List UInt8) (ht : t.length ≤ 400) (ws : List (List UInt8)) (hn : ws.length ≤ 1000) (K : KQ) : ∀ (l : List Cond) (k i : Nat) (q : Query) (rest : List (List UInt8)), (∀ c ∈ l, (0 ≤ c.Col ∧ c.Col ≤ 3) ∧ (1 ≤ c.Op ∧ c.Op ≤ 4) ∧ (-1000000000 ≤ c.V ∧ c.V ≤ 1000000000)) → ws.drop i = whereW l ++ rest → q.Where.length + l.length ≤ 1000 → l0Q t ws K (k + 4 * l.length) q i = l0Q t ws K k { q with Where := q.Where ++ l } ((i + 4 * l.length : Nat) : Int) ∧ ws.drop (i + 4 * l.length) = rest := by
  intro l
  induction l with
  | nil => intro k i q rest _ hd _; exact ⟨by rw [List.append_nil]; rfl, hd⟩
  | cons c l ih =>
    intro k i q rest hc hd hq
    simp only [List.length_cons] at hq
    obtain ⟨e1, d1⟩ := qr_where t ht ws hn K (k + 4 * l.length) i q c (hc c (by simp)) (whereW l ++ rest) hd (by omega)
    obtain ⟨e2, d2⟩ := ih k (i + 4) { q with Where := q.Where ++ [c] } rest (fun c h => hc c (by simp [h])) d1 (by rw [List.length_append, List.length_singleton]; omega)
    rw [show k + 4 * (c :: l).length = k + 4 * l.length + 4 by rw [List.length_cons]; omega, show i + 4 * (c :: l).length = i + 4 + 4 * l.length by rw [List.length_cons]; omega]
    refine ⟨e1.trans (e2.trans ?_), d2⟩
    rw [List.append_assoc]; rfl
theorem qr_from (t : List UInt8) (ht : t.length ≤ 400) (ws : List (List UInt8)) (hn : ws.length ≤ 1000) (K : KQ) (k i : Nat) (q : Query) (n : Int) (h : -1000000000 ≤ n ∧ n ≤ 1000000000) (rest : List (List UInt8)) (hd : ws.drop i = wFrom :: Lib.itoa n :: rest) : l0Q t ws K (k + 2) q i = l0Q t ws K k { q with Table := n } ((i + 2 : Nat) : Int) ∧ ws.drop (i + 2) = rest := by
  obtain ⟨a0, d1⟩ := at_drop hd
  obtain ⟨a1, d2⟩ := at_drop d1
  refine ⟨?_, d2⟩
  rw [show k + 2 = (k + 1) + 1 from rfl, qr_turn t ht ws K (k + 1) i q a0 hn, decide_eq_true rfl, cond_true, spec_l10Arg_itoa h a1, bd, qr_other t ht ws hn K k (i + 1) _ a1 (key_itoa _)]
theorem qr_first (t : List UInt8) (ht : t.length ≤ 400) (ws : List (List UInt8)) (hn : ws.length ≤ 1000) (K : KQ) (k i : Nat) (q : Query) (n : Int) (h : -1000000000 ≤ n ∧ n ≤ 1000000000) (rest : List (List UInt8)) (hd : ws.drop i = wFirst :: Lib.itoa n :: rest) : l0Q t ws K (k + 2) q i = l0Q t ws K k { q with First := n } ((i + 2 : Nat) : Int) ∧ ws.drop (i + 2) = rest := by
  obtain ⟨a0, d1⟩ := at_drop hd
  obtain ⟨a1, d2⟩ := at_drop d1
  refine ⟨?_, d2⟩
  rw [show k + 2 = (k + 1) + 1 from rfl, qr_turn t ht ws K (k + 1) i q a0 hn, show decide (wFirst = wFrom) = false from rfl, cond_false, show decide (wFirst = wWhere) = false from rfl, cond_false, show decide (wFirst = wOrder) = false from rfl, cond_false, show decide (wFirst = wDown) = false from rfl, cond_false, decide_eq_true rfl, cond_true, spec_l10Arg_itoa h a1, bd, qr_other t ht ws hn K k (i + 1) _ a1 (key_itoa _)]
theorem qr_order (t : List UInt8) (ht : t.length ≤ 400) (ws : List (List UInt8)) (hn : ws.length ≤ 1000) (K : KQ) (k i : Nat) (q : Query) (n : Int) (h : -1000000000 ≤ n ∧ n ≤ 1000000000) (rest : List (List UInt8)) (hd : ws.drop i = wOrder :: Lib.itoa n :: rest) : l0Q t ws K (k + 2) q i = l0Q t ws K k { q with Order := n + 1 } ((i + 2 : Nat) : Int) ∧ ws.drop (i + 2) = rest := by
  obtain ⟨a0, d1⟩ := at_drop hd
  obtain ⟨a1, d2⟩ := at_drop d1
  refine ⟨?_, d2⟩
  rw [show k + 2 = (k + 1) + 1 from rfl, qr_turn t ht ws K (k + 1) i q a0 hn, show decide (wOrder = wFrom) = false from rfl, cond_false, show decide (wOrder = wWhere) = false from rfl, cond_false, decide_eq_true rfl, cond_true, spec_l10Arg_itoa h a1, bd, w64_id (by omega), qr_other t ht ws hn K k (i + 1) _ a1 (key_itoa _)]
theorem qr_down (t : List UInt8) (ht : t.length ≤ 400) (ws : List (List UInt8)) (hn : ws.length ≤ 1000) (K : KQ) (k i : Nat) (q : Query) (rest : List (List UInt8)) (hd : ws.drop i = wDown :: rest) : l0Q t ws K (k + 1) q i = l0Q t ws K k { q with Down := true } ((i + 1 : Nat) : Int) ∧ ws.drop (i + 1) = rest := by
  obtain ⟨a0, d1⟩ := at_drop hd
  refine ⟨?_, d1⟩
  rw [qr_turn t ht ws K k i q a0 hn, show decide (wDown = wFrom) = false from rfl, cond_false, show decide (wDown = wWhere) = false from rfl, cond_false, show decide (wDown = wOrder) = false from rfl, cond_false, decide_eq_true rfl, cond_true]
theorem qr_kids (t : List UInt8) (ht : t.length ≤ 400) (ws : List (List UInt8)) (hn : ws.length ≤ 1000) (K : KQ) (k i : Nat) (q : Query) (n m : Int) (h : -1000000000 ≤ n ∧ n ≤ 1000000000) (h' : -1000000000 ≤ m ∧ m ≤ 1000000000) (hd : ws.drop i = [wKids, Lib.itoa n, Lib.itoa m]) : l0Q t ws K (k + 3) q i = l0Q t ws K k { q with Kids := true, KidTable := n, KidCol := m } ((i + 3 : Nat) : Int) := by
  obtain ⟨a0, d1⟩ := at_drop hd
  obtain ⟨a1, d2⟩ := at_drop d1
  obtain ⟨a2, d3⟩ := at_drop d2
  rw [show k + 3 = (k + 2) + 1 from rfl, qr_turn t ht ws K (k + 2) i q a0 hn, show decide (wKids = wFrom) = false from rfl, cond_false, show decide (wKids = wWhere) = false from rfl, cond_false, show decide (wKids = wOrder) = false from rfl, cond_false, show decide (wKids = wDown) = false from rfl, cond_false, show decide (wKids = wFirst) = false from rfl, cond_false, show decide (wKids = wShow) = false from rfl, cond_false, decide_eq_true rfl, cond_true, spec_l10Arg_itoa h a1, bd, spec_l10Arg_itoa (i := i + 2) h' a2, bd, qr_other t ht ws hn K (k + 1) (i + 1) _ a1 (key_itoa _), qr_other t ht ws hn K k (i + 2) _ a2 (key_itoa _)]
theorem qr_nums (t : List UInt8) (ht : t.length ≤ 400) (ws : List (List UInt8)) (hn : ws.length ≤ 1000) (K : KQ) : ∀ (l : List Int) (k i : Nat) (q : Query) (rest : List (List UInt8)), ws.drop i = l.map Lib.itoa ++ rest → l0Q t ws K (k + l.length) q i = l0Q t ws K k q ((i + l.length : Nat) : Int) ∧ ws.drop (i + l.length) = rest := by
  intro l
  induction l with
  | nil => intro k i q rest hd; exact ⟨rfl, hd⟩
  | cons x l ih =>
    intro k i q rest hd
    obtain ⟨a0, d1⟩ := at_drop hd
    obtain ⟨e2, d2⟩ := ih k (i + 1) q rest d1
    rw [show k + (x :: l).length = k + l.length + 1 by rw [List.length_cons]; omega, show i + (x :: l).length = i + 1 + l.length by rw [List.length_cons]; omega, qr_other t ht ws hn K _ i q a0 (key_itoa _)]
    exact ⟨e2, d2⟩
theorem qr_l2 (ws : List (List UInt8)) (hn : ws.length ≤ 1000) (a : Int) (b : List Cond) (c : Int) (d : Bool) (e : Int) (f : Bool) (g h : Int) (K : KQ) (rest : List (List UInt8)) (hr : rest = [] ∨ ∃ r, rest = wKids :: r) : ∀ (l : List Int) (k p : Nat) (sh : List Int), (∀ x ∈ l, 0 ≤ x ∧ x ≤ 3) → ws.drop p = l.map Lib.itoa ++ rest → p ≤ ws.length → l.length < k → sh.length + l.length ≤ 1000 → spec_QueryRead.l2 (ws.map bl) a b c d e f g h K k sh (p : Int) = K a b c d e (sh ++ l) f g h := by
  intro l
  induction l with
  | nil =>
    intro k p sh _ hd hp hk _
    cases k with
    | zero => simp at hk
    | succ k =>
      rw [spec_QueryRead.l2, lenI_eq, List.length_map, List.append_nil]
      rcases hr with rfl | ⟨r, rfl⟩
      · have : ws.length ≤ p := by
          have := congrArg List.length hd
          simp only [List.length_drop, List.map_nil, List.nil_append, List.length_nil] at this
          omega
        rw [decide_eq_false (by omega), cond_false]
      · obtain ⟨a0, _⟩ := at_drop hd
        have := at_lt a0
        have hx : getO (ws.map bl) (p : Int) = some (bl wKids) := by rw [getO_nat, List.getElem?_map, a0]; rfl
        obtain ⟨x, ex⟩ := spec_l10Num_kids
        rw [decide_eq_true (by omega), cond_true, hx, bd, show spec_l10Num.f (bl wKids) = some (x, false) from ex, bd]
        rfl
  | cons x l ih =>
    intro k p sh hx hd hp hk hs
    cases k with
    | zero => simp at hk
    | succ k =>
      simp only [List.length_cons] at hk hs
      obtain ⟨a0, d1⟩ := at_drop hd
      have hlt := at_lt a0
      have hxx := hx x (by simp)
      have hg : getO (ws.map bl) (p : Int) = some (bl (Lib.itoa x)) := by rw [getO_nat, List.getElem?_map, a0]; rfl
      rw [spec_QueryRead.l2, lenI_eq, List.length_map, decide_eq_true (by omega), cond_true, hg, bd, spec_l10Num_itoa (by omega), bd]
      dsimp only
      rw [show bo3 true false true = false from rfl, cond_false, bd, appO_ok (by simp only [List.length_cons, List.length_nil]; omega), bd, w64_succ (by omega), ih k (p + 1) (sh ++ [x]) (fun x h => hx x (by simp [h])) d1 (by omega) (by omega) (by rw [List.length_append, List.length_singleton]; omega), List.append_assoc]
      rfl
theorem qr_show (t : List UInt8) (ht : t.length ≤ 400) (ws : List (List UInt8)) (hn : ws.length ≤ 1000) (K : KQ) (k i : Nat) (q : Query) (l : List Int) (hl : ∀ x ∈ l, 0 ≤ x ∧ x ≤ 3) (rest : List (List UInt8)) (hr : rest = [] ∨ ∃ r, rest = wKids :: r) (hd : ws.drop i = wShow :: (l.map Lib.itoa ++ rest)) (hq : q.Show.length + l.length ≤ 1000) : l0Q t ws K (k + l.length + 1) q i = l0Q t ws K k { q with Show := q.Show ++ l } ((i + 1 + l.length : Nat) : Int) ∧ ws.drop (i + 1 + l.length) = rest := by
  obtain ⟨a0, d1⟩ := at_drop hd
  have hlt := at_lt a0
  have hll : l.length ≤ ws.length - (i + 1) := by
    have := congrArg List.length d1
    simp only [List.length_drop, List.length_append, List.length_map] at this
    omega
  rw [qr_turn t ht ws K (k + l.length) i q a0 hn, show decide (wShow = wFrom) = false from rfl, cond_false, show decide (wShow = wWhere) = false from rfl, cond_false, show decide (wShow = wOrder) = false from rfl, cond_false, show decide (wShow = wDown) = false from rfl, cond_false, show decide (wShow = wFirst) = false from rfl, cond_false, decide_eq_true rfl, cond_true,
    qr_l2 ws hn q.Table q.Where q.Order q.Down q.First q.Kids q.KidTable q.KidCol _ rest hr l _ (i + 1) q.Show hl d1 (by omega) (by omega) hq]
  exact qr_nums t ht ws hn K l k (i + 1) { q with Show := q.Show ++ l } rest d1
theorem spec_right {q : Query} (Q : QRight q) (K : KQ) : l0Q (qtext q) (qwords q) K ((qwords q).length + 1) noQ 0 = atQ K q := by
  have ht := len_qtext Q
  have hT := Q.t
  have hO := Q.o
  have hF := Q.f
  have hK := Q.k
  have hKc := Q.kc
  have hW := Q.w
  have hS := Q.sl
  have wl := (jt_where Q.c).2
  have hlen : (qwords q).length = 2 + (4 * q.Where.length + ((orderW q).length + ((firstW q).length + ((showW q.Show).length + (kidsW q).length)))) := by
    unfold qwords restW
    simp only [List.length_cons, List.length_append, wl]
    omega
  have l1 : (orderW q).length ≤ 3 := by unfold orderW downW; (repeat' split) <;> simp
  have l2 : (firstW q).length ≤ 2 := by unfold firstW; split <;> simp
  have l3 : (showW q.Show).length ≤ 5 := by unfold showW; split <;> simp <;> omega
  have l4 : (kidsW q).length ≤ 3 := by unfold kidsW; split <;> simp
  have hn : (qwords q).length ≤ 1000 := by omega
  have ht' : (qtext q).length ≤ 400 := by omega
  rw [hlen, show 2 + (4 * q.Where.length + ((orderW q).length + ((firstW q).length + ((showW q.Show).length + (kidsW q).length)))) + 1 = (1 + (kidsW q).length + (showW q.Show).length + (firstW q).length + (orderW q).length + 4 * q.Where.length) + 2 by omega]
  have hd0 : (qwords q).drop 0 = wFrom :: Lib.itoa q.Table :: (whereW q.Where ++ (orderW q ++ (firstW q ++ (showW q.Show ++ kidsW q)))) := rfl
  clear hlen
  generalize qwords q = ws at *
  generalize qtext q = t at *
  obtain ⟨e1, d1⟩ := qr_from t ht' ws hn K (1 + (kidsW q).length + (showW q.Show).length + (firstW q).length + (orderW q).length + 4 * q.Where.length) 0 noQ q.Table (by omega) _ hd0
  refine e1.trans ?_
  obtain ⟨e2, d2⟩ := qr_wheres t ht' ws hn K q.Where (1 + (kidsW q).length + (showW q.Show).length + (firstW q).length + (orderW q).length) 2 { noQ with Table := q.Table } _ Q.c d1 (by show 0 + _ ≤ _; omega)
  refine e2.trans ?_
  generalize 2 + 4 * q.Where.length = i2 at *
  -- the order
  have s3 : l0Q t ws K (1 + (kidsW q).length + (showW q.Show).length + (firstW q).length + (orderW q).length) ⟨q.Table, q.Where, 0, false, 0, [], false, 0, 0⟩ (i2 : Int) = l0Q t ws K (1 + (kidsW q).length + (showW q.Show).length + (firstW q).length) ⟨q.Table, q.Where, q.Order, q.Down, 0, [], false, 0, 0⟩ ((i2 + (orderW q).length : Nat) : Int) ∧ ws.drop (i2 + (orderW q).length) = firstW q ++ (showW q.Show ++ kidsW q) := by
    by_cases h : q.Order = 0
    · have hd : q.Down = false := by
        cases h' : q.Down with
        | false => rfl
        | true => have := Q.d h'; omega
      have eo : orderW q = [] := if_neg (by simp [h])
      rw [eo] at d2 ⊢
      rw [h, hd]
      exact ⟨rfl, d2⟩
    · cases hdn : q.Down with
      | false =>
        have eo : orderW q = [wOrder, Lib.itoa (q.Order - 1)] := by unfold orderW downW; rw [if_pos h, hdn]; rfl
        rw [eo] at d2 ⊢
        have := qr_order t ht' ws hn K (1 + (kidsW q).length + (showW q.Show).length + (firstW q).length) i2 ⟨q.Table, q.Where, 0, false, 0, [], false, 0, 0⟩ (q.Order - 1) (by omega) _ d2
        rw [show q.Order - 1 + 1 = q.Order by omega] at this
        exact this
      | true =>
        have eo : orderW q = [wOrder, Lib.itoa (q.Order - 1), wDown] := by unfold orderW downW; rw [if_pos h, hdn]; rfl
        rw [eo] at d2 ⊢
        have := qr_order t ht' ws hn K (1 + (kidsW q).length + (showW q.Show).length + (firstW q).length + 1) i2 ⟨q.Table, q.Where, 0, false, 0, [], false, 0, 0⟩ (q.Order - 1) (by omega) _ d2
        rw [show q.Order - 1 + 1 = q.Order by omega] at this
        obtain ⟨f1, g1⟩ := this
        obtain ⟨f2, g2⟩ := qr_down t ht' ws hn K (1 + (kidsW q).length + (showW q.Show).length + (firstW q).length) (i2 + 2) ⟨q.Table, q.Where, q.Order, false, 0, [], false, 0, 0⟩ _ g1
        exact ⟨f1.trans f2, g2⟩
  refine Eq.trans s3.1 ?_
  have d3 := s3.2
  generalize i2 + (orderW q).length = i3 at *
  have s4 : l0Q t ws K (1 + (kidsW q).length + (showW q.Show).length + (firstW q).length) ⟨q.Table, q.Where, q.Order, q.Down, 0, [], false, 0, 0⟩ (i3 : Int) = l0Q t ws K (1 + (kidsW q).length + (showW q.Show).length) ⟨q.Table, q.Where, q.Order, q.Down, q.First, [], false, 0, 0⟩ ((i3 + (firstW q).length : Nat) : Int) ∧ ws.drop (i3 + (firstW q).length) = showW q.Show ++ kidsW q := by
    by_cases h : q.First = 0
    · have eo : firstW q = [] := if_neg (by simp [h])
      rw [eo] at d3 ⊢
      rw [h]
      exact ⟨rfl, d3⟩
    · have eo : firstW q = [wFirst, Lib.itoa q.First] := if_pos h
      rw [eo] at d3 ⊢
      exact qr_first t ht' ws hn K (1 + (kidsW q).length + (showW q.Show).length) i3 ⟨q.Table, q.Where, q.Order, q.Down, 0, [], false, 0, 0⟩ q.First (by omega) _ d3
  refine Eq.trans s4.1 ?_
  have d4 := s4.2
  generalize i3 + (firstW q).length = i4 at *
  have hr : kidsW q = [] ∨ ∃ r, kidsW q = wKids :: r := by
    unfold kidsW
    split
    · exact .inr ⟨_, rfl⟩
    · exact .inl rfl
  have s5 : l0Q t ws K (1 + (kidsW q).length + (showW q.Show).length) ⟨q.Table, q.Where, q.Order, q.Down, q.First, [], false, 0, 0⟩ (i4 : Int) = l0Q t ws K (1 + (kidsW q).length) ⟨q.Table, q.Where, q.Order, q.Down, q.First, q.Show, false, 0, 0⟩ ((i4 + (showW q.Show).length : Nat) : Int) ∧ ws.drop (i4 + (showW q.Show).length) = kidsW q := by
    by_cases h : q.Show = []
    · have eo : showW q.Show = [] := if_pos h
      rw [eo] at d4 ⊢
      rw [h]
      exact ⟨rfl, d4⟩
    · have eo : showW q.Show = wShow :: q.Show.map Lib.itoa := if_neg h
      rw [eo] at d4 ⊢
      have := qr_show t ht' ws hn K (1 + (kidsW q).length) i4 ⟨q.Table, q.Where, q.Order, q.Down, q.First, [], false, 0, 0⟩ q.Show Q.s _ hr d4 (by show 0 + _ ≤ _; omega)
      rw [show (wShow :: q.Show.map Lib.itoa).length = q.Show.length + 1 by simp, show i4 + (q.Show.length + 1) = i4 + 1 + q.Show.length by omega]
      exact this
  refine Eq.trans s5.1 ?_
  have d5 := s5.2
  generalize i4 + (showW q.Show).length = i5 at *
  cases hk : q.Kids with
  | true =>
    have eo : kidsW q = [wKids, Lib.itoa q.KidTable, Lib.itoa q.KidCol] := by unfold kidsW; rw [hk]; rfl
    rw [eo] at d5 ⊢
    refine (qr_kids t ht' ws hn K 1 i5 ⟨q.Table, q.Where, q.Order, q.Down, q.First, q.Show, false, 0, 0⟩ q.KidTable q.KidCol (by omega) (by omega) d5).trans ?_
    refine (qr_out t ws K 0 (i5 + 3) _ (.inl ?_)).trans ?_
    · have := congrArg List.length d5
      simp only [List.length_drop, List.length_cons, List.length_nil] at this
      omega
    · show K q.Table q.Where q.Order q.Down q.First q.Show true q.KidTable q.KidCol = atQ K q
      unfold atQ; rw [hk]
  | false =>
    obtain ⟨k1, k2⟩ := Q.k0 hk
    have eo : kidsW q = [] := by unfold kidsW; rw [hk]; rfl
    rw [eo] at d5 ⊢
    refine (qr_out t ws K 0 i5 _ (.inl ?_)).trans ?_
    · have := congrArg List.length d5
      simp only [List.length_drop, List.length_nil] at this
      omega
    · show K q.Table q.Where q.Order q.Down q.First q.Show false 0 0 = atQ K q
      unfold atQ; rw [hk, k1, k2]
theorem qtext_ne (q : Query) : qtext q ≠ [] := by unfold qtext; simp
theorem spec_QueryRead_eq (s : Schema) (t : List UInt8) (hs : Schema_b s) (ht : t.length ≤ 1048576) : spec_QueryRead.f s (bl t) = some (readF s t) := by
  unfold spec_QueryRead.f
  rw [spec_l10Words_eq t ht, bd, joinK_eq, show ((lenI ((words t).map bl)) - 0).toNat + 1 = (words t).length + 1 by rw [lenI_eq, List.length_map]; omega]
  obtain ⟨hw1, hw2⟩ := words_len t
  by_cases h : ∃ q, queryB s q = true ∧ qtext q = t
  · obtain ⟨q, e, hq, rfl⟩ := readF_yes h
    have Q := queryB_QR hq
    have hb : Query_b q := QB_of (by have := Q.w; omega) (by have := Q.sl; omega)
    rw [words_qtext]
    refine (spec_right Q _).trans ?_
    show ((gd (bo3 (Ls.sc .eql (bl (qtext q)) (bl [])) false true) (spec_QueryText.f s q)).bind _) = _
    rw [str_eq, decide_eq_false (qtext_ne q), show bo3 false false true = true from rfl, gd_true, spec_QueryText_eq s q hs hb, bd, hq, if_pos rfl, show ByteArray.mk #[] = bl [] from rfl, str_eq, decide_eq_false (qtext_ne q), str_ne, decide_eq_true rfl, e]
    rfl
  · have hn : t.length ≤ 400 → (words t).length ≤ 500 := fun _ => by omega
    obtain ⟨q, e, h1, h2⟩ := qr_tot t (words t) hn (fun w hw => by have := hw2 w hw; omega) (fun (y2 : Int) (y3 : List Cond) (y4 : Int) (y5 : Bool) (y6 : Int) (y7 : List Int) (y8 : Bool) (y9 : Int) (y10 : Int) =>
      (gd (bo3 (Ls.sc .eql (bl t) (ByteArray.mk #[])) false true) (spec_QueryText.f s (Query.mk y2 y3 y4 y5 y6 y7 y8 y9 y10))).bind fun r162 =>
      bif (bo3 (Ls.sc .eql (bl t) (ByteArray.mk #[])) true (Ls.sc .neq r162 (bl t))) then (
      some ((Query.mk 0 [] 0 false 0 [] false 0 0), false))
      else (
      some ((Query.mk y2 y3 y4 y5 y6 y7 y8 y9 y10), true))) ((words t).length + 1) 0 noQ (Nat.zero_le _) (by omega) (Nat.zero_le _) (Nat.zero_le _)
    have hb : Query_b q := QB_of (by omega) (by omega)
    refine Eq.trans e ?_
    rw [readF_no h]
    show ((gd (bo3 (Ls.sc .eql (bl t) (bl [])) false true) (spec_QueryText.f s q)).bind _) = _
    rw [str_eq]
    by_cases h0 : t = []
    · rw [decide_eq_true h0, show bo3 true false true = false from rfl, gd_false, bd, show ByteArray.mk #[] = bl [] from rfl, str_eq, decide_eq_true h0]
      rfl
    · rw [decide_eq_false h0, show bo3 false false true = true from rfl, gd_true, spec_QueryText_eq s q hs hb, bd, show ByteArray.mk #[] = bl [] from rfl, str_eq, decide_eq_false h0, str_ne, decide_eq_false ?_]
      · rfl
      · intro e
        split at e
        · rename_i hq; exact h ⟨q, hq, e⟩
        · exact h0 e.symm

theorem impl_within_eq (x y z : Int) : impl_within.f x y z = some (decide (y ≤ x ∧ x ≤ z)) := by
  unfold impl_within.f
  rw [bo3_and, Bool.decide_and]

theorem impl_SchemaOk_eq (s : Schema) (h : Schema_b s) : impl_SchemaOk.f s = some (schemaB s) := by
  have hl : s.Cols.length ≤ 9223372036854775807 := h
  unfold impl_SchemaOk.f joinK
  refine (loop_all (f := impl_SchemaOk.l0 s _) (l := s.Cols) (fun _ n => decide (1 ≤ n ∧ n ≤ 4)) (some false) (some (decide (1 ≤ (s.Cols.length : Int) ∧ (s.Cols.length : Int) ≤ 3))) (fun k i x hx => ?_) (fun k i hi => ?_) _ 0 (by omega) (by (try simp only [lenI_eq]); omega)).trans ?_
  · have hi := at_lt hx
    rw [impl_SchemaOk.l0, lenI_eq, decide_eq_true (by omega), cond_true, getO_nat, hx, Option.bind_some, impl_within_eq, Option.bind_some, bo3_not, w64_succ (by omega)]
    cases decide (1 ≤ x ∧ x ≤ 4) <;> rfl
  · rw [impl_SchemaOk.l0, lenI_eq, decide_eq_false (by omega), cond_false, impl_within_eq, Option.bind_some]
  · rw [allFrom_zero, schemaB]
    cases s.Cols.all fun n => decide (1 ≤ n ∧ n ≤ 4) <;> rfl

theorem impl_hasTable_eq (s : Schema) (t : Int) (h : Schema_b s) : impl_hasTable.f s t = some (decide (0 ≤ t ∧ t ≤ (s.Cols.length : Int) - 1)) := by
  have hl : s.Cols.length ≤ 9223372036854775807 := h
  unfold impl_hasTable.f
  rw [lenI_eq, w64_id (by omega), impl_within_eq, Option.bind_some]

theorem impl_isNum_eq (n : Int) : impl_isNum.f n = some (decide (-1000000000 ≤ n ∧ n ≤ 1000000000)) := by
  unfold impl_isNum.f
  rw [impl_within_eq, Option.bind_some]

theorem impl_kidsFit_eq (s : Schema) (q : Query) (h : Schema_b s) : impl_kidsFit.f s q = some (kidsB s q) := by
  unfold impl_kidsFit.f kidsB
  rw [bo3_not]
  cases q.Kids with
  | false => simp [bo3_and]
  | true =>
    rw [Bool.not_true, cond_false, impl_hasTable_eq _ _ h, Option.bind_some, if_pos rfl]
    by_cases d : 0 ≤ q.KidTable ∧ q.KidTable ≤ (s.Cols.length : Int) - 1
    · rw [decide_eq_true d, gd_true, getO_Int d, Option.bind_some, gd_true, impl_within_eq, Option.bind_some, bo3_and]
    · rw [decide_eq_false d, gd_false, Option.bind_some, gd_false, Option.bind_some, bo3_and]
      rfl

theorem impl_QueryOk_eq (s : Schema) (q : Query) (h : Schema_b s) (hq : Query_b q) : impl_QueryOk.f s q = some (queryB s q) := by
  obtain ⟨hw, hs⟩ := hq
  have hwl : q.Where.length ≤ 9223372036854775807 := hw
  have hsl : q.Show.length ≤ 9223372036854775807 := hs
  unfold impl_QueryOk.f queryB
  rw [impl_SchemaOk_eq _ h, Option.bind_some]
  cases schemaB s with
  | false => rfl
  | true =>
    rw [show bo3 (bo3 true false true) false true = true from rfl, gd_true, impl_hasTable_eq _ _ h, Option.bind_some]
    by_cases d : 0 ≤ q.Table ∧ q.Table ≤ (s.Cols.length : Int) - 1
    case neg => rw [decide_eq_false d]; rfl
    rw [decide_eq_true d, show bo3 (bo3 true false true) true (bo3 true false true) = false from rfl, cond_false, getO_Int d, Option.bind_some]
    generalize s.Cols.getD q.Table.toNat 0 = cols
    simp only [joinK, Bool.true_and]
    refine (loop_all (f := impl_QueryOk.l0 q cols _) (l := q.Where) (fun _ c => condB cols c) (some false) (some (showB cols q.Show && (decide (q.Where.length ≤ 3) && decide (0 ≤ q.Order ∧ q.Order ≤ cols) && (!q.Down || decide (0 < q.Order)) && decide (0 ≤ q.First ∧ q.First ≤ 24) && kidsB s q))) (fun k i x hx => ?_) (fun k i hi => ?_) _ 0 (by omega) (by (try simp only [lenI_eq]); omega)).trans ?_
    · have hi := at_lt hx
      rw [impl_QueryOk.l0, lenI_eq, decide_eq_true (by omega), cond_true, getO_nat, hx, Option.bind_some, impl_within_eq, Option.bind_some, impl_within_eq, impl_isNum_eq, w64_succ (by omega)]
      unfold condB
      cases decide (0 ≤ x.Col ∧ x.Col ≤ w64 (cols - 1)) <;> cases decide (1 ≤ x.Op ∧ x.Op ≤ 4) <;> cases decide (-1000000000 ≤ x.V ∧ x.V ≤ 1000000000) <;> rfl
    · rw [impl_QueryOk.l0, lenI_eq, decide_eq_false (by omega), cond_false]
      refine (loop_all (f := impl_QueryOk.l1 q cols _) (l := q.Show) (fun i x => decide (0 ≤ x ∧ x ≤ w64 (cols - 1)) && !(decide (0 < i) && decide (x ≤ q.Show.getD (i - 1) 0))) (some false) (some (decide (q.Where.length ≤ 3) && decide (0 ≤ q.Order ∧ q.Order ≤ cols) && (!q.Down || decide (0 < q.Order)) && decide (0 ≤ q.First ∧ q.First ≤ 24) && kidsB s q)) (fun k i x hx => ?_) (fun k i hi => ?_) _ 0 (by omega) (by (try simp only [lenI_eq]); omega)).trans ?_
      · have hi := at_lt hx
        rw [impl_QueryOk.l1, lenI_eq, decide_eq_true (by omega), cond_true, getO_nat, hx, Option.bind_some, impl_within_eq, Option.bind_some, show_step hx (by omega), Option.bind_some, w64_succ (by omega)]
        rw [show decide (0 < (i : Int)) = decide (0 < i) from by simp]
        cases decide (0 ≤ x ∧ x ≤ w64 (cols - 1)) <;> cases decide (0 < i) <;> (try rfl)
        simp only [bo3_and, bo3_not, bo3_or, Bool.not_true, Bool.not_false, Bool.true_and, cond_true]
        cases decide (x ≤ q.Show.getD (i - 1) 0) <;> rfl
      · rw [impl_QueryOk.l1, lenI_eq, decide_eq_false (by omega), cond_false, impl_within_eq, Option.bind_some, impl_within_eq, impl_kidsFit_eq _ _ h]
        rw [show decide ((q.Where.length : Int) ≤ 3) = decide (q.Where.length ≤ 3) from by simp; omega]
        cases decide (q.Where.length ≤ 3) <;> cases decide (0 ≤ q.Order ∧ q.Order ≤ cols) <;> cases q.Down <;> cases decide (0 < q.Order) <;> cases decide (0 ≤ q.First ∧ q.First ≤ 24) <;> cases kidsB s q <;> rfl
      · unfold showB
        cases allFrom (fun i x => decide (0 ≤ x ∧ x ≤ w64 (cols - 1)) && !(decide (0 < i) && decide (x ≤ q.Show.getD (i - 1) 0))) q.Show 0 <;> rfl
    · rw [allFrom_zero]
      cases q.Where.all fun c => condB cols c <;> simp

theorem impl_digits_eq (n : Int) (h : -9223372036854775808 ≤ n ∧ n ≤ 9223372036854775807) : impl_digits.f n = some (bl (Lib.itoa n)) := by
  unfold impl_digits.f
  rw [strconv_Itoa_eq n h]; rfl

theorem strings_Join_eq (ws : List (List UInt8)) (sep : List UInt8) (h : ws.length ≤ 140737488355328) (h2 : (Lib.join ws sep).length ≤ 140737488355328) : strings_Join.f (ws.map bl) (bl sep) = some (bl (Lib.join ws sep)) := by
  have e : (ws.map bl).map (·.data.toList) = ws := by simp [bl, Function.comp_def]
  have e2 : (bl sep).data.toList = sep := by simp [bl]
  unfold strings_Join.f joinO
  rw [e, e2, if_pos ⟨by simpa using h, h2⟩]
  rfl

theorem ss_sgn {o : Int} (h : 1 ≤ o ∧ o ≤ 4) : cutS (ByteArray.mk #[61, 60, 62, 33]) (w64 (o - 1)) o = some () ∧ Ls.ss (ByteArray.mk #[61, 60, 62, 33]) (w64 (o - 1)) o = bl (sgn o) := by
  have : o = 1 ∨ o = 2 ∨ o = 3 ∨ o = 4 := by omega
  rcases this with rfl | rfl | rfl | rfl
  · exact ⟨by decide, by decide⟩
  · exact ⟨by decide, by decide⟩
  · exact ⟨by decide, by decide⟩
  · exact ⟨by decide, by decide⟩
theorem bind_one {α β : Type} (a : α) (f : α → Option β) : (some a).bind f = f a := rfl
theorem iqt_l0 (q : Query) (K : List ByteArray → Option ByteArray) (h : ∀ c ∈ q.Where, (0 ≤ c.Col ∧ c.Col ≤ 3) ∧ (1 ≤ c.Op ∧ c.Op ≤ 4) ∧ (-1000000000 ≤ c.V ∧ c.V ≤ 1000000000)) (hl : q.Where.length ≤ 3) : ∀ (k i : Nat) (ws : List (List UInt8)), i ≤ q.Where.length → q.Where.length < i + k → ws.length ≤ 100 + 4 * i → impl_QueryText.l0 q K k (ws.map bl) (i : Int) = K ((ws ++ whereW (q.Where.drop i)).map bl) := by
  intro k
  induction k with
  | zero => intro i ws h1 h2; omega
  | succ k ih =>
    intro i ws h1 h2 h3
    rw [impl_QueryText.l0, lenI_eq]
    by_cases hi : i < q.Where.length
    · have hx := List.getElem?_eq_getElem hi
      have hc := h _ (List.getElem_mem hi)
      rw [decide_eq_true (by omega), cond_true, getO_nat, hx, bind_one, impl_digits_eq _ (by omega), bind_one, (ss_sgn hc.2.1).1, bind_one, impl_digits_eq _ (by omega), bind_one, (ss_sgn hc.2.1).2, bind_one,
        appO_ok (by simp only [List.length_map, List.length_cons, List.length_nil]; omega), bind_one, w64_succ (by omega)]
      have e : ws.map bl ++ [ByteArray.mk #[119, 104, 101, 114, 101], bl (Lib.itoa q.Where[i].Col), bl (sgn q.Where[i].Op), bl (Lib.itoa q.Where[i].V)] = (ws ++ condW q.Where[i]).map bl := by
        rw [List.map_append]; rfl
      rw [e, ih (i + 1) _ (by omega) (by omega) (by simp only [List.length_append, condW, List.length_cons, List.length_nil]; omega), List.drop_eq_getElem_cons hi]
      congr 2
      rw [List.append_assoc]
      rfl
    · rw [decide_eq_false (by omega), cond_false, List.drop_eq_nil_of_le (by omega)]
      simp [whereW]
theorem iqt_l1 (q : Query) (K : List ByteArray → Option ByteArray) (h : ∀ x ∈ q.Show, 0 ≤ x ∧ x ≤ 3) (hl : q.Show.length ≤ 4) : ∀ (k i : Nat) (ws : List (List UInt8)), i ≤ q.Show.length → q.Show.length < i + k → ws.length ≤ 100 + i → impl_QueryText.l1 q K k (ws.map bl) (i : Int) = K ((ws ++ (q.Show.drop i).map Lib.itoa).map bl) := by
  intro k
  induction k with
  | zero => intro i ws h1 h2; omega
  | succ k ih =>
    intro i ws h1 h2 h3
    rw [impl_QueryText.l1, lenI_eq]
    by_cases hi : i < q.Show.length
    · have hx := List.getElem?_eq_getElem hi
      have hc := h _ (List.getElem_mem hi)
      rw [decide_eq_true (by omega), cond_true, getO_nat, hx, bind_one, impl_digits_eq _ (by omega), bind_one, bind_one,
        appO_ok (by simp only [List.length_map, List.length_cons, List.length_nil]; omega), bind_one, w64_succ (by omega)]
      have e : ws.map bl ++ [bl (Lib.itoa q.Show[i])] = (ws ++ [Lib.itoa q.Show[i]]).map bl := by
        rw [List.map_append]; rfl
      rw [e, ih (i + 1) _ (by omega) (by omega) (by simp only [List.length_append, List.length_cons, List.length_nil]; omega), List.drop_eq_getElem_cons hi]
      congr 2
      rw [List.append_assoc]
      rfl
    · rw [decide_eq_false (by omega), cond_false, List.drop_eq_nil_of_le (by omega)]
      simp
theorem iqt_kids (q : Query) (Q : QRight q) (K : List ByteArray → Option ByteArray) (ws : List (List UInt8)) (hl : ws.length ≤ 100) : (bif q.Kids then ((impl_digits.f q.KidTable).bind fun r72 => (impl_digits.f q.KidCol).bind fun r73 => (some [(ByteArray.mk #[107, 105, 100, 115]), r72, r73]).bind fun l74 => (appO 16 (ws.map bl) l74).bind fun l75 => K l75) else K (ws.map bl)) = K ((ws ++ kidsW q).map bl) := by
  have hk := Q.k
  have hkc := Q.kc
  unfold kidsW
  cases hK : q.Kids with
  | true =>
    rw [if_pos rfl, cond_true, impl_digits_eq _ (by omega), bind_one, impl_digits_eq _ (by omega), bind_one, bind_one, appO_ok (by simp only [List.length_map, List.length_cons, List.length_nil]; omega), bind_one, List.map_append]
    rfl
  | false => rw [if_neg (by simp), List.append_nil, cond_false]
theorem iqt_show (q : Query) (Q : QRight q) (K : List ByteArray → Option ByteArray) (ws : List (List UInt8)) (hl : ws.length ≤ 90) : (bif (decide (0 < (lenI q.Show))) then ((some [(ByteArray.mk #[115, 104, 111, 119])]).bind fun l47 => (appO 16 (ws.map bl) l47).bind fun l48 => impl_QueryText.l1 q K (((lenI q.Show) - 0).toNat + 1) l48 0) else K (ws.map bl)) = K ((ws ++ showW q.Show).map bl) := by
  have hsl := Q.sl
  unfold showW
  rw [lenI_eq]
  by_cases h : q.Show = []
  · rw [h, if_pos rfl, decide_eq_false (by simp), cond_false, List.append_nil]
  · have : 0 < q.Show.length := List.length_pos_iff.2 h
    rw [if_neg h, decide_eq_true (by omega), cond_true, bind_one, appO_ok (by simp only [List.length_map, List.length_cons, List.length_nil]; omega), bind_one]
    have e : ws.map bl ++ [ByteArray.mk #[115, 104, 111, 119]] = (ws ++ [[115, 104, 111, 119]]).map bl := by rw [List.map_append]; rfl
    rw [e, fuel_len, show (0 : Int) = ((0 : Nat) : Int) from rfl, iqt_l1 q K Q.s Q.sl _ 0 _ (by omega) (by omega) (by simp; omega), List.drop_zero, List.append_assoc]
    rfl
theorem iqt_first (q : Query) (Q : QRight q) (K : List ByteArray → Option ByteArray) (ws : List (List UInt8)) (hl : ws.length ≤ 90) : (bif (decide (q.First ≠ 0)) then ((impl_digits.f q.First).bind fun r41 => (some [(ByteArray.mk #[102, 105, 114, 115, 116]), r41]).bind fun l42 => (appO 16 (ws.map bl) l42).bind fun l43 => K l43) else K (ws.map bl)) = K ((ws ++ firstW q).map bl) := by
  have hf := Q.f
  unfold firstW
  by_cases h : q.First = 0
  · rw [decide_eq_false (by simp [h]), if_neg (by simp [h]), cond_false, List.append_nil]
  · rw [decide_eq_true h, if_pos h, cond_true, impl_digits_eq _ (by omega), bind_one, bind_one, appO_ok (by simp only [List.length_map, List.length_cons, List.length_nil]; omega), bind_one, List.map_append]
    rfl
theorem iqt_order (q : Query) (Q : QRight q) (K : List ByteArray → Option ByteArray) (ws : List (List UInt8)) (hl : ws.length ≤ 80) : (bif (decide (q.Order ≠ 0)) then ((impl_digits.f (w64 (q.Order - 1))).bind fun r32 => (some [(ByteArray.mk #[111, 114, 100, 101, 114]), r32]).bind fun l33 => (appO 16 (ws.map bl) l33).bind fun l34 => bif q.Down then ((some [(ByteArray.mk #[100, 111, 119, 110])]).bind fun l36 => (appO 16 l34 l36).bind fun l37 => K l37) else K l34) else K (ws.map bl)) = K ((ws ++ orderW q).map bl) := by
  have ho := Q.o
  unfold orderW downW
  by_cases h : q.Order = 0
  · rw [decide_eq_false (by simp [h]), if_neg (by simp [h]), cond_false, List.append_nil]
  · rw [decide_eq_true h, if_pos h, cond_true, w64_id (by omega), impl_digits_eq _ (by omega), bind_one, bind_one, appO_ok (by simp only [List.length_map, List.length_cons, List.length_nil]; omega), bind_one]
    cases hd : q.Down with
    | false => rw [cond_false, if_neg (by simp), List.map_append]; rfl
    | true =>
      rw [cond_true, bind_one, appO_ok (by simp only [List.length_map, List.length_append, List.length_cons, List.length_nil]; omega), bind_one, if_pos rfl, List.map_append, List.append_assoc]
      rfl
theorem impl_QueryText_eq (s : Schema) (q : Query) (hs : Schema_b s) (hb : Query_b q) : impl_QueryText.f s q = some (bl (if queryB s q = true then qtext q else [])) := by
  unfold impl_QueryText.f
  rw [impl_QueryOk_eq s q hs hb, bind_one, bo3_not]
  by_cases hq : queryB s q = true
  · have Q := queryB_QR hq
    have wl := (jt_where Q.c).2
    have ht := Q.t
    have hlq := len_qtext Q
    have hW := Q.w
    have hsl := Q.sl
    rw [hq, if_pos rfl, Bool.not_true, cond_false, impl_digits_eq _ (by omega), bind_one, bind_one, joinK_eq, show (((lenI q.Where) - 0).toNat + 1) = q.Where.length + 1 by rw [lenI_eq]; omega]
    have e0 : [ByteArray.mk #[102, 114, 111, 109], bl (Lib.itoa q.Table)] = [[102, 114, 111, 109], Lib.itoa q.Table].map bl := rfl
    rw [e0]
    have l1 : (orderW q).length ≤ 3 := by unfold orderW downW; (repeat' split) <;> simp
    have l2 : (firstW q).length ≤ 2 := by unfold firstW; split <;> simp
    have l3 : (showW q.Show).length ≤ 5 := by unfold showW; split <;> simp <;> omega
    have l4 : (kidsW q).length ≤ 3 := by unfold kidsW; split <;> simp
    refine (iqt_l0 q _ Q.c Q.w _ 0 _ (by omega) (by omega) (by simp)).trans ?_
    rw [List.drop_zero, joinK_eq]
    refine (iqt_order q Q _ _ (by simp; omega)).trans ?_
    rw [joinK_eq]
    refine (iqt_first q Q _ _ (by simp; omega)).trans ?_
    rw [joinK_eq]
    refine (iqt_show q Q _ _ (by simp; omega)).trans ?_
    rw [joinK_eq]
    refine (iqt_kids q Q _ _ (by simp; omega)).trans ?_
    have e : ((((([[102, 114, 111, 109], Lib.itoa q.Table] ++ whereW q.Where) ++ orderW q) ++ firstW q) ++ showW q.Show) ++ kidsW q) = qwords q := by simp [qwords, restW]
    rw [e]
    have := strings_Join_eq (qwords q) [32] (by rw [← e]; simp; omega) (by rw [qtext_join]; omega)
    rw [qtext_join] at this
    rw [show ByteArray.mk #[32] = bl [32] from rfl, this]
    rfl
  · rw [Bool.not_eq_true] at hq
    rw [hq, if_neg (by simp)]
    rfl

theorem strings_Split_eq (t : List UInt8) (h : t.length < 4294967281) : strings_Split.f (bl t) (ByteArray.mk #[32]) = some ((words t).map bl) := splitO_eq t h

/-- Whether a word comes next. -/
def nextIs (ws : List (List UInt8)) (w : List UInt8) : Bool := match ws with
  | [] => false
  | x :: _ => decide (x = w)
def nextNum (ws : List (List UInt8)) : Bool := match ws with
  | [] => false
  | x :: _ => (numOf x).2
/-- Words that are few and short. -/
structure Few (ws : List (List UInt8)) : Prop where
  n : ws.length ≤ 4294967296
  l : ∀ w ∈ ws, w.length ≤ 4294967296
theorem Few.tail {ws : List (List UInt8)} (h : Few ws) : Few ws.tail := ⟨by have := h.n; rw [List.length_tail]; omega, fun w hw => h.l w (List.mem_of_mem_tail hw)⟩
theorem Few.cons {w : List UInt8} {ws : List (List UInt8)} (h : Few (w :: ws)) : Few ws := h.tail
theorem Few.right {a b : List (List UInt8)} (h : Few (a ++ b)) : Few b := ⟨by have := h.n; rw [List.length_append] at this; omega, fun w hw => h.l w (List.mem_append_right _ hw)⟩
theorem cut_one {ws : List (List UInt8)} {w : List UInt8} : cutO ((w :: ws).map bl) 1 (lenI ((w :: ws).map bl)) = some (ws.map bl) := by
  rw [lenI_eq, cutO_ok ⟨by omega, by simp; omega, Int.le_refl _⟩]
  congr 1
  rw [Int.toNat_natCast, List.take_of_length_le (Nat.le_refl _)]
  rfl
theorem take_eq (ws : List (List UInt8)) (b : Bool) (w : List UInt8) : impl_asker_take.f ⟨ws.map bl, b⟩ (bl w) = some (⟨(bif nextIs ws w then ws.tail else ws).map bl, b⟩, nextIs ws w) := by
  unfold impl_asker_take.f
  cases ws with
  | nil => rfl
  | cons x r =>
    have h : decide (0 < lenI ((x :: r).map bl)) = true := decide_eq_true (by rw [lenI_eq]; simp)
    rw [h, gd_true, getO_zero, show ((x :: r).map bl)[0]? = some (bl x) from rfl, bd, str_eq, bo3_and, Bool.true_and]
    by_cases hx : x = w
    · rw [decide_eq_true hx, cond_true, cut_one, bd, show nextIs (x :: r) w = true from decide_eq_true hx, cond_true]; rfl
    · rw [decide_eq_false hx, cond_false, show nextIs (x :: r) w = false from decide_eq_false hx, cond_false]
theorem isNumber_eq (ws : List (List UInt8)) (b : Bool) (h : Few ws) : impl_asker_isNumber.f ⟨ws.map bl, b⟩ = some (nextNum ws) := by
  unfold impl_asker_isNumber.f
  cases ws with
  | nil => rfl
  | cons x r =>
    have hx := h.l x (by simp)
    rw [decide_eq_false (by rw [lenI_eq]; simp; omega), cond_false, getO_zero, show ((x :: r).map bl)[0]? = some (bl x) from rfl, bd]
    unfold strconv_Atoi.f
    rw [atoiO_bl (by omega), bd]
    show (bif (numOf x).2 then some true else some false) = some (numOf x).2
    cases (numOf x).2 <;> rfl
theorem number_eq (ws : List (List UInt8)) (b : Bool) (h : Few ws) : impl_asker_number.f ⟨ws.map bl, b⟩ = some (bif nextNum ws then (⟨ws.tail.map bl, b⟩, (numOf (ws.headD [])).1) else (⟨ws.map bl, true⟩, 0)) := by
  unfold impl_asker_number.f
  rw [isNumber_eq ws b h, bd, bo3_not]
  cases ws with
  | nil => rfl
  | cons x r =>
    have hx := h.l x (by simp)
    cases hn : nextNum (x :: r) with
    | false => rfl
    | true =>
      have hn' : (numOf x).2 = true := hn
      rw [Bool.not_true, cond_false, cond_true, getO_zero, show ((x :: r).map bl)[0]? = some (bl x) from rfl, bd]
      unfold strconv_Atoi.f
      rw [atoiO_bl (by omega), bd, hn', cond_true, cut_one, bd]
      rfl
theorem number_itoa {n : Int} (h : -9223372036854775808 ≤ n ∧ n ≤ 9223372036854775807) (ws : List (List UInt8)) (b : Bool) (hw : Few (Lib.itoa n :: ws)) : impl_asker_number.f ⟨(Lib.itoa n :: ws).map bl, b⟩ = some (⟨ws.map bl, b⟩, n) := by
  rw [number_eq _ b hw, show nextNum (Lib.itoa n :: ws) = true from by show (numOf (Lib.itoa n)).2 = true; rw [numOf_itoa h], cond_true]
  show some ((⟨ws.map bl, b⟩ : asker), (numOf (Lib.itoa n)).1) = _
  rw [numOf_itoa h]
/-- In short: what comes of a step. -/
theorem number_ok (ws : List (List UInt8)) (b : Bool) (h : Few ws) : ∃ ws' b' v, impl_asker_number.f ⟨ws.map bl, b⟩ = some (⟨ws'.map bl, b'⟩, v) ∧ Few ws' ∧ ws'.length ≤ ws.length ∧ (nextNum ws = true → ws'.length < ws.length) := by
  rw [number_eq ws b h]
  cases hn : nextNum ws with
  | false => exact ⟨ws, true, 0, rfl, h, Nat.le_refl _, fun h => by cases h⟩
  | true => exact ⟨ws.tail, b, _, rfl, h.tail, by rw [List.length_tail]; omega, fun _ => by
      rw [List.length_tail]
      cases ws with
      | nil => cases hn
      | cons x r => simp⟩
theorem take_ok (ws : List (List UInt8)) (b : Bool) (w : List UInt8) (h : Few ws) : ∃ ws' c, impl_asker_take.f ⟨ws.map bl, b⟩ (bl w) = some (⟨ws'.map bl, b⟩, c) ∧ Few ws' ∧ ws'.length ≤ ws.length ∧ (c = true → ws'.length < ws.length) := by
  rw [take_eq ws b w]
  cases hn : nextIs ws w with
  | false => exact ⟨ws, false, rfl, h, Nat.le_refl _, fun h => by cases h⟩
  | true => exact ⟨ws.tail, true, rfl, h.tail, by rw [List.length_tail]; omega, fun _ => by
      rw [List.length_tail]
      cases ws with
      | nil => cases hn
      | cons x r => simp⟩





def sig (i : Nat) : List UInt8 := (([61, 60, 62, 33] : List UInt8).take (i + 1)).drop i
theorem cond_step (K5 : List ByteArray → Bool → Int → Option (asker × Cond)) (k : Nat) (ws : List (List UInt8)) (b : Bool) (i : Nat) (hi : i < 4) : impl_asker_cond.l0 K5 (k + 1) (ws.map bl) b (i : Int) = bif nextIs ws (sig i) then K5 (ws.tail.map bl) b ((i + 1 : Nat) : Int) else impl_asker_cond.l0 K5 k (ws.map bl) b ((i + 1 : Nat) : Int) := by
  rw [impl_asker_cond.l0, decide_eq_true (by omega), cond_true, w64_succ (by omega), show ByteArray.mk #[61, 60, 62, 33] = bl [61, 60, 62, 33] from rfl, cutS_bl (by omega) (by simp; omega), bd, ss_bl, take_eq, bd]
  show (bif nextIs ws (sig i) then K5 ((bif nextIs ws (sig i) then ws.tail else ws).map bl) b ((i + 1 : Nat) : Int) else impl_asker_cond.l0 K5 k ((bif nextIs ws (sig i) then ws.tail else ws).map bl) b ((i + 1 : Nat) : Int)) = _
  cases nextIs ws (sig i) <;> rfl
theorem cond_l0 (K5 : List ByteArray → Bool → Int → Option (asker × Cond)) (b : Bool) : ∀ (k i : Nat) (ws : List (List UInt8)), Few ws → i ≤ 4 → 4 < i + k → ∃ ws' c, impl_asker_cond.l0 K5 k (ws.map bl) b (i : Int) = K5 (ws'.map bl) b c ∧ Few ws' ∧ ws'.length ≤ ws.length := by
  intro k
  induction k with
  | zero => intro i ws _ h1 h2; omega
  | succ k ih =>
    intro i ws hw h1 h2
    by_cases hi : i < 4
    · rw [cond_step K5 k ws b i hi]
      cases nextIs ws (sig i) with
      | true => exact ⟨ws.tail, _, rfl, hw.tail, by rw [List.length_tail]; omega⟩
      | false => exact ih (i + 1) ws hw (by omega) (by omega)
    · refine ⟨ws, 0, ?_, hw, Nat.le_refl _⟩
      rw [impl_asker_cond.l0, decide_eq_false (by omega), cond_false]
theorem cond_ok (ws : List (List UInt8)) (b : Bool) (h : Few ws) : ∃ ws' b' c, impl_asker_cond.f ⟨ws.map bl, b⟩ = some (⟨ws'.map bl, b'⟩, c) ∧ Few ws' ∧ ws'.length ≤ ws.length := by
  obtain ⟨w1, b1, v1, e1, h1, l1, _⟩ := number_ok ws b h
  unfold impl_asker_cond.f
  rw [e1, bd, joinK_eq]
  obtain ⟨w2, c, e2, h2, l2⟩ := cond_l0 (fun (y2 : List ByteArray) (y3 : Bool) (y4 : Int) => (impl_asker_number.f (asker.mk y2 y3)).bind fun r22 => some (r22.1, (Cond.mk v1 y4 r22.2))) b1 5 0 w1 h1 (by omega) (by omega)
  obtain ⟨w3, b3, v3, e3, h3, l3, _⟩ := number_ok w2 b1 h2
  refine ⟨w3, b3, ⟨v1, c, v3⟩, ?_, h3, by omega⟩
  refine e2.trans ?_
  rw [e3]
  rfl
theorem cond_right {c : Cond} (hc : (0 ≤ c.Col ∧ c.Col ≤ 3) ∧ (1 ≤ c.Op ∧ c.Op ≤ 4) ∧ (-1000000000 ≤ c.V ∧ c.V ≤ 1000000000)) (ws : List (List UInt8)) (b : Bool) (h : Few (Lib.itoa c.Col :: sgn c.Op :: Lib.itoa c.V :: ws)) : impl_asker_cond.f ⟨(Lib.itoa c.Col :: sgn c.Op :: Lib.itoa c.V :: ws).map bl, b⟩ = some (⟨ws.map bl, b⟩, c) := by
  unfold impl_asker_cond.f
  rw [number_itoa (by omega) _ _ h, bd, joinK_eq]
  have key : ∀ K5 : List ByteArray → Bool → Int → Option (asker × Cond), impl_asker_cond.l0 K5 5 ((sgn c.Op :: Lib.itoa c.V :: ws).map bl) b ((0 : Nat) : Int) = K5 ((Lib.itoa c.V :: ws).map bl) b c.Op := by
    intro K5
    have ho : c.Op = 1 ∨ c.Op = 2 ∨ c.Op = 3 ∨ c.Op = 4 := by omega
    have e : ∀ i, nextIs (sgn c.Op :: Lib.itoa c.V :: ws) (sig i) = decide (sgn c.Op = sig i) := fun _ => rfl
    rcases ho with ho | ho | ho | ho
    · rw [cond_step _ _ _ _ _ (by omega), e, ho]; rfl
    · rw [cond_step _ _ _ _ _ (by omega), e, ho, show decide (sgn 2 = sig 0) = false from rfl, cond_false, ← ho, cond_step _ _ _ _ _ (by omega), e, ho]; rfl
    · rw [cond_step _ _ _ _ _ (by omega), e, ho, show decide (sgn 3 = sig 0) = false from rfl, cond_false, ← ho, cond_step _ _ _ _ _ (by omega), e, ho, show decide (sgn 3 = sig 1) = false from rfl, cond_false, ← ho, cond_step _ _ _ _ _ (by omega), e, ho]; rfl
    · rw [cond_step _ _ _ _ _ (by omega), e, ho, show decide (sgn 4 = sig 0) = false from rfl, cond_false, ← ho, cond_step _ _ _ _ _ (by omega), e, ho, show decide (sgn 4 = sig 1) = false from rfl, cond_false, ← ho, cond_step _ _ _ _ _ (by omega), e, ho, show decide (sgn 4 = sig 2) = false from rfl, cond_false, ← ho, cond_step _ _ _ _ _ (by omega), e, ho]; rfl
  refine (key _).trans ?_
  rw [number_itoa (by omega) _ _ h.cons.cons, bd]

theorem query_l0 (K6 : List ByteArray → Bool → List Cond → Option (asker × Query)) : ∀ (k : Nat) (ws : List (List UInt8)) (b : Bool) (cs : List Cond), Few ws → ws.length < k → cs.length + ws.length ≤ 8589934592 → ∃ ws' b' cs', impl_asker_query.l0 K6 k (ws.map bl) b cs = K6 (ws'.map bl) b' cs' ∧ Few ws' ∧ ws'.length ≤ ws.length ∧ cs'.length + ws'.length ≤ cs.length + ws.length := by
  intro k
  induction k with
  | zero => intro ws b cs _ h; omega
  | succ k ih =>
    intro ws b cs hw hk hs
    rw [impl_asker_query.l0, bo3_not]
    cases b with
    | true => exact ⟨ws, true, cs, rfl, hw, Nat.le_refl _, Nat.le_refl _⟩
    | false =>
      rw [Bool.not_false, cond_true, show ByteArray.mk #[119, 104, 101, 114, 101] = bl [119, 104, 101, 114, 101] from rfl]
      obtain ⟨w1, c, e1, h1, l1, s1⟩ := take_ok ws false [119, 104, 101, 114, 101] hw
      rw [e1, bd]
      cases c with
      | false => exact ⟨w1, false, cs, rfl, h1, l1, by omega⟩
      | true =>
        have s1 := s1 rfl
        obtain ⟨w2, b2, x, e2, h2, l2⟩ := cond_ok w1 false h1
        obtain ⟨w3, b3, cs3, e3, h3, l3, m3⟩ := ih w2 b2 (cs ++ [x]) h2 (by omega) (by rw [List.length_append, List.length_singleton]; omega)
        refine ⟨w3, b3, cs3, ?_, h3, by omega, by rw [List.length_append, List.length_singleton] at m3; omega⟩
        show (bif (bo3 true true false) then _ else _) = _
        rw [show bo3 true true false = true from rfl, cond_true, e2, bd, bd, appO_ok (by simp only [List.length_cons, List.length_nil]; omega), bd]
        exact e3
theorem query_l1 (K76 : List ByteArray → Bool → List Int → Option (asker × Query)) : ∀ (k : Nat) (ws : List (List UInt8)) (b : Bool) (cs : List Int), Few ws → ws.length < k → cs.length + ws.length ≤ 8589934592 → ∃ ws' b' cs', impl_asker_query.l1 K76 k (ws.map bl) b cs = K76 (ws'.map bl) b' cs' ∧ Few ws' ∧ ws'.length ≤ ws.length ∧ cs'.length + ws'.length ≤ cs.length + ws.length := by
  intro k
  induction k with
  | zero => intro ws b cs _ h; omega
  | succ k ih =>
    intro ws b cs hw hk hs
    rw [impl_asker_query.l1, isNumber_eq ws b hw, bd]
    cases hn : nextNum ws with
    | false => exact ⟨ws, b, cs, rfl, hw, Nat.le_refl _, Nat.le_refl _⟩
    | true =>
      obtain ⟨w2, b2, x, e2, h2, l2, s2⟩ := number_ok ws b hw
      have s2 := s2 hn
      obtain ⟨w3, b3, cs3, e3, h3, l3, m3⟩ := ih w2 b2 (cs ++ [x]) h2 (by omega) (by rw [List.length_append, List.length_singleton]; omega)
      refine ⟨w3, b3, cs3, ?_, h3, by omega, by rw [List.length_append, List.length_singleton] at m3; omega⟩
      rw [cond_true, e2, bd, bd, appO_ok (by simp only [List.length_cons, List.length_nil]; omega), bd]
      exact e3
/-- A question comes, and few of each. -/
def TotQ (n : Nat) (x : Option (asker × Query)) : Prop := ∃ (ws' : List (List UInt8)) (b' : Bool) (q : Query), x = some (⟨ws'.map bl, b'⟩, q) ∧ q.Where.length ≤ n ∧ q.Show.length ≤ n
theorem tot_l0 {n k : Nat} {K6 : List ByteArray → Bool → List Cond → Option (asker × Query)} {ws : List (List UInt8)} {b : Bool} (hw : Few ws) (hk : ws.length < k) (hn : ws.length ≤ n) (h : ∀ (ws' : List (List UInt8)) b' cs', Few ws' → ws'.length ≤ n → cs'.length ≤ n → TotQ n (K6 (ws'.map bl) b' cs')) : TotQ n (impl_asker_query.l0 K6 k (ws.map bl) b []) := by
  have := hw.n
  obtain ⟨w, b', cs, e, h1, l1, m1⟩ := query_l0 K6 k ws b [] hw hk (by rw [List.length_nil]; omega)
  rw [e]
  rw [List.length_nil] at m1
  exact h w b' cs h1 (by omega) (by omega)
theorem tot_l1 {n k : Nat} {K : List ByteArray → Bool → List Int → Option (asker × Query)} {ws : List (List UInt8)} {b : Bool} (hw : Few ws) (hk : ws.length < k) (hn : ws.length ≤ n) (h : ∀ (ws' : List (List UInt8)) b' cs', Few ws' → ws'.length ≤ n → cs'.length ≤ n → TotQ n (K (ws'.map bl) b' cs')) : TotQ n (impl_asker_query.l1 K k (ws.map bl) b []) := by
  have := hw.n
  obtain ⟨w, b', cs, e, h1, l1, m1⟩ := query_l1 K k ws b [] hw hk (by rw [List.length_nil]; omega)
  rw [e]
  rw [List.length_nil] at m1
  exact h w b' cs h1 (by omega) (by omega)
theorem query_ok (ws : List (List UInt8)) (b : Bool) (h : Few ws) : TotQ ws.length (impl_asker_query.f ⟨ws.map bl, b⟩) := by
  have hn := h.n
  unfold impl_asker_query.f
  rw [show ByteArray.mk #[102, 114, 111, 109] = bl [102, 114, 111, 109] from rfl]
  obtain ⟨w1, c1, e1, h1, l1, _⟩ := take_ok ws b [102, 114, 111, 109] h
  rw [e1, bd]
  obtain ⟨w2, b2, v2, e2, h2, l2, _⟩ := number_ok w1 (bo3 c1 false true) h1
  rw [e2, bd, joinK_eq, List.length_map]
  refine tot_l0 h2 (by omega) (by omega) fun w3 b3 cs h3 l3 m3 => ?_
  rw [joinK_eq]
  obtain ⟨w4, c4, e4, h4, l4, _⟩ := take_ok w3 b3 [111, 114, 100, 101, 114] h3
  rw [show ByteArray.mk #[111, 114, 100, 101, 114] = bl [111, 114, 100, 101, 114] from rfl, e4, bd]
  have K61 : ∀ (ws' : List (List UInt8)) (b' : Bool) (o : Int) (d : Bool), Few ws' → ws'.length ≤ ws.length → TotQ ws.length (joinK (fun (y66 : List ByteArray) (y67 : Bool) (y68 : Int) =>
      joinK (fun (y73 : List ByteArray) (y74 : Bool) (y75 : List Int) =>
      (impl_asker_take.f (asker.mk y73 y74) (ByteArray.mk #[107, 105, 100, 115])).bind fun r122 =>
      bif r122.2 then (
      (impl_asker_number.f r122.1).bind fun r124 =>
      (impl_asker_number.f r124.1).bind fun r125 =>
      some (r125.1, (Query.mk v2 cs o d y68 y75 true r124.2 r125.2)))
      else (
      some (r122.1, (Query.mk v2 cs o d y68 y75 false 0 0)))) (fun K76 =>
      (impl_asker_take.f (asker.mk y66 y67) (ByteArray.mk #[115, 104, 111, 119])).bind fun r77 =>
      bif r77.2 then (
      impl_asker_query.l1 K76 (ws.length + 2) r77.1.words r77.1.bad [])
      else (
      K76 r77.1.words r77.1.bad []))) (fun K69 =>
      (impl_asker_take.f (asker.mk (ws'.map bl) b') (ByteArray.mk #[102, 105, 114, 115, 116])).bind fun r70 =>
      bif r70.2 then (
      (impl_asker_number.f r70.1).bind fun r72 =>
      K69 r72.1.words r72.1.bad r72.2)
      else (
      K69 r70.1.words r70.1.bad 0))) := by
    intro w5 b5 o d h5 l5
    have K69 : ∀ (ws' : List (List UInt8)) (b' : Bool) (f : Int), Few ws' → ws'.length ≤ ws.length → TotQ ws.length (joinK (fun (y73 : List ByteArray) (y74 : Bool) (y75 : List Int) =>
        (impl_asker_take.f (asker.mk y73 y74) (ByteArray.mk #[107, 105, 100, 115])).bind fun r122 =>
        bif r122.2 then (
        (impl_asker_number.f r122.1).bind fun r124 =>
        (impl_asker_number.f r124.1).bind fun r125 =>
        some (r125.1, (Query.mk v2 cs o d f y75 true r124.2 r125.2)))
        else (
        some (r122.1, (Query.mk v2 cs o d f y75 false 0 0)))) (fun K76 =>
        (impl_asker_take.f (asker.mk (ws'.map bl) b') (ByteArray.mk #[115, 104, 111, 119])).bind fun r77 =>
        bif r77.2 then (
        impl_asker_query.l1 K76 (ws.length + 2) r77.1.words r77.1.bad [])
        else (
        K76 r77.1.words r77.1.bad []))) := by
      intro w6 b6 f h6 l6
      have K76 : ∀ (ws' : List (List UInt8)) (b' : Bool) (sh : List Int), Few ws' → sh.length ≤ ws.length → TotQ ws.length ((impl_asker_take.f (asker.mk (ws'.map bl) b') (ByteArray.mk #[107, 105, 100, 115])).bind fun r122 =>
          bif r122.2 then (
          (impl_asker_number.f r122.1).bind fun r124 =>
          (impl_asker_number.f r124.1).bind fun r125 =>
          some (r125.1, (Query.mk v2 cs o d f sh true r124.2 r125.2)))
          else (
          some (r122.1, (Query.mk v2 cs o d f sh false 0 0)))) := by
        intro w7 b7 sh h7 m7
        obtain ⟨w8, c8, e8, h8, l8, _⟩ := take_ok w7 b7 [107, 105, 100, 115] h7
        rw [show ByteArray.mk #[107, 105, 100, 115] = bl [107, 105, 100, 115] from rfl, e8, bd]
        cases c8 with
        | false => exact ⟨w8, b7, _, rfl, m3, m7⟩
        | true =>
          obtain ⟨w9, b9, v9, e9, h9, l9, _⟩ := number_ok w8 b7 h8
          obtain ⟨w10, b10, v10, e10, h10, l10, _⟩ := number_ok w9 b9 h9
          rw [cond_true, e9, bd, e10, bd]
          exact ⟨w10, b10, _, rfl, m3, m7⟩
      rw [joinK_eq]
      obtain ⟨w7, c7, e7, h7, l7, _⟩ := take_ok w6 b6 [115, 104, 111, 119] h6
      rw [show ByteArray.mk #[115, 104, 111, 119] = bl [115, 104, 111, 119] from rfl, e7, bd]
      cases c7 with
      | false => exact K76 w7 b6 [] h7 (Nat.zero_le _)
      | true =>
        rw [cond_true]
        exact tot_l1 h7 (by omega) (by omega) fun w8 b8 sh h8 l8 m8 => K76 w8 b8 sh h8 m8
    rw [joinK_eq]
    obtain ⟨w6, c6, e6, h6, l6, _⟩ := take_ok w5 b5 [102, 105, 114, 115, 116] h5
    rw [show ByteArray.mk #[102, 105, 114, 115, 116] = bl [102, 105, 114, 115, 116] from rfl, e6, bd]
    cases c6 with
    | false => exact K69 w6 b5 0 h6 (by omega)
    | true =>
      obtain ⟨w7, b7, v7, e7, h7, l7, _⟩ := number_ok w6 b5 h6
      rw [cond_true, e7, bd]
      exact K69 w7 b7 v7 h7 (by omega)
  cases c4 with
  | false => exact K61 w4 b3 0 false h4 (by omega)
  | true =>
    obtain ⟨w5, b5, v5, e5, h5, l5, _⟩ := number_ok w4 b3 h4
    obtain ⟨w6, c6, e6, h6, l6, _⟩ := take_ok w5 b5 [100, 111, 119, 110] h5
    rw [cond_true, e5, bd, show ByteArray.mk #[100, 111, 119, 110] = bl [100, 111, 119, 110] from rfl, e6, bd]
    exact K61 w6 b5 _ c6 h6 (by omega)

theorem cond_words (c : Cond) (l : List Cond) (rest : List (List UInt8)) : whereW (c :: l) ++ rest = [119, 104, 101, 114, 101] :: Lib.itoa c.Col :: sgn c.Op :: Lib.itoa c.V :: (whereW l ++ rest) := rfl
theorem right_l0 (K6 : List ByteArray → Bool → List Cond → Option (asker × Query)) (rest : List (List UInt8)) (hr : nextIs rest [119, 104, 101, 114, 101] = false) : ∀ (l : List Cond) (k : Nat) (cs : List Cond), (∀ c ∈ l, (0 ≤ c.Col ∧ c.Col ≤ 3) ∧ (1 ≤ c.Op ∧ c.Op ≤ 4) ∧ (-1000000000 ≤ c.V ∧ c.V ≤ 1000000000)) → l.length < k → Few (whereW l ++ rest) → cs.length + l.length ≤ 100 → impl_asker_query.l0 K6 k ((whereW l ++ rest).map bl) false cs = K6 (rest.map bl) false (cs ++ l) := by
  intro l
  induction l with
  | nil =>
    intro k cs _ hk hf _
    cases k with
    | zero => simp at hk
    | succ k =>
      rw [impl_asker_query.l0, show bo3 false false true = true from rfl, cond_true, show ByteArray.mk #[119, 104, 101, 114, 101] = bl [119, 104, 101, 114, 101] from rfl, show whereW [] ++ rest = rest from rfl, take_eq, bd, hr, List.append_nil]
      rfl
  | cons c l ih =>
    intro k cs hc hk hf hl
    cases k with
    | zero => simp at hk
    | succ k =>
      simp only [List.length_cons] at hk hl
      rw [cond_words] at hf ⊢
      rw [impl_asker_query.l0, show bo3 false false true = true from rfl, cond_true, show ByteArray.mk #[119, 104, 101, 114, 101] = bl [119, 104, 101, 114, 101] from rfl, take_eq, bd, show nextIs ([119, 104, 101, 114, 101] :: Lib.itoa c.Col :: sgn c.Op :: Lib.itoa c.V :: (whereW l ++ rest)) [119, 104, 101, 114, 101] = true from rfl, cond_true]
      show (bif (bo3 true true false) then (impl_asker_cond.f ⟨(Lib.itoa c.Col :: sgn c.Op :: Lib.itoa c.V :: (whereW l ++ rest)).map bl, false⟩).bind _ else _) = _
      rw [show bo3 true true false = true from rfl, cond_true, cond_right (hc c (by simp)) _ _ hf.cons, bd, bd, appO_ok (by simp only [List.length_cons, List.length_nil]; omega), bd]
      rw [ih k (cs ++ [c]) (fun x hx => hc x (by simp [hx])) (by omega) hf.cons.cons.cons.cons (by simp only [List.length_append, List.length_cons, List.length_nil]; omega), List.append_assoc]
      rfl
theorem right_l1 (K : List ByteArray → Bool → List Int → Option (asker × Query)) (rest : List (List UInt8)) (hr : nextNum rest = false) : ∀ (l : List Int) (k : Nat) (cs : List Int), (∀ x ∈ l, 0 ≤ x ∧ x ≤ 3) → l.length < k → Few (l.map Lib.itoa ++ rest) → cs.length + l.length ≤ 100 → impl_asker_query.l1 K k ((l.map Lib.itoa ++ rest).map bl) false cs = K (rest.map bl) false (cs ++ l) := by
  intro l
  induction l with
  | nil =>
    intro k cs _ hk hf _
    cases k with
    | zero => simp at hk
    | succ k =>
      rw [impl_asker_query.l1, show ([] : List Int).map Lib.itoa ++ rest = rest from rfl, isNumber_eq rest _ hf, bd, hr, cond_false, List.append_nil]
  | cons x l ih =>
    intro k cs hc hk hf hl
    cases k with
    | zero => simp at hk
    | succ k =>
      simp only [List.length_cons] at hk hl
      have hx := hc x (by simp)
      rw [List.map_cons, List.cons_append] at hf ⊢
      rw [impl_asker_query.l1, isNumber_eq _ _ hf, bd, show nextNum (Lib.itoa x :: (l.map Lib.itoa ++ rest)) = true from by show (numOf (Lib.itoa x)).2 = true; rw [numOf_itoa (by omega)], cond_true, number_itoa (by omega) _ _ hf, bd, bd, appO_ok (by simp only [List.length_cons, List.length_nil]; omega), bd]
      rw [ih k (cs ++ [x]) (fun x hx => hc x (by simp [hx])) (by omega) hf.cons (by simp only [List.length_append, List.length_cons, List.length_nil]; omega), List.append_assoc]
      rfl
theorem kids_nonum (q : Query) : nextNum (kidsW q) = false := by unfold kidsW; split <;> rfl
theorem few_words {q : Query} (Q : QRight q) : Few (qwords q) := by
  have h := len_qtext Q
  have e : (qtext q).length = 4 + (jt (restW q)).length := by unfold qtext; rw [List.length_append]; rfl
  have e2 := len_jt (restW q)
  have e3 : ∀ (ws : List (List UInt8)) w, w ∈ ws → w.length ≤ Lib.lens ws := by
    intro ws
    induction ws with
    | nil => intro w hw; cases hw
    | cons x ws ih =>
      intro w hw
      have : Lib.lens (x :: ws) = x.length + Lib.lens ws := by simp [Lib.lens]
      rcases List.mem_cons.1 hw with rfl | hw
      · omega
      · have := ih w hw; omega
  refine ⟨by unfold qwords; rw [List.length_cons]; omega, fun w hw => ?_⟩
  rcases List.mem_cons.1 hw with rfl | hw
  · simp
  · have := e3 _ w hw; omega
theorem query_right {q : Query} (Q : QRight q) : impl_asker_query.f ⟨(qwords q).map bl, false⟩ = some (⟨[], false⟩, q) := by
  have hf := few_words Q
  have ht := Q.t
  have ho := Q.o
  have hff := Q.f
  have hk := Q.k
  have hkc := Q.kc
  have hW := Q.w
  have hsl := Q.sl
  unfold qwords restW at hf ⊢
  unfold impl_asker_query.f
  rw [show ByteArray.mk #[102, 114, 111, 109] = bl [102, 114, 111, 109] from rfl, take_eq, bd]
  dsimp only
  rw [show ∀ r, nextIs ([102, 114, 111, 109] :: r) [102, 114, 111, 109] = true from fun _ => rfl, cond_true, show bo3 true false true = false from rfl, List.tail_cons, number_itoa (by omega) _ _ hf.cons, bd, joinK_eq]
  refine (right_l0 _ _ ?_ q.Where _ [] Q.c ?_ hf.cons.cons (by rw [List.length_nil]; omega)).trans ?_
  · unfold orderW firstW showW kidsW
    (repeat' split) <;> rfl
  · have := (jt_where Q.c).2
    simp only [List.length_map, List.length_cons, List.length_append]
    omega
  have hf1 : Few (orderW q ++ (firstW q ++ (showW q.Show ++ kidsW q))) := hf.cons.cons.right
  rw [List.nil_append, joinK_eq]
  obtain ⟨N, hN⟩ : ∃ N, N = (([102, 114, 111, 109] :: Lib.itoa q.Table :: (whereW q.Where ++ (orderW q ++ (firstW q ++ (showW q.Show ++ kidsW q))))).map bl).length + 2 := ⟨_, rfl⟩
  rw [← hN]
  have hNl : q.Show.length < N := by
    rw [hN]
    have : q.Show.length ≤ (showW q.Show).length := by
      unfold showW
      split
      · rename_i h; rw [h]; simp
      · simp
    simp only [List.length_map, List.length_cons, List.length_append]
    omega
  clear hN
  have fin : ∀ (o f : Int) (d : Bool) (sh : List Int), Few (kidsW q) → o = q.Order → f = q.First → d = q.Down → sh = q.Show → ((impl_asker_take.f (asker.mk ((kidsW q).map bl) false) (ByteArray.mk #[107, 105, 100, 115])).bind fun r122 =>
      bif r122.2 then (
      (impl_asker_number.f r122.1).bind fun r124 =>
      (impl_asker_number.f r124.1).bind fun r125 =>
      some (r125.1, (Query.mk q.Table q.Where o d f sh true r124.2 r125.2)))
      else (
      some (r122.1, (Query.mk q.Table q.Where o d f sh false 0 0)))) = some (⟨[], false⟩, q) := by
    rintro o f d sh hfk rfl rfl rfl rfl
    rw [show ByteArray.mk #[107, 105, 100, 115] = bl [107, 105, 100, 115] from rfl, take_eq, bd]
    unfold kidsW at hfk ⊢
    cases hK : q.Kids with
    | true =>
      rw [hK] at hfk
      rw [if_pos rfl] at hfk ⊢
      show ((impl_asker_number.f ⟨[Lib.itoa q.KidTable, Lib.itoa q.KidCol].map bl, false⟩).bind _) = _
      rw [number_itoa (by omega) _ _ hfk.cons, bd, number_itoa (by omega) _ _ hfk.cons.cons, bd]
      cases q; simp_all
    | false =>
      have := Q.k0 hK
      rw [if_neg (by simp)]
      show some ((⟨[], false⟩ : asker), _) = _
      cases q; simp_all
  have stage76 : ∀ (o f : Int) (d : Bool), Few (showW q.Show ++ kidsW q) → o = q.Order → f = q.First → d = q.Down → joinK (fun (y73 : List ByteArray) (y74 : Bool) (y75 : List Int) =>
        (impl_asker_take.f (asker.mk y73 y74) (ByteArray.mk #[107, 105, 100, 115])).bind fun r122 =>
        bif r122.2 then (
        (impl_asker_number.f r122.1).bind fun r124 =>
        (impl_asker_number.f r124.1).bind fun r125 =>
        some (r125.1, (Query.mk q.Table q.Where o d f y75 true r124.2 r125.2)))
        else (
        some (r122.1, (Query.mk q.Table q.Where o d f y75 false 0 0)))) (fun K76 =>
        (impl_asker_take.f (asker.mk ((showW q.Show ++ kidsW q).map bl) false) (ByteArray.mk #[115, 104, 111, 119])).bind fun r77 =>
        bif r77.2 then (
        impl_asker_query.l1 K76 N r77.1.words r77.1.bad [])
        else (
        K76 r77.1.words r77.1.bad [])) = some (⟨[], false⟩, q) := by
    intro o f d hfs eo ef ed
    have hfk : Few (kidsW q) := hfs.right
    rw [joinK_eq, show ByteArray.mk #[115, 104, 111, 119] = bl [115, 104, 111, 119] from rfl, take_eq, bd]
    dsimp only
    by_cases hs : q.Show = []
    · rw [show showW q.Show = [] from if_pos hs, List.nil_append, show nextIs (kidsW q) [115, 104, 111, 119] = false from by unfold kidsW; split <;> rfl, cond_false, cond_false]
      exact fin o f d [] hfk eo ef ed hs.symm
    · have es : showW q.Show = [115, 104, 111, 119] :: q.Show.map Lib.itoa := if_neg hs
      have hfm : Few (q.Show.map Lib.itoa ++ kidsW q) := by rw [es] at hfs; exact hfs.cons
      rw [show nextIs (showW q.Show ++ kidsW q) [115, 104, 111, 119] = true from by rw [es]; rfl, cond_true, cond_true, show (showW q.Show ++ kidsW q).tail = q.Show.map Lib.itoa ++ kidsW q from by rw [es]; rfl]
      refine (right_l1 _ _ (kids_nonum q) q.Show _ [] Q.s hNl hfm (by rw [List.length_nil]; omega)).trans ?_
      exact fin o f d q.Show hfk eo ef ed rfl
  have stage69 : ∀ (o : Int) (d : Bool), Few (firstW q ++ (showW q.Show ++ kidsW q)) → o = q.Order → d = q.Down → joinK (fun (y66 : List ByteArray) (y67 : Bool) (y68 : Int) =>
      joinK (fun (y73 : List ByteArray) (y74 : Bool) (y75 : List Int) =>
        (impl_asker_take.f (asker.mk y73 y74) (ByteArray.mk #[107, 105, 100, 115])).bind fun r122 =>
        bif r122.2 then (
        (impl_asker_number.f r122.1).bind fun r124 =>
        (impl_asker_number.f r124.1).bind fun r125 =>
        some (r125.1, (Query.mk q.Table q.Where o d y68 y75 true r124.2 r125.2)))
        else (
        some (r122.1, (Query.mk q.Table q.Where o d y68 y75 false 0 0)))) (fun K76 =>
        (impl_asker_take.f (asker.mk y66 y67) (ByteArray.mk #[115, 104, 111, 119])).bind fun r77 =>
        bif r77.2 then (
        impl_asker_query.l1 K76 N r77.1.words r77.1.bad [])
        else (
        K76 r77.1.words r77.1.bad []))) (fun K69 =>
        (impl_asker_take.f (asker.mk ((firstW q ++ (showW q.Show ++ kidsW q)).map bl) false) (ByteArray.mk #[102, 105, 114, 115, 116])).bind fun r70 =>
        bif r70.2 then (
        (impl_asker_number.f r70.1).bind fun r72 =>
        K69 r72.1.words r72.1.bad r72.2)
        else (
        K69 r70.1.words r70.1.bad 0)) = some (⟨[], false⟩, q) := by
    intro o d hfs eo ed
    have hfk : Few (showW q.Show ++ kidsW q) := hfs.right
    rw [joinK_eq, show ByteArray.mk #[102, 105, 114, 115, 116] = bl [102, 105, 114, 115, 116] from rfl, take_eq, bd]
    dsimp only
    by_cases hs : q.First = 0
    · rw [show firstW q = [] from if_neg (by simp [hs]), List.nil_append, show nextIs (showW q.Show ++ kidsW q) [102, 105, 114, 115, 116] = false from by unfold showW kidsW; (repeat' split) <;> rfl, cond_false, cond_false]
      exact stage76 o 0 d hfk eo hs.symm ed
    · have es : firstW q = [[102, 105, 114, 115, 116], Lib.itoa q.First] := if_pos hs
      rw [es] at hfs
      have hfx : Few (Lib.itoa q.First :: (showW q.Show ++ kidsW q)) := hfs.cons
      rw [show nextIs (firstW q ++ (showW q.Show ++ kidsW q)) [102, 105, 114, 115, 116] = true from by rw [es]; rfl, cond_true, cond_true, show (firstW q ++ (showW q.Show ++ kidsW q)).tail = Lib.itoa q.First :: (showW q.Show ++ kidsW q) from by rw [es]; rfl, number_itoa (by omega) _ _ hfx, bd]
      exact stage76 o q.First d hfk eo rfl ed
  have hf2 : Few (firstW q ++ (showW q.Show ++ kidsW q)) := hf1.right
  rw [show ByteArray.mk #[111, 114, 100, 101, 114] = bl [111, 114, 100, 101, 114] from rfl, take_eq, bd]
  dsimp only
  by_cases hs : q.Order = 0
  · have hd : q.Down = false := by
      cases h : q.Down with
      | false => rfl
      | true => have := Q.d h; omega
    rw [show orderW q = [] from if_neg (by simp [hs]), List.nil_append, show nextIs (firstW q ++ (showW q.Show ++ kidsW q)) [111, 114, 100, 101, 114] = false from by unfold firstW showW kidsW; (repeat' split) <;> rfl, cond_false, cond_false]
    exact stage69 0 false hf2 hs.symm hd.symm
  · have es : orderW q = [111, 114, 100, 101, 114] :: Lib.itoa (q.Order - 1) :: downW q := if_pos hs
    have hf1' := hf1
    rw [es] at hf1'
    have hfx : Few (Lib.itoa (q.Order - 1) :: (downW q ++ (firstW q ++ (showW q.Show ++ kidsW q)))) := hf1'.cons
    rw [show nextIs (orderW q ++ (firstW q ++ (showW q.Show ++ kidsW q))) [111, 114, 100, 101, 114] = true from by rw [es]; rfl, cond_true, cond_true, show (orderW q ++ (firstW q ++ (showW q.Show ++ kidsW q))).tail = Lib.itoa (q.Order - 1) :: (downW q ++ (firstW q ++ (showW q.Show ++ kidsW q))) from by rw [es]; rfl, number_itoa (by omega) _ _ hfx, bd, show ByteArray.mk #[100, 111, 119, 110] = bl [100, 111, 119, 110] from rfl, take_eq, bd]
    dsimp only
    rw [w64_id (x := q.Order - 1 + 1) (by omega)]
    unfold downW
    cases hd : q.Down with
    | true =>
      rw [if_pos rfl]
      exact stage69 (q.Order - 1 + 1) true hf2 (by omega) hd.symm
    | false =>
      rw [if_neg (by simp), List.nil_append, show nextIs (firstW q ++ (showW q.Show ++ kidsW q)) [100, 111, 119, 110] = false from by unfold firstW showW kidsW; (repeat' split) <;> rfl]
      exact stage69 (q.Order - 1 + 1) false hf2 (by omega) hd.symm

theorem impl_QueryRead_eq (s : Schema) (t : List UInt8) (hs : Schema_b s) (ht : t.length ≤ 1048576) : impl_QueryRead.f s (bl t) = some (readF s t) := by
  unfold impl_QueryRead.f
  rw [strings_Split_eq t (by omega), bd]
  obtain ⟨hw1, hw2⟩ := words_len t
  have hf : Few (words t) := ⟨by omega, fun w hw => by have := hw2 w hw; omega⟩
  by_cases h : ∃ q, queryB s q = true ∧ qtext q = t
  · obtain ⟨q, e, hq, rfl⟩ := readF_yes h
    have Q := queryB_QR hq
    have hb : Query_b q := QB_of (by have := Q.w; omega) (by have := Q.sl; omega)
    rw [words_qtext, query_right Q, bd]
    show ((gd (bo3 (bo3 false true (decide (0 < lenI ([] : List ByteArray)))) false true) (impl_QueryOk.f s q)).bind _) = _
    rw [show decide (0 < lenI ([] : List ByteArray)) = false from rfl, show bo3 (bo3 false true false) false true = true from rfl, gd_true, impl_QueryOk_eq s q hs hb, bd, hq]
    show ((gd (bo3 (bo3 (bo3 false true (decide (0 < lenI ([] : List ByteArray)))) true (bo3 true false true)) false true) (impl_QueryText.f s q)).bind _) = _
    rw [show bo3 (bo3 (bo3 false true (decide (0 < lenI ([] : List ByteArray)))) true (bo3 true false true)) false true = true from rfl, gd_true, impl_QueryText_eq s q hs hb, bd, hq, if_pos rfl, str_ne, decide_eq_true rfl, e]
    rfl
  · obtain ⟨w', b', q, e, h1, h2⟩ := query_ok (words t) false hf
    have hb : Query_b q := QB_of (by omega) (by omega)
    rw [e, bd, readF_no h]
    dsimp only
    generalize bo3 b' true (decide (0 < lenI (w'.map bl))) = B
    cases B with
    | true => rfl
    | false =>
      rw [show bo3 false false true = true from rfl, gd_true, impl_QueryOk_eq s q hs hb, bd]
      cases hq : queryB s q with
      | false => rfl
      | true =>
        rw [show bo3 (bo3 false true (bo3 true false true)) false true = true from rfl, gd_true, impl_QueryText_eq s q hs hb, bd, hq, if_pos rfl, str_ne, decide_eq_false (fun e => h ⟨q, hq, e⟩)]
        rfl

def Hd_Int (x : Int) (q q' : Int) : Prop := x = q ∧ q' = q + 1
theorem Hd_Int_mono (x : Int) (q q' : Int) (h : Hd_Int x q q') : q ≤ q' := by
  obtain ⟨e0, rfl⟩ := h
  omega
theorem mark_IntS (l : List Int) (q : Int) (hq : 0 ≤ q) (hB : q + 16 * sz_IntS l ≤ 4611686018427387904) : ∃ l' q', laws_markIntS.f l q = some (l', q') ∧ laws_heldIntS.f l' q = some q' ∧ q ≤ q' ∧ q' ≤ q + 16 * sz_IntS l := by
  unfold sz_IntS at hB
  have hz : (l.length : Int) ≤ 288230376151711744 := by omega
  have step : ∀ k (i : Nat) (s : List Int) (x : Int) (q : Int), s.length = l.length → s[i]? = some x → 0 ≤ q → q + (fun _ => 16 * (1 + 0)) x ≤ 4611686018427387904 → ∃ x' q', laws_markIntS.l0 (k + 1) s q i = laws_markIntS.l0 k (s.set i x') q' ((i + 1 : Nat) : Int) ∧ q ≤ q' ∧ q' ≤ q + (fun _ => 16 * (1 + 0)) x ∧ Hd_Int x' q q' := by
    intro k i s x q hn hx hq hB
    have hi := at_lt hx
    have g0 : getO s i = some x := by rw [getO_nat, hx]
    have hB : q + 16 * (1 + 0) ≤ 4611686018427387904 := hB
    have w0 : w64 (q + 1) = q + 1 := w64_id (by omega)
    refine ⟨(q), q + 1, ?_, by omega, ?_, ⟨rfl, rfl⟩⟩
    · rw [laws_markIntS.l0, lenI_eq, decide_eq_true (by omega), cond_true]
      simp only [g0, get_set g0, setI_setI, Option.bind_some, w0]
      rw [w64_succ (by omega), setI_nat]
    · show _ ≤ q + 16 * (1 + 0); omega
  have last : ∀ k (s : List Int) (q : Int) (i : Nat), i = s.length → laws_markIntS.l0 (k + 1) s q i = some (s, q) := by
    intro k s q i hi
    rw [laws_markIntS.l0, lenI_eq, decide_eq_false (by omega), cond_false]
  obtain ⟨l', q', m, hl, _, lo, hi, hd⟩ := loop_mark (fm := laws_markIntS.l0) l.length 4611686018427387904 (fun _ => 16 * (1 + 0)) Hd_Int (fun _ => by decide) step last (((lenI l) - 0).toNat + 1) 0 l q rfl (by omega) (by simp only [lenI_eq]; omega) hq (by rw [List.drop_zero, sum_0]; omega)
  refine ⟨l', q', m, ?_, lo, ?_⟩
  · unfold laws_heldIntS.f
    refine loop_held (fh := laws_heldIntS.l0 l') (l := l') Hd_Int Hd_Int_mono (fun k i x q q' hx hd hq hB => ?_) (fun k q i hi => ?_) _ 0 q q' (by omega) (by simp only [lenI_eq]; omega) hq (by rw [List.drop_zero, sum_0] at hi; omega) (by rw [List.drop_zero] at hd; exact hd)
    · have hi := at_lt hx
      obtain ⟨e0, rfl⟩ := hd
      have w0 : w64 (q + 1) = q + 1 := w64_id (by omega)
      rw [laws_heldIntS.l0, lenI_eq, decide_eq_true (by omega), cond_true, getO_nat, hx, Option.bind_some]
      simp only [e0, w0, ne_eq, not_true_eq_false, decide_false, cond_false, Option.bind_some, bo3_self]
      rw [w64_succ (by omega)]
    · rw [laws_heldIntS.l0, lenI_eq, decide_eq_false (by omega), cond_false]
  · rw [List.drop_zero, sum_0] at hi; unfold sz_IntS; omega
theorem mark_Schema (x : Schema) (q : Int) (hq : 0 ≤ q) (hB : q + 16 * sz_Schema x ≤ 4611686018427387904) : ∃ s0 q', laws_markSchema.f x q = some ((Schema.mk s0), q') ∧ True ∧ q ≤ q' ∧ q' ≤ q + 16 * sz_Schema x := by
  unfold sz_Schema at hB ⊢
  have p_Cols := sz_IntS_0 x.Cols
  obtain ⟨s0, q0, m0, d0, a0, b0⟩ := mark_IntS x.Cols q (by omega) (by omega)
  have n0 : ¬ q0 < 0 := by omega
  refine ⟨s0, q0, ?_, ?_, by omega, by omega⟩
  · unfold laws_markSchema.f; simp only [m0, Option.bind_some]
  · trivial
def Hd_Cond (x : Cond) (q q' : Int) : Prop := x.Col = q ∧ x.Op = q + 1 ∧ x.V = q + 1 + 1 ∧ q' = q + 1 + 1 + 1
theorem Hd_Cond_mono (x : Cond) (q q' : Int) (h : Hd_Cond x q q') : q ≤ q' := by
  obtain ⟨e0, e1, e2, rfl⟩ := h
  omega
theorem mark_CondS (l : List Cond) (q : Int) (hq : 0 ≤ q) (hB : q + 16 * sz_CondS l ≤ 4611686018427387904) : ∃ l' q', laws_markCondS.f l q = some (l', q') ∧ laws_heldCondS.f l' q = some q' ∧ q ≤ q' ∧ q' ≤ q + 16 * sz_CondS l := by
  unfold sz_CondS at hB
  have hz : (l.length : Int) ≤ 288230376151711744 := by omega
  have step : ∀ k (i : Nat) (s : List Cond) (x : Cond) (q : Int), s.length = l.length → s[i]? = some x → 0 ≤ q → q + (fun _ => 16 * (1 + 0)) x ≤ 4611686018427387904 → ∃ x' q', laws_markCondS.l0 (k + 1) s q i = laws_markCondS.l0 k (s.set i x') q' ((i + 1 : Nat) : Int) ∧ q ≤ q' ∧ q' ≤ q + (fun _ => 16 * (1 + 0)) x ∧ Hd_Cond x' q q' := by
    intro k i s x q hn hx hq hB
    have hi := at_lt hx
    have g0 : getO s i = some x := by rw [getO_nat, hx]
    have hB : q + 16 * (1 + 0) ≤ 4611686018427387904 := hB
    have w0 : w64 (q + 1) = q + 1 := w64_id (by omega)
    have w1 : w64 (q + 1 + 1) = q + 1 + 1 := w64_id (by omega)
    have w2 : w64 (q + 1 + 1 + 1) = q + 1 + 1 + 1 := w64_id (by omega)
    refine ⟨(Cond.mk (q) (q + 1) (q + 1 + 1)), q + 1 + 1 + 1, ?_, by omega, ?_, ⟨rfl, rfl, rfl, rfl⟩⟩
    · rw [laws_markCondS.l0, lenI_eq, decide_eq_true (by omega), cond_true]
      simp only [g0, get_set g0, setI_setI, Option.bind_some, w0, w1, w2]
      rw [w64_succ (by omega), setI_nat]
    · show _ ≤ q + 16 * (1 + 0); omega
  have last : ∀ k (s : List Cond) (q : Int) (i : Nat), i = s.length → laws_markCondS.l0 (k + 1) s q i = some (s, q) := by
    intro k s q i hi
    rw [laws_markCondS.l0, lenI_eq, decide_eq_false (by omega), cond_false]
  obtain ⟨l', q', m, hl, _, lo, hi, hd⟩ := loop_mark (fm := laws_markCondS.l0) l.length 4611686018427387904 (fun _ => 16 * (1 + 0)) Hd_Cond (fun _ => by decide) step last (((lenI l) - 0).toNat + 1) 0 l q rfl (by omega) (by simp only [lenI_eq]; omega) hq (by rw [List.drop_zero, sum_0]; omega)
  refine ⟨l', q', m, ?_, lo, ?_⟩
  · unfold laws_heldCondS.f
    refine loop_held (fh := laws_heldCondS.l0 l') (l := l') Hd_Cond Hd_Cond_mono (fun k i x q q' hx hd hq hB => ?_) (fun k q i hi => ?_) _ 0 q q' (by omega) (by simp only [lenI_eq]; omega) hq (by rw [List.drop_zero, sum_0] at hi; omega) (by rw [List.drop_zero] at hd; exact hd)
    · have hi := at_lt hx
      obtain ⟨e0, e1, e2, rfl⟩ := hd
      have w0 : w64 (q + 1) = q + 1 := w64_id (by omega)
      have w1 : w64 (q + 1 + 1) = q + 1 + 1 := w64_id (by omega)
      have w2 : w64 (q + 1 + 1 + 1) = q + 1 + 1 + 1 := w64_id (by omega)
      rw [laws_heldCondS.l0, lenI_eq, decide_eq_true (by omega), cond_true, getO_nat, hx, Option.bind_some]
      simp only [e0, e1, e2, w0, w1, w2, ne_eq, not_true_eq_false, decide_false, cond_false, Option.bind_some, bo3_self]
      rw [w64_succ (by omega)]
    · rw [laws_heldCondS.l0, lenI_eq, decide_eq_false (by omega), cond_false]
  · rw [List.drop_zero, sum_0] at hi; unfold sz_CondS; omega
theorem mark_Query (x : Query) (q : Int) (hq : 0 ≤ q) (hB : q + 16 * sz_Query x ≤ 4611686018427387904) : ∃ s0 s1 q', laws_markQuery.f x q = some ((Query.mk x.Table s0 x.Order x.Down x.First s1 x.Kids x.KidTable x.KidCol), q') ∧ laws_heldQuery.f (Query.mk x.Table s0 x.Order x.Down x.First s1 x.Kids x.KidTable x.KidCol) q = some q' ∧ q ≤ q' ∧ q' ≤ q + 16 * sz_Query x := by
  unfold sz_Query at hB ⊢
  have p_Where := sz_CondS_0 x.Where
  have p_Show := sz_IntS_0 x.Show
  obtain ⟨s0, q0, m0, d0, a0, b0⟩ := mark_CondS x.Where q (by omega) (by omega)
  have n0 : ¬ q0 < 0 := by omega
  obtain ⟨s1, q1, m1, d1, a1, b1⟩ := mark_IntS x.Show q0 (by omega) (by omega)
  have n1 : ¬ q1 < 0 := by omega
  refine ⟨s0, s1, q1, ?_, ?_, by omega, by omega⟩
  · unfold laws_markQuery.f; simp only [m0, m1, Option.bind_some]
  · unfold laws_heldQuery.f; simp only [d0, n0, d1, n1, decide_false, cond_false, Option.bind_some]
theorem laws_szIntS_eq (a : List Int) (n : Int) (hn : 0 ≤ n ∧ n ≤ 1048576) (hb : IntS_b a) : laws_szIntS.f a n = some (if n < sz_IntS a then -1 else n - sz_IntS a) := by
  unfold laws_szIntS.f sz_IntS
  unfold IntS_b at hb
  rw [lenI_eq, w64_id (by omega)]
  by_cases c : n < (a.length : Int)
  · rw [if_pos c, decide_eq_true (by omega), cond_true]
  · rw [if_neg c, decide_eq_false (by omega), cond_false]
theorem laws_szSchema_eq (a : Schema) (n : Int) (hn : 0 ≤ n ∧ n ≤ 1048576) (hb : Schema_b a) : laws_szSchema.f a n = some (if n < sz_Schema a then -1 else n - sz_Schema a) := by
  unfold laws_szSchema.f sz_Schema
  have h0 := hb
  have p_Cols := sz_IntS_0 a.Cols
  rw [laws_szIntS_eq _ _ (by omega) h0, Option.bind_some]
  by_cases c0 : n < sz_IntS a.Cols
  · rw [if_pos c0]; rfl
  · rw [if_neg c0, decide_eq_false (by omega), cond_false]
theorem readF_small (s : Schema) (t : List UInt8) : Query_b (readF s t).1 ∧ sz_Query (readF s t).1 ≤ 100 := by
  by_cases h : ∃ q, queryB s q = true ∧ qtext q = t
  · obtain ⟨q, e, hq, rfl⟩ := readF_yes h
    have Q := queryB_QR hq
    have hb : Query_b q := QB_of (by have := Q.w; omega) (by have := Q.sl; omega)
    rw [e]
    refine ⟨hb, ?_⟩
    show sz_CondS q.Where + sz_IntS q.Show ≤ 100
    unfold sz_CondS sz_IntS
    have := Q.w
    have := Q.sl
    omega
  · rw [readF_no h]
    exact ⟨QB_of (by decide) (by decide), by decide⟩

theorem laws_FnExactQueryRead_pure (a0 : Schema) (b0 : Schema_b a0) (r0 : Schema_r a0) (a1 : ByteArray) (b1 : a1.size ≤ 9223372036854775807) : laws_FnExactQueryRead.f a0 a1 = some true := by
  unfold laws_FnExactQueryRead.f
  obtain ⟨t, rfl⟩ := bl_ex a1
  rw [sl_bl]
  by_cases ct : 1048576 < (t.length : Int)
  · rw [decide_eq_true ct]; rfl
  rw [decide_eq_false ct, cond_false]
  have p0 := sz_Schema_0 a0
  rw [laws_szSchema_eq _ _ (by omega) b0, Option.bind_some]
  by_cases c0 : 1048576 < sz_Schema a0
  · rw [if_pos c0]; rfl
  rw [if_neg c0, decide_eq_false (by omega), cond_false]
  have hs := spec_QueryRead_eq a0 t b0 (by omega)
  have hi := impl_QueryRead_eq a0 t b0 (by omega)
  obtain ⟨bv0, zv0⟩ := readF_small a0 t
  generalize readF a0 t = v at *
  obtain ⟨v0, v1⟩ := v
  dsimp only at bv0 zv0
  have t0 := laws_toSchema_eq a0 (by omega)
  have e0 : laws_eqSchema.f a0 a0 = some true := by rw [laws_eqSchema_eq _ _ b0 b0, decide_eq_true rfl]
  have ev0 : laws_eqQuery.f v0 v0 = some true := by rw [laws_eqQuery_eq _ _ bv0 bv0, decide_eq_true rfl]
  obtain ⟨g0_0, k0, mk0, dk0, lo0, hi0⟩ := mark_Schema a0 1 (by omega) (by omega)
  have nk : ¬ k0 < 0 := by omega
  have pv0 := sz_Query_0 v0
  obtain ⟨gw0_0, gw0_1, w0, mw0, dw0, low0, hiw0⟩ := mark_Query v0 1 (by omega) (by omega)
  have nw0 : ¬ w0 < 0 := by omega
  simp only [t0, e0, ev0, mk0, nk, mw0, dw0, nw0, hs, hi, Option.bind_some, bo3_self, bo3_F, bo3_T, gd_true, cond_false, ne_eq, not_true_eq_false, decide_false]

end Go.Proofs.YtcpekllcbimpmaaDoor.L
