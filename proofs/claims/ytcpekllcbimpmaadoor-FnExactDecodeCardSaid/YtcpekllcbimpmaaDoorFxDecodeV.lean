/- What the pure functions give. -/
import Derived.Test.YtcpekllcbimpmaaDoorPv0
import Derived.Test.YtcpekllcbimpmaaDoorFxDecodeU
namespace Go.Proofs.YtcpekllcbimpmaaDoor.L
open Go
set_option linter.unusedVariables false
set_option linter.unusedSimpArgs false
def bl (l : List UInt8) : ByteArray := ⟨l.toArray⟩
theorem bl_sa (a b : List UInt8) : Ls.sa (bl a) (bl b) = bl (a ++ b) := by
  show (bl a ++ bl b) = _
  apply ByteArray.ext
  simp [bl]
theorem bl_size (a : List UInt8) : (bl a).size = a.length := rfl
theorem bsO_one (n : Nat) (h : n < 256) : bsO [(n : Int)] = bl [UInt8.ofNat n] := rfl
def digs (u : Nat) : List UInt8 := if u = 0 then [] else Lib.decDigits u
theorem digs_step {u : Nat} (h : 0 < u) : digs u = digs (u / 10) ++ [UInt8.ofNat (48 + u % 10)] := by
  unfold digs
  rw [if_neg (by omega), Lib.decDigits]
  split
  · rename_i c
    rw [if_pos (by omega)]
    have : u % 10 = u := by omega
    rw [this]; rfl
  · rw [if_neg (by omega)]
theorem wrap8 {n : Nat} (h : n < 256) : IntKind.wrap .u8 (n : Int) = n := by simp [IntKind.wrap, IntKind.signed, IntKind.bits]; omega
theorem smO_ok {x y : ByteArray} (h : (x.size + y.size : Int) ≤ 9223372036854775807) : smO x y = some () := by unfold smO; rw [if_pos h]
theorem decDigits_len : ∀ (k u : Nat), u < 10 ^ k → (digs u).length ≤ k := by
  intro k
  induction k with
  | zero => intro u h; have : u = 0 := by simpa using h
            subst this; simp [digs]
  | succ k ih =>
    intro u h
    by_cases h0 : u = 0
    · subst h0; simp [digs]
    · rw [digs_step (by omega)]
      have := ih (u / 10) (by rw [Nat.pow_succ] at h; omega)
      simp only [List.length_append, List.length_cons, List.length_nil]; omega

/-- A text's words: what stands between its spaces. -/
def words : List UInt8 → List (List UInt8)
  | [] => [[]]
  | c :: r => if c = 32 then [] :: words r else match words r with
    | [] => [[c]]
    | w :: ws => (c :: w) :: ws
theorem words_ne : ∀ s, words s ≠ []
  | [] => by simp [words]
  | c :: r => by
    unfold words
    split
    · simp
    · split <;> simp
theorem words_free : ∀ {w : List UInt8}, (32 : UInt8) ∉ w → words w = [w]
  | [], _ => rfl
  | c :: w, h => by
    have h1 : c ≠ 32 := fun e => h (by simp [e])
    rw [words, if_neg h1, words_free (w := w) (fun e => h (by simp [e]))]
theorem words_app : ∀ {w : List UInt8} (r : List UInt8), (32 : UInt8) ∉ w → words (w ++ 32 :: r) = w :: words r
  | [], r, _ => by simp [words]
  | c :: w, r, h => by
    have h1 : c ≠ 32 := fun e => h (by simp [e])
    rw [List.cons_append, words, if_neg h1, words_app r (w := w) (fun e => h (by simp [e]))]
theorem words_jt : ∀ (ws : List (List UInt8)) (w : List UInt8), (32 : UInt8) ∉ w → (∀ x ∈ ws, (32 : UInt8) ∉ x) → words (w ++ Lib.joinTail [32] ws) = w :: ws
  | [], w, h, _ => by simp [Lib.joinTail, words_free h]
  | x :: ws, w, h, hs => by
    have e : Lib.joinTail [32] (x :: ws) = 32 :: (x ++ Lib.joinTail [32] ws) := by simp [Lib.joinTail]
    rw [e, words_app _ h, words_jt ws x (hs x (by simp)) (fun y hy => hs y (by simp [hy]))]
theorem words_len : ∀ s : List UInt8, (words s).length ≤ s.length + 1 ∧ ∀ w ∈ words s, w.length ≤ s.length
  | [] => by simp [words]
  | c :: r => by
    obtain ⟨h1, h2⟩ := words_len r
    unfold words
    split
    · refine ⟨by simp only [List.length_cons]; omega, fun w hw => ?_⟩
      rcases List.mem_cons.1 hw with rfl | hw
      · simp
      · have := h2 w hw; simp only [List.length_cons]; omega
    · split
      · refine ⟨by simp, fun w hw => ?_⟩
        simp only [List.mem_cons, List.not_mem_nil, or_false] at hw
        subst hw; simp
      · rename_i w0 ws e
        rw [e] at h1 h2
        refine ⟨by simp only [List.length_cons] at *; omega, fun w hw => ?_⟩
        rcases List.mem_cons.1 hw with rfl | hw
        · have := h2 w0 (by simp); simp only [List.length_cons]; omega
        · have := h2 w (by simp [hw]); simp only [List.length_cons]; omega
theorem occ_one {s : List UInt8} {j : Nat} : Lib.occAt s [32] j = true ↔ s[j]? = some 32 := by
  unfold Lib.occAt
  constructor
  · intro h
    cases hd : s.drop j with
    | nil => rw [hd] at h; simp at h
    | cons a l =>
      rw [hd] at h
      have ha : (32 : UInt8) = a := by simpa using h
      have := congrArg (fun l => l[0]?) hd
      simp only [List.getElem?_drop, Nat.add_zero, List.getElem?_cons_zero] at this
      rw [this, ha]
  · intro h
    obtain ⟨hj, e⟩ := List.getElem?_eq_some_iff.1 h
    rw [List.drop_eq_getElem_cons hj, e]
    simp
theorem splitK_words : ∀ (n : Nat) (s : List UInt8) (k : Nat), s.length ≤ n → Lib.count s [32] ≤ k → Lib.splitK [32] 0 k s = words s
  | n, s, k, hn, hk => by
    rcases Lib.index_spec s [32] with ⟨h, hf⟩ | ⟨i, h, hi, ho, hf⟩
    · have h0 : (32 : UInt8) ∉ s := by
        intro hm
        obtain ⟨j, hj⟩ := List.mem_iff_getElem?.1 hm
        have := occ_one.2 hj
        rw [hf j (by have := at_lt hj; omega)] at this
        cases this
      rw [words_free h0]
      cases k with
      | zero => rfl
      | succ k => unfold Lib.splitK; rw [if_pos (beq_iff_eq.2 h)]
    · have h1 := occ_one.1 ho
      obtain ⟨hil, he⟩ := List.getElem?_eq_some_iff.1 h1
      have hc := Lib.count_hit (by simp) h
      rw [show i + [(32 : UInt8)].length = i + 1 from rfl] at hc
      have hs : s = s.take i ++ 32 :: s.drop (i + 1) := by
        conv => lhs; rw [← List.take_append_drop i s, List.drop_eq_getElem_cons hil, he]
      have h0 : (32 : UInt8) ∉ s.take i := by
        intro hm
        obtain ⟨j, hj⟩ := List.mem_iff_getElem?.1 hm
        have hjl := at_lt hj
        rw [List.length_take] at hjl
        rw [List.getElem?_take_of_lt (by omega)] at hj
        have h2 := occ_one.2 hj
        rw [hf j (by omega)] at h2
        cases h2
      cases k with
      | zero => omega
      | succ k =>
        have hm : ¬ (Lib.index s [32] == -1) = true := fun e => by have := beq_iff_eq.1 e; omega
        have e : (Lib.index s [32]).toNat = i := by omega
        unfold Lib.splitK
        rw [if_neg hm, e, Nat.add_zero, show i + [(32 : UInt8)].length = i + 1 from rfl]
        cases n with
        | zero => omega
        | succ n =>
          rw [splitK_words n (s.drop (i + 1)) k (by rw [List.length_drop]; omega) (by omega)]
          conv => rhs; rw [hs, words_app _ h0]
theorem bl_inj {a b : List UInt8} : bl a = bl b ↔ a = b := by
  constructor
  · intro h
    have := congrArg (fun x : ByteArray => x.data.toList) h
    simpa [bl] using this
  · exact congrArg _
theorem bl_toList (x : ByteArray) : bl x.data.toList = x := by
  cases x; simp [bl]
theorem data_bl (l : List UInt8) : (bl l).data.toList = l := by simp [bl]
theorem map_data {l : List ByteArray} {m : List (List UInt8)} (h : l.map (·.data.toList) = m) : l = m.map bl := by
  subst h
  rw [List.map_map]
  conv => lhs; rw [← List.map_id l]
  apply List.map_congr_left
  intro x _
  exact (bl_toList x).symm
theorem splitO_eq (t : List UInt8) (h : t.length < 4294967281) : splitO (bl t) (ByteArray.mk #[32]) = some ((words t).map bl) := by
  unfold splitO
  rw [if_pos ⟨rfl, h⟩]
  congr 1
  apply map_data
  rw [Lib.splitB_data]
  show Lib.splitK [32] 0 (Lib.count (bl t).data.toList [32]) (bl t).data.toList = words t
  rw [data_bl]
  exact splitK_words _ _ _ (Nat.le_refl _) (Nat.le_refl _)

theorem bl_ex (x : ByteArray) : ∃ l, x = bl l := ⟨_, (bl_toList x).symm⟩
theorem str_beq (a b : List UInt8) : ((bl a).toList == (bl b).toList) = decide (a = b) := by
  have e : ∀ z : ByteArray, z.toList = z.data.toList := fun z => ByteArray.toList_eq z
  rw [e, e, data_bl, data_bl]
  by_cases c : a = b
  · subst c; simp
  · rw [decide_eq_false c]; simpa using c
theorem str_eq (a b : List UInt8) : Ls.sc .eql (bl a) (bl b) = decide (a = b) := str_beq a b
theorem str_ne (a b : List UInt8) : Ls.sc .neq (bl a) (bl b) = !decide (a = b) := by
  show (!((bl a).toList == (bl b).toList)) = _
  rw [str_beq]
theorem sl_bl (a : List UInt8) : Ls.sl (bl a) = (a.length : Int) := rfl
theorem sx_bl {a : List UInt8} {i : Nat} {b : UInt8} (h : a[i]? = some b) : Ls.sx (bl a) (i : Int) = (b.toNat : Int) := by
  show (((bl a).data.toList.getD ((i : Nat) : Int).toNat 0).toNat : Int) = _
  rw [data_bl, Int.toNat_natCast, List.getD_eq_getElem?_getD, h]; rfl
theorem inS_bl {a : List UInt8} {i : Nat} (h : i < a.length) : inS (bl a) (i : Int) = some () := by
  unfold inS
  rw [if_pos ⟨by omega, by rw [bl_size]; omega⟩]
theorem cutS_bl {a : List UInt8} {lo hi : Nat} (h : lo ≤ hi) (h2 : hi ≤ a.length) : cutS (bl a) (lo : Int) (hi : Int) = some () := by
  unfold cutS
  rw [if_pos ⟨by omega, by omega, by rw [bl_size]; omega⟩]
theorem ss_bl (a : List UInt8) (lo hi : Nat) : Ls.ss (bl a) (lo : Int) (hi : Int) = bl ((a.take hi).drop lo) := by
  show (bl a).extract ((lo : Nat) : Int).toNat ((hi : Nat) : Int).toNat = _
  rw [Int.toNat_natCast, Int.toNat_natCast]
  apply ByteArray.ext
  simp [bl, List.extract_eq_take_drop, List.drop_take]
theorem bd {α β : Type} (a : α) (f : α → Option β) : (some a).bind f = f a := rfl

/-- The byte at a place; 0 behind the end. -/
def pk (s : List UInt8) (i : Nat) : Int := match s[i]? with
  | some c => (c.toNat : Int)
  | none => 0
theorem pk_range (s : List UInt8) (i : Nat) : 0 ≤ pk s i ∧ pk s i ≤ 255 := by
  unfold pk
  split
  · rename_i c _; have := UInt8.toNat_lt c; omega
  · omega
theorem pk_in {s : List UInt8} {i : Nat} (h : pk s i ≠ 0) : i < s.length := by
  unfold pk at h
  split at h
  · rename_i c hc; exact at_lt hc
  · exact absurd rfl h
theorem spec_l2Peek_eq (s : List UInt8) (i : Nat) (ok : Bool) (left : Int) : spec_l2Peek.f ⟨bl s, (i : Int), ok, left⟩ = some (pk s i) := by
  unfold spec_l2Peek.f pk
  dsimp only
  rw [sl_bl]
  by_cases h : i < s.length
  · have hx := List.getElem?_eq_getElem h
    rw [decide_eq_false (by omega), cond_false, inS_bl h, bd, sx_bl hx, hx]
  · rw [decide_eq_true (by omega), cond_true, List.getElem?_eq_none (by omega)]

theorem itoa_len {n : Int} {k : Nat} (hk : 0 < k) (h : n.natAbs < 10 ^ k) : (Lib.itoa n).length ≤ k + 1 := by
  have h1 := decDigits_len k n.natAbs h
  unfold digs at h1
  unfold Lib.itoa
  by_cases h0 : n.natAbs = 0
  · have : n = 0 := by omega
    subst this
    rw [if_neg (by omega), show (0 : Int).toNat = 0 from rfl, Lib.decDigits, dif_pos (by decide)]
    simp
  · rw [if_neg h0] at h1
    split
    · simp only [List.length_cons]; omega
    · rw [show n.toNat = n.natAbs by omega]; omega
theorem itoa_len11 {n : Int} (h : -1000000000 ≤ n ∧ n ≤ 1000000000) : (Lib.itoa n).length ≤ 11 := itoa_len (k := 10) (by decide) (by omega)
theorem addO_bl {a b : List UInt8} (h : a.length + b.length ≤ 4611686018427387904) : addO (bl a) (bl b) = some (bl (a ++ b)) := by
  unfold addO
  rw [if_pos (by rw [bl_size, bl_size]; omega)]
  exact congrArg some (bl_sa a b)
theorem dec_mem : ∀ (u : Nat), ∀ c ∈ Lib.decDigits u, 48 ≤ c.toNat ∧ c.toNat ≤ 57 := by
  intro u
  induction u using Nat.strongRecOn with
  | ind u ih =>
    intro c hc
    rw [Lib.decDigits] at hc
    split at hc
    · rename_i h
      simp only [List.mem_cons, List.not_mem_nil, or_false] at hc
      subst hc
      have : (UInt8.ofNat (48 + u)).toNat = 48 + u := by simp; omega
      omega
    · rename_i h
      rw [List.mem_append] at hc
      rcases hc with hc | hc
      · exact ih (u / 10) (by omega) c hc
      · simp only [List.mem_cons, List.not_mem_nil, or_false] at hc
        subst hc
        have : (UInt8.ofNat (48 + u % 10)).toNat = 48 + u % 10 := by simp; omega
        omega
theorem itoa_mem {n : Int} {c : UInt8} (h : c ∈ Lib.itoa n) : c.toNat = 45 ∨ 48 ≤ c.toNat ∧ c.toNat ≤ 57 := by
  unfold Lib.itoa at h
  split at h
  · rcases List.mem_cons.1 h with rfl | h
    · exact .inl rfl
    · exact .inr (dec_mem _ _ h)
  · exact .inr (dec_mem _ _ h)
theorem itoa_free (n : Int) : (32 : UInt8) ∉ Lib.itoa n := by
  intro h
  have := itoa_mem h
  have e : (32 : UInt8).toNat = 32 := rfl
  omega

theorem parse_app (d : UInt8) : ∀ (l : List UInt8) (acc : Nat), Lib.parseUint10 acc (l ++ [d]) = match Lib.parseUint10 acc l with
    | .ok v => Lib.parseUint10 v [d]
    | e => e
  | [], acc => rfl
  | c :: r, acc => by
    rw [List.cons_append]
    simp only [Lib.parseUint10]
    split
    · split
      · rfl
      · split
        · rfl
        · rw [parse_app d r]; simp only [Lib.parseUint10]
    · rfl
theorem parse_dec : ∀ (u : Nat), u < 10000000000000000000 → Lib.parseUint10 0 (Lib.decDigits u) = .ok u := by
  intro u
  induction u using Nat.strongRecOn with
  | ind u ih =>
    intro hu
    rw [Lib.decDigits]
    split
    · rename_i h
      have : (UInt8.ofNat (48 + u)).toNat = 48 + u := by simp; omega
      simp only [Lib.parseUint10, this]
      rw [if_pos (by omega), if_neg (by omega), if_neg (by omega)]
      congr 1; omega
    · rename_i h
      have h1 := ih (u / 10) (by omega) (by omega)
      have : (UInt8.ofNat (48 + u % 10)).toNat = 48 + u % 10 := by simp; omega
      rw [parse_app, h1]
      simp only [Lib.parseUint10, this]
      rw [if_pos (by omega), if_neg (by omega), if_neg (by omega)]
      congr 1; omega
theorem dec_cons (u : Nat) : ∃ c r, Lib.decDigits u = c :: r ∧ 48 ≤ c.toNat ∧ c.toNat ≤ 57 := by
  induction u using Nat.strongRecOn with
  | ind u ih =>
    rw [Lib.decDigits]
    split
    · rename_i h
      have : (UInt8.ofNat (48 + u)).toNat = 48 + u := by simp; omega
      exact ⟨_, [], rfl, by omega, by omega⟩
    · rename_i h
      obtain ⟨c, r, e, h1, h2⟩ := ih (u / 10) (by omega)
      exact ⟨c, _, by rw [e]; rfl, h1, h2⟩
theorem atoi_itoa {n : Int} (h : -9223372036854775808 ≤ n ∧ n ≤ 9223372036854775807) : Lib.atoiAll (Lib.itoa n) = .ok n := by
  unfold Lib.itoa
  split
  · rename_i hn
    obtain ⟨c, r, e, h1, h2⟩ := dec_cons n.natAbs
    have hp := parse_dec n.natAbs (by omega)
    have hm : Lib.parseMag (Lib.decDigits n.natAbs) = .ok n.natAbs := by
      unfold Lib.parseMag
      rw [if_neg (by rw [e]; simp), hp]
    rw [Lib.atoiAll_minus, hm]
    simp only [Lib.signed]
    rw [if_neg (by omega)]
    congr 1; omega
  · rename_i hn
    obtain ⟨c, r, e, h1, h2⟩ := dec_cons n.toNat
    have hp := parse_dec n.toNat (by omega)
    have hm : Lib.parseMag (Lib.decDigits n.toNat) = .ok n.toNat := by
      unfold Lib.parseMag
      rw [if_neg (by rw [e]; simp), hp]
    rw [e, Lib.atoiAll_plain c r (by omega) (by omega), ← e, hm]
    simp only [Lib.signless]
    rw [if_neg (by omega)]
    congr 1; omega
def numOf (w : List UInt8) : Int × Bool := match Lib.atoiAll w with
  | .ok v => (v, true)
  | .range => (Lib.atoiSat w, false)
  | _ => (0, false)
theorem atoiO_bl {w : List UInt8} (h : w.length ≤ 281474976710656) : atoiO (bl w) = some (numOf w) := by
  unfold atoiO numOf
  rw [bl_size, if_pos h]
  have : (bl w).data.toList = w := by simp [bl]
  rw [this]
  cases Lib.atoiAll w <;> rfl
theorem numOf_itoa {n : Int} (h : -9223372036854775808 ≤ n ∧ n ≤ 9223372036854775807) : numOf (Lib.itoa n) = (n, true) := by
  unfold numOf
  rw [atoi_itoa h]

def In64i (x : Int) : Prop := -9223372036854775808 ≤ x ∧ x ≤ 9223372036854775807
theorem w64_in (x : Int) : In64i (w64 x) := by
  unfold In64i w64
  rw [IntKind.wrap_i64]
  omega
/-- How much digits spell. -/
def dval (x : Int) : List UInt8 → Int
  | [] => x
  | c :: r => dval (10 * x + (c.toNat : Int) - 48) r
theorem dval_app (x : Int) : ∀ (l : List UInt8) (d : UInt8), dval x (l ++ [d]) = 10 * dval x l + (d.toNat : Int) - 48
  | [], d => rfl
  | c :: r, d => by rw [List.cons_append, dval, dval, dval_app _ r d]
theorem dval_dec : ∀ u : Nat, dval 0 (Lib.decDigits u) = (u : Int) := by
  intro u
  induction u using Nat.strongRecOn with
  | ind u ih =>
    rw [Lib.decDigits]
    split
    · rename_i h
      have : (UInt8.ofNat (48 + u)).toNat = 48 + u := by simp; omega
      simp only [dval, this]; omega
    · rename_i h
      have : (UInt8.ofNat (48 + u % 10)).toNat = 48 + u % 10 := by simp; omega
      rw [dval_app, ih (u / 10) (by omega), this]; omega
theorem num_tot (s : List UInt8) (hs : s.length ≤ 1048576) (a0 : l2Cur) (ha : a0.s = bl s) (fr : Nat) (hfr : fr ≤ 1048577) (K : Int → Int → Option (l2Cur × Int)) : ∀ (k p : Nat) (x : Int), fr ≤ p → p ≤ fr + 11 → fr + 12 ≤ p + k → In64i x → ∃ (p' : Nat) (x' : Int), spec_l2Number.l0 a0 (fr : Int) K k (p : Int) x = K (p' : Int) x' ∧ p ≤ p' ∧ (p ≤ s.length → p' ≤ s.length) ∧ In64i x' ∧ (pk s p < 48 ∨ 57 < pk s p → p' = p) := by
  intro k
  induction k with
  | zero => intro p x h1 h2 h3; omega
  | succ k ih =>
    intro p x h1 h2 h3 hx
    rw [spec_l2Number.l0, ha, spec_l2Peek_eq, bd, gd_of, bd]
    by_cases c1 : 48 ≤ pk s p
    · rw [decide_eq_true c1, cond_true, show ∀ y, bo3 true y false = y from fun _ => rfl]
      by_cases c2 : pk s p ≤ 57
      · rw [decide_eq_true c2, show ∀ y, bo3 true y false = y from fun _ => rfl, w64_id (x := (p : Int) - fr) (by omega)]
        by_cases c3 : (p : Int) - fr < 11
        · have hin := pk_in (s := s) (i := p) (by omega)
          rw [decide_eq_true c3, cond_true, bd, w64_succ (by omega)]
          obtain ⟨p', x', e, l1, l2, l3, _⟩ := ih (p + 1) (w64 (w64 (w64 (10 * x) + w64 (pk s p)) - 48)) (by omega) (by omega) (by omega) (w64_in _)
          exact ⟨p', x', e, by omega, fun _ => l2 (by omega), l3, fun h => by omega⟩
        · rw [decide_eq_false c3, cond_false]
          exact ⟨p, x, rfl, Nat.le_refl _, fun h => h, hx, fun _ => rfl⟩
      · rw [decide_eq_false c2, show ∀ y, bo3 false y false = false from fun _ => rfl, cond_false]
        exact ⟨p, x, rfl, Nat.le_refl _, fun h => h, hx, fun _ => rfl⟩
    · rw [decide_eq_false c1, cond_false]
      exact ⟨p, x, rfl, Nat.le_refl _, fun h => h, hx, fun _ => rfl⟩
theorem spec_l2Number_tot (s : List UInt8) (hs : s.length ≤ 1048576) (i : Nat) (hi : i ≤ s.length) (ok : Bool) (left : Int) : ∃ (i' : Nat) (ok' : Bool) (x : Int), spec_l2Number.f ⟨bl s, (i : Int), ok, left⟩ = some (⟨bl s, (i' : Int), ok', left⟩, x) ∧ i ≤ i' ∧ i' ≤ s.length ∧ In64i x ∧ (ok = false → ok' = false) ∧ (ok' = true → i < i') := by
  unfold spec_l2Number.f
  rw [spec_l2Peek_eq, bd, joinK_eq]
  have hz : In64i 0 := by unfold In64i; omega
  have key : ∀ (fr : Nat) (b : Bool), i ≤ fr → fr ≤ s.length → ∃ (i' : Nat) (ok' : Bool) (x : Int), joinK (fun (y6 : Int) (y7 : Int) =>
      joinK (fun (y36 : Bool) =>
      bif b then (
      some ((l2Cur.mk (bl s) y6 y36 left), (w64 (0 - y7))))
      else (
      some ((l2Cur.mk (bl s) y6 y36 left), y7))) (fun K37 =>
      bif (decide (y6 = (fr : Int))) then (
      K37 false)
      else (
      K37 ok))) (fun K8 =>
      spec_l2Number.l0 ⟨bl s, (i : Int), ok, left⟩ (fr : Int) K8 20 (fr : Int) 0) = some (⟨bl s, (i' : Int), ok', left⟩, x) ∧ i ≤ i' ∧ i' ≤ s.length ∧ In64i x ∧ (ok = false → ok' = false) ∧ (ok' = true → i < i') := by
    intro fr b h1 h2
    rw [joinK_eq]
    obtain ⟨p', x', e, l1, l2, l3, _⟩ := num_tot s hs ⟨bl s, (i : Int), ok, left⟩ rfl fr (by omega) (fun (y6 : Int) (y7 : Int) =>
      joinK (fun (y36 : Bool) =>
      bif b then (
      some ((l2Cur.mk (bl s) y6 y36 left), (w64 (0 - y7))))
      else (
      some ((l2Cur.mk (bl s) y6 y36 left), y7))) (fun K37 =>
      bif (decide (y6 = (fr : Int))) then (
      K37 false)
      else (
      K37 ok))) 20 fr 0 (Nat.le_refl _) (by omega) (by omega) hz
    refine ⟨p', (bif decide ((p' : Int) = fr) then false else ok), (bif b then w64 (0 - x') else x'), e.trans ?_, by omega, l2 h2, ?_, ?_, ?_⟩
    · rw [joinK_eq]
      cases decide ((p' : Int) = fr) <;> cases b <;> rfl
    · cases b with
      | true => exact w64_in _
      | false => exact l3
    · intro h; cases decide ((p' : Int) = fr) <;> simp [h]
    · intro h
      by_cases c : (p' : Int) = fr
      · rw [decide_eq_true c] at h; cases h
      · omega
  by_cases c : pk s i = 45
  · have hin := pk_in (s := s) (i := i) (by omega)
    rw [decide_eq_true c, cond_true, w64_succ (by omega)]
    exact key (i + 1) true (by omega) (by omega)
  · rw [decide_eq_false c, cond_false]
    exact key i false (Nat.le_refl _) hi
/-- Digits, and what follows is none. -/
theorem num_right (s : List UInt8) (hs : s.length ≤ 1048576) (a0 : l2Cur) (ha : a0.s = bl s) (fr : Nat) (K : Int → Int → Option (l2Cur × Int)) : ∀ (ds : List UInt8) (k p : Nat) (x : Int) (rest : List UInt8), (∀ c ∈ ds, 48 ≤ c.toNat ∧ c.toNat ≤ 57) → s.drop p = ds ++ rest → (∀ c ∈ rest.head?, c.toNat < 48 ∨ 57 < c.toNat) → fr ≤ p → p + ds.length ≤ fr + 10 → ds.length < k → 0 ≤ x → x < 10 ^ (p - fr) → spec_l2Number.l0 a0 (fr : Int) K k (p : Int) x = K ((p + ds.length : Nat) : Int) (dval x ds) := by
  intro ds
  induction ds with
  | nil =>
    intro k p x rest _ hd hr h1 h2 h3 h4 h5
    cases k with
    | zero => simp at h3
    | succ k =>
      rw [spec_l2Number.l0, ha, spec_l2Peek_eq, bd, gd_of, bd]
      have hp : pk s p < 48 ∨ 57 < pk s p := by
        unfold pk
        have e : s[p]? = rest.head? := by
          have := congrArg (fun l => l[0]?) hd
          simpa [List.getElem?_drop, List.head?_eq_getElem?] using this
        rw [e]
        cases hh : rest.head? with
        | none => exact .inl (by show (0 : Int) < 48; omega)
        | some c => have := hr c (by rw [hh]; rfl); show (c.toNat : Int) < 48 ∨ 57 < (c.toNat : Int); omega
      have : bo3 (bo3 (decide (48 ≤ pk s p)) (decide ((bif decide (48 ≤ pk s p) then pk s p else default) ≤ 57)) false) (decide (w64 ((p : Int) - fr) < 11)) false = false := by
        by_cases c1 : 48 ≤ pk s p
        · rw [decide_eq_true c1, cond_true, decide_eq_false (by omega)]; rfl
        · rw [decide_eq_false c1]; rfl
      rw [this, cond_false]
      rfl
  | cons c ds ih =>
    intro k p x rest hc hd hr h1 h2 h3 h4 h5
    cases k with
    | zero => simp at h3
    | succ k =>
      simp only [List.length_cons] at h2 h3
      have hx : s[p]? = some c := by
        have := congrArg (fun l => l[0]?) hd
        simpa [List.getElem?_drop] using this
      have hin := at_lt hx
      have hcc := hc c (by simp)
      have hp : pk s p = (c.toNat : Int) := by unfold pk; rw [hx]
      have h6 : (10 : Int) ^ (p - fr) ≤ 10 ^ 10 := by
        have : (10 : Nat) ^ (p - fr) ≤ 10 ^ 10 := Nat.pow_le_pow_right (by decide) (by omega)
        exact_mod_cast this
      rw [spec_l2Number.l0, ha, spec_l2Peek_eq, bd, gd_of, bd, hp, decide_eq_true (by omega), cond_true, decide_eq_true (by omega), w64_id (x := (p : Int) - fr) (by omega), decide_eq_true (by omega), show bo3 (bo3 true true false) true false = true from rfl, cond_true, bd, w64_succ (by omega), w64_id (x := 10 * x) (by omega), w64_id (x := (c.toNat : Int)) (by omega), w64_id (x := 10 * x + (c.toNat : Int)) (by omega), w64_id (by omega)]
      rw [ih k (p + 1) _ rest (fun c hc' => hc c (by simp [hc'])) ?_ hr (by omega) (by omega) (by omega) (by omega) ?_]
      · rw [dval, show p + 1 + ds.length = p + (c :: ds).length by simp only [List.length_cons]; omega]
      · rw [← List.drop_drop, hd]; rfl
      · rw [show p + 1 - fr = (p - fr) + 1 by omega, Int.pow_succ]; omega
theorem spec_l2Number_itoa (s : List UInt8) (hs : s.length ≤ 1048576) {n : Int} (hn : -1000000000 ≤ n ∧ n ≤ 1000000000) (i : Nat) (ok : Bool) (left : Int) (rest : List UInt8) (hd : s.drop i = Lib.itoa n ++ rest) (hr : ∀ c ∈ rest.head?, c.toNat < 48 ∨ 57 < c.toNat) : spec_l2Number.f ⟨bl s, (i : Int), ok, left⟩ = some (⟨bl s, ((i + (Lib.itoa n).length : Nat) : Int), ok, left⟩, n) := by
  unfold spec_l2Number.f
  rw [spec_l2Peek_eq, bd, joinK_eq]
  have hlen : i + (Lib.itoa n).length ≤ s.length := by
    have := congrArg List.length hd
    simp only [List.length_drop, List.length_append] at this
    obtain ⟨c, r, e, _⟩ := dec_cons n.natAbs
    have : 0 < (Lib.itoa n).length := by
      unfold Lib.itoa
      split
      · simp
      · rw [show n.toNat = n.natAbs by omega, e]; simp
    omega
  have dl : ∀ u : Nat, u ≤ 1000000000 → (Lib.decDigits u).length ≤ 10 := by
    intro u hu
    have := decDigits_len 10 u (by omega)
    unfold digs at this
    split at this
    · rename_i h0; rw [h0, Lib.decDigits, dif_pos (by decide)]; simp
    · exact this
  by_cases hneg : n < 0
  · have e : Lib.itoa n = 45 :: Lib.decDigits n.natAbs := if_pos hneg
    rw [e] at hd hlen ⊢
    have hx : s[i]? = some 45 := by
      have := congrArg (fun l => l[0]?) hd
      simpa [List.getElem?_drop] using this
    have hp : pk s i = 45 := by unfold pk; rw [hx]; rfl
    have hin := at_lt hx
    obtain ⟨c, r, ed, _⟩ := dec_cons n.natAbs
    rw [hp, decide_eq_true rfl, cond_true, w64_succ (by omega)]
    dsimp only
    rw [joinK_eq]
    have hd' : s.drop (i + 1) = Lib.decDigits n.natAbs ++ rest := by rw [← List.drop_drop, hd]; rfl
    refine (num_right s hs _ rfl (i + 1) _ (Lib.decDigits n.natAbs) 20 (i + 1) 0 rest (dec_mem _) hd' hr (Nat.le_refl _) (by have := dl n.natAbs (by omega); omega) (by have := dl n.natAbs (by omega); omega) (by omega) (by rw [Nat.sub_self]; decide)).trans ?_
    rw [joinK_eq, decide_eq_false (by rw [ed]; simp only [List.length_cons]; omega), cond_false]
    dsimp only
    rw [cond_true, dval_dec, w64_id (by omega)]
    congr 3
    · simp only [List.length_cons]; omega
    · omega
  · have e : Lib.itoa n = Lib.decDigits n.natAbs := by unfold Lib.itoa; rw [if_neg hneg, show n.toNat = n.natAbs by omega]
    rw [e] at hd hlen ⊢
    obtain ⟨c, r, ed, h1, h2⟩ := dec_cons n.natAbs
    have hx : s[i]? = some c := by
      have := congrArg (fun l => l[0]?) hd
      rw [ed] at this
      simpa [List.getElem?_drop] using this
    have hp : pk s i = (c.toNat : Int) := by unfold pk; rw [hx]
    rw [hp, decide_eq_false (by omega), cond_false]
    dsimp only
    rw [joinK_eq]
    refine (num_right s hs _ rfl i _ (Lib.decDigits n.natAbs) 20 i 0 rest (dec_mem _) hd hr (Nat.le_refl _) (by have := dl n.natAbs (by omega); omega) (by have := dl n.natAbs (by omega); omega) (by omega) (by rw [Nat.sub_self]; decide)).trans ?_
    rw [joinK_eq, decide_eq_false (by rw [ed]; simp only [List.length_cons]; omega), cond_false]
    dsimp only
    rw [cond_false, dval_dec, show ((n.natAbs : Nat) : Int) = n by omega]

theorem pre_take (w s : List UInt8) : w.isPrefixOf s = decide (w.length ≤ s.length ∧ s.take w.length = w) := by
  rw [Bool.eq_iff_iff, List.isPrefixOf_iff_prefix, decide_eq_true_eq, List.prefix_iff_eq_take]
  constructor
  · intro h
    refine ⟨?_, h.symm⟩
    have := congrArg List.length h
    rw [List.length_take] at this
    omega
  · rintro ⟨_, h⟩; exact h.symm
theorem pre_app (w s : List UInt8) : w.isPrefixOf (w ++ s) = true := by simp
theorem pre_ne {a c : UInt8} {w s : List UInt8} (h : a ≠ c) : (a :: w).isPrefixOf (c :: s) = false := by simp [List.isPrefixOf, h]
theorem pre_nil {a : UInt8} {w : List UInt8} : (a :: w).isPrefixOf [] = false := rfl
theorem stringslite_HasPrefix_eq (s w : List UInt8) : internal_stringslite_HasPrefix.f (bl s) (bl w) = some (w.isPrefixOf s) := by
  unfold internal_stringslite_HasPrefix.f
  rw [sl_bl, sl_bl, pre_take]
  by_cases h : w.length ≤ s.length
  · have e : (0 : Int) = ((0 : Nat) : Int) := rfl
    rw [decide_eq_true (by omega), gd_true, e, cutS_bl (Nat.zero_le _) h, bd, ss_bl, List.drop_zero, str_eq]
    congr 1
    by_cases h2 : s.take w.length = w
    · rw [decide_eq_true h2, decide_eq_true ⟨h, h2⟩]; rfl
    · rw [decide_eq_false h2, decide_eq_false (fun q => h2 q.2)]; rfl
  · rw [decide_eq_false (by omega), decide_eq_false (fun q => h q.1), gd_false, bd]; rfl

theorem l2Take_eq (s : List UInt8) (hs : s.length ≤ 10000000) (i : Nat) (hi : i ≤ s.length) (ok : Bool) (left : Int) (w : List UInt8) (hw : w.length ≤ 100) : spec_l2Take.f ⟨bl s, (i : Int), ok, left⟩ (bl w) = some (if w.isPrefixOf (s.drop i) = true then ⟨bl s, ((i + w.length : Nat) : Int), ok, left⟩ else ⟨bl s, (i : Int), false, left⟩) := by
  unfold spec_l2Take.f
  dsimp only
  rw [sl_bl, sl_bl, w64_id (x := (s.length : Int) - i) (by omega), w64_id (x := (i : Int) + w.length) (by omega), show (i : Int) + w.length = ((i + w.length : Nat) : Int) by omega, pre_take, List.length_drop]
  by_cases h : w.length ≤ s.length - i
  · rw [decide_eq_false (by omega), show bo3 false false true = true from rfl, gd_true, cutS_bl (by omega) (by omega), bd, ss_bl, str_ne]
    have e : (s.take (i + w.length)).drop i = (s.drop i).take w.length := by
      rw [List.drop_take, show i + w.length - i = w.length by omega]
    rw [e]
    by_cases h2 : (s.drop i).take w.length = w
    · rw [decide_eq_true h2, decide_eq_true ⟨h, h2⟩]; rfl
    · rw [decide_eq_false h2, decide_eq_false (fun q => h2 q.2)]; rfl
  · rw [decide_eq_true (by omega), decide_eq_false (p := w.length ≤ s.length - i ∧ _) (fun q => h q.1), show bo3 true false true = false from rfl, gd_false, bd]
    rfl
theorem l2Take_ok (s : List UInt8) (hs : s.length ≤ 10000000) (i : Nat) (hi : i ≤ s.length) (ok : Bool) (left : Int) (w : List UInt8) (hw : w.length ≤ 100) : ∃ (i' : Nat) (ok' : Bool), spec_l2Take.f ⟨bl s, (i : Int), ok, left⟩ (bl w) = some ⟨bl s, (i' : Int), ok', left⟩ ∧ i ≤ i' ∧ i' ≤ s.length ∧ (ok = false → ok' = false) := by
  rw [l2Take_eq s hs i hi ok left w hw]
  split
  · rename_i h
    rw [pre_take, decide_eq_true_eq, List.length_drop] at h
    exact ⟨i + w.length, ok, rfl, by omega, by omega, fun h => h⟩
  · exact ⟨i, false, rfl, Nat.le_refl _, hi, fun _ => rfl⟩
theorem drop_step {s w rest : List UInt8} {i : Nat} (h : s.drop i = w ++ rest) : s.drop (i + w.length) = rest := by
  rw [← List.drop_drop, h, List.drop_left]
theorem drop_le {s : List UInt8} {i : Nat} {c : UInt8} {r : List UInt8} (h : s.drop i = c :: r) : i < s.length := by
  have := congrArg List.length h
  rw [List.length_drop, List.length_cons] at this
  omega
theorem l2Take_yes {s : List UInt8} (hs : s.length ≤ 10000000) {i : Nat} {w rest : List UInt8} (h : s.drop i = w ++ rest) (hw : w.length ≤ 100) (hw0 : 0 < w.length) (left : Int) (ok : Bool) : spec_l2Take.f ⟨bl s, (i : Int), ok, left⟩ (bl w) = some ⟨bl s, ((i + w.length : Nat) : Int), ok, left⟩ := by
  have hi : i ≤ s.length := by
    have := congrArg List.length h
    rw [List.length_drop, List.length_append] at this
    omega
  rw [l2Take_eq s hs i hi ok left w hw, h, if_pos (pre_app w rest)]
theorem pk_drop {s : List UInt8} {i : Nat} {c : UInt8} {r : List UInt8} (h : s.drop i = c :: r) : pk s i = (c.toNat : Int) ∧ s[i]? = some c := by
  have e : s[i]? = some c := by
    have := congrArg (fun l => l[0]?) h
    simpa [List.getElem?_drop] using this
  exact ⟨by unfold pk; rw [e], e⟩

mutual
def szj : Json → Int
  | ⟨_, _, _, l, ns⟩ => szL l + (ns.length : Int)
def szL : List Json → Int
  | [] => 0
  | x :: l => 1 + szj x + szL l
end
mutual
def dpj : Json → Nat
  | ⟨_, _, _, l, _⟩ => dpL l + 1
def dpL : List Json → Nat
  | [] => 0
  | x :: l => max (dpj x) (dpL l)
end
mutual
theorem szj_0 : ∀ x : Json, 0 ≤ szj x
  | ⟨_, _, _, l, ns⟩ => by have := szL_0 l; rw [szj]; omega
theorem szL_0 : ∀ l : List Json, 0 ≤ szL l
  | [] => by rw [szL]; omega
  | x :: l => by have := szj_0 x; have := szL_0 l; rw [szL]; omega
end
theorem szL_sum : ∀ l : List Json, szL l = (l.map fun x => 1 + szj x).sum
  | [] => by simp [szL]
  | x :: l => by rw [szL, szL_sum l, List.map_cons, List.sum_cons]
theorem szL_len : ∀ l : List Json, (l.length : Int) ≤ szL l
  | [] => by simp [szL]
  | x :: l => by have := szL_len l; have := szj_0 x; rw [szL]; simp only [List.length_cons]; omega
theorem szL_mem {l : List Json} {x : Json} (h : x ∈ l) : 1 + szj x ≤ szL l := by
  rw [szL_sum]; exact sum_mem (s := fun x => 1 + szj x) (fun x => by have := szj_0 x; omega) h
theorem dpL_mem : ∀ {l : List Json} {x : Json}, x ∈ l → dpj x ≤ dpL l
  | y :: l, x, h => by
    rw [dpL]
    rcases List.mem_cons.1 h with rfl | h
    · omega
    · have := dpL_mem h; omega
theorem szj_eq (x : Json) : szj x = szL x.List_ + (x.Names.length : Int) := by cases x; rw [szj]
theorem dpj_eq (x : Json) : dpj x = dpL x.List_ + 1 := by cases x; rw [dpj]
/-- Its size; what is too deep counts as too great. -/
def sz_Json (x : Json) : Int := szj x + (if dpj x ≤ 500 then 0 else 4611686018427387904)
def Json_b (x : Json) : Prop := sz_Json x ≤ 1099511627776
theorem sz_Json_0 (x : Json) : 0 ≤ sz_Json x := by have := szj_0 x; unfold sz_Json; split <;> omega
theorem sz_Json_d {x : Json} (h : sz_Json x ≤ 4611686018427387903) : dpj x ≤ 500 ∧ szj x = sz_Json x := by
  have := szj_0 x
  unfold sz_Json at *
  split at h
  · rename_i c; exact ⟨c, by rw [if_pos c]; omega⟩
  · omega
theorem ba_eq {x y : ByteArray} : (x.toList == y.toList) = decide (x = y) := by
  have h : x.toList = y.toList ↔ x = y := by
    constructor
    · intro h
      have : x.data.toList = y.data.toList := by
        have e : ∀ z : ByteArray, z.toList = z.data.toList := fun z => ByteArray.toList_eq z
        rw [← e, ← e]; exact h
      cases x; cases y; simp_all
    · rintro rfl; rfl
  by_cases c : x = y
  · subst c; simp
  · rw [decide_eq_false c]
    simp only [beq_eq_false_iff_ne, ne_eq]
    exact fun e => c (h.1 e)
theorem sc_neq' (x y : ByteArray) : Ls.sc .neq x y = decide (x ≠ y) := by
  show (!(x.toList == y.toList)) = _
  rw [ba_eq]; by_cases c : x = y <;> simp [c]
theorem sc_eql' (x y : ByteArray) : Ls.sc .eql x y = decide (x = y) := by
  show (x.toList == y.toList) = _
  rw [ba_eq]

def txtB (s : ByteArray) : Bool := (s.data.toList.all fun b => decide (32 ≤ b.toNat ∧ b.toNat ≤ 126)) && decide (s.size ≤ 60)
def namesB (l : List ByteArray) : Bool := allFrom (fun i x => txtB x && !(decide (0 < i) && Ls.sc .geq (l.getD (i - 1) default) x)) l 0
theorem sx_at {s : ByteArray} {i : Nat} {b : UInt8} (h : s.data.toList[i]? = some b) : Ls.sx s (i : Int) = (b.toNat : Int) := by
  show ((s.data.toList.getD (i : Int).toNat 0).toNat : Int) = _
  rw [Int.toNat_natCast, List.getD_eq_getElem?_getD, h]; rfl
theorem sl_len (s : ByteArray) : Ls.sl s = (s.data.toList.length : Int) := by
  show (s.size : Int) = _
  rw [Array.length_toList]; rfl
theorem size_len (s : ByteArray) : s.size = s.data.toList.length := by rw [Array.length_toList]; rfl
theorem inS_ok {s : ByteArray} {i : Nat} (h : i < s.data.toList.length) : inS s (i : Int) = some () := by
  unfold inS; rw [if_pos]; rw [size_len]; omega
/-- What a value has for itself. -/
def ownB (j : Json) : Bool :=
  bif (decide (0 < j.List_.length) && decide (j.Kind ≠ 4) && decide (j.Kind ≠ 5)) || (decide (0 < j.Names.length) && decide (j.Kind ≠ 5)) then false else
  bif (decide (j.N ≠ 0) && decide (j.Kind ≠ 1) && decide (j.Kind ≠ 2)) || (decide (j.S ≠ ByteArray.mk #[]) && decide (j.Kind ≠ 3)) then false else
  if j.Kind = 1 then decide (0 ≤ j.N ∧ j.N ≤ 1) else if j.Kind = 2 then decide (-1000000000 ≤ j.N ∧ j.N ≤ 1000000000) else if j.Kind = 3 then txtB j.S else
  if j.Kind = 5 then decide (j.Names.length = j.List_.length) && namesB j.Names else decide (j.Kind = 0) || decide (j.Kind = 4)
def capL (f : Json → Int) : Int → List Json → Int
  | n, [] => n
  | n, x :: l => if 400 < n + f x then 401 else capL f (n + f x) l
def sizeF : Nat → Json → Int
  | 0, _ => 401
  | d + 1, j => if ownB j = true then capL (sizeF d) 1 j.List_ else 401
theorem capL_range {f : Json → Int} (hf : ∀ x, 1 ≤ f x ∧ f x ≤ 401) : ∀ (l : List Json) (n : Int), 1 ≤ n → n ≤ 401 → 1 ≤ capL f n l ∧ capL f n l ≤ 401
  | [], n, h, h' => ⟨h, h'⟩
  | x :: l, n, h, h' => by
    rw [capL]
    have := hf x
    split
    · omega
    · exact capL_range hf l _ (by omega) (by omega)
theorem sizeF_range : ∀ (d : Nat) (j : Json), 1 ≤ sizeF d j ∧ sizeF d j ≤ 401
  | 0, j => by rw [sizeF]; omega
  | d + 1, j => by
    rw [sizeF]
    split
    · exact capL_range (sizeF_range d) _ _ (by omega) (by omega)
    · omega
def jsonB (j : Json) : Bool := decide (sizeF 6 j ≤ 400)
mutual
def Jw : Json → Prop
  | ⟨_, _, s, l, ns⟩ => (s.size : Int) ≤ 4611686018427387904 ∧ (∀ x ∈ ns, (x.size : Int) ≤ 4611686018427387904) ∧ (ns.length : Int) ≤ 4611686018427387904 ∧ (l.length : Int) ≤ 4611686018427387904 ∧ JwL l
def JwL : List Json → Prop
  | [] => True
  | x :: l => Jw x ∧ JwL l
end
theorem JwL_mem : ∀ {l : List Json}, JwL l → ∀ {x}, x ∈ l → Jw x
  | y :: l, h, x, hx => by
    rw [JwL] at h
    rcases List.mem_cons.1 hx with rfl | hx
    · exact h.1
    · exact JwL_mem h.2 hx
theorem JwL_of : ∀ {l : List Json}, (∀ x ∈ l, Jw x) → JwL l
  | [], _ => by rw [JwL]; trivial
  | y :: l, h => by rw [JwL]; exact ⟨h y (by simp), JwL_of fun x hx => h x (by simp [hx])⟩
theorem Jw_eq (j : Json) : Jw j ↔ (j.S.size : Int) ≤ 4611686018427387904 ∧ (∀ x ∈ j.Names, (x.size : Int) ≤ 4611686018427387904) ∧ (j.Names.length : Int) ≤ 4611686018427387904 ∧ (j.List_.length : Int) ≤ 4611686018427387904 ∧ ∀ x ∈ j.List_, Jw x := by
  cases j
  rw [Jw]
  exact ⟨fun ⟨a, b, c, d, e⟩ => ⟨a, b, c, d, fun x hx => JwL_mem e hx⟩, fun ⟨a, b, c, d, e⟩ => ⟨a, b, c, d, JwL_of e⟩⟩
/-- What the reference asks at the end. -/
def k3B (j : Json) : Bool := (decide (j.Kind ≠ 3) && decide (j.S ≠ ByteArray.mk #[])) || ((decide (j.Kind = 3) || decide (4 ≤ j.Kind)) && decide (j.N ≠ 0)) || (decide (j.Kind < 4) && decide (0 < j.List_.length)) ||
  !(if j.Kind = 5 then namesB j.Names && decide (j.Names.length = j.List_.length) else decide (j.Names.length = 0))
def preB (j : Json) : Bool := if j.Kind = 0 then decide (j.N = 0) else if j.Kind = 1 then decide (0 ≤ j.N ∧ j.N ≤ 1) else if j.Kind = 2 then decide (-1000000000 ≤ j.N ∧ j.N ≤ 1000000000) else if j.Kind = 3 then txtB j.S else decide (j.Kind = 4) || decide (j.Kind = 5)
theorem own_k3 (j : Json) : ownB j = (preB j && !k3B j) := by
  unfold ownB preB k3B
  have e2 : decide (j.Names.length = 0) = !decide (0 < j.Names.length) := by
    cases j.Names <;> simp
  have e7 : decide (j.N ≠ 0) = !decide (j.N = 0) := by by_cases c : j.N = 0 <;> simp [c]
  rw [e2, e7]
  generalize decide (0 < j.List_.length) = b1
  generalize decide (0 < j.Names.length) = b2
  generalize decide (j.S ≠ ByteArray.mk #[]) = b3
  generalize decide (j.Names.length = j.List_.length) = b4
  generalize namesB j.Names = b5
  generalize txtB j.S = b6
  generalize decide (0 ≤ j.N ∧ j.N ≤ 1) = b8
  generalize decide (-1000000000 ≤ j.N ∧ j.N ≤ 1000000000) = b9
  generalize decide (j.N = 0) = b7
  by_cases k0 : j.Kind = 0
  · simp [k0]; cases b1 <;> cases b2 <;> cases b3 <;> cases b7 <;> simp
  · by_cases k1 : j.Kind = 1
    · simp [k1]; cases b1 <;> cases b2 <;> cases b3 <;> cases b8 <;> simp
    · by_cases k2 : j.Kind = 2
      · simp [k2]; cases b1 <;> cases b2 <;> cases b3 <;> cases b9 <;> simp
      · by_cases k3 : j.Kind = 3
        · simp [k3]; cases b1 <;> cases b2 <;> cases b6 <;> cases b7 <;> simp
        · by_cases k4 : j.Kind = 4
          · simp [k4]; cases b1 <;> cases b2 <;> cases b3 <;> cases b7 <;> simp
          · by_cases k5 : j.Kind = 5
            · simp [k5]; cases b3 <;> cases b7 <;> cases b4 <;> cases b5 <;> simp
            · simp [k0, k1, k2, k3, k4, k5]

def nullJ : Json := ⟨0, 0, ByteArray.empty, [], []⟩
theorem cap_le {f : Json → Int} (hf : ∀ x, 1 ≤ f x ∧ f x ≤ 401) : ∀ (l : List Json) (n : Int), 0 ≤ n → n ≤ 400 → capL f n l ≤ 400 → capL f n l = n + (l.map f).sum ∧ ∀ x ∈ l, f x ≤ 400
  | [], n, _, _, _ => by simp [capL]
  | x :: l, n, h0, hn, h => by
    have hfx := hf x
    rw [capL] at h ⊢
    split at h
    · omega
    · rename_i c
      rw [if_neg c]
      obtain ⟨h1, h2⟩ := cap_le hf l (n + f x) (by omega) (by omega) h
      refine ⟨by rw [h1, List.map_cons, List.sum_cons]; omega, fun y hy => ?_⟩
      rcases List.mem_cons.1 hy with rfl | hy
      · omega
      · exact h2 y hy
theorem own_names {j : Json} (h : ownB j = true) : j.Names.length ≤ j.List_.length := by
  rw [own_k3, Bool.and_eq_true] at h
  have h2 := h.2
  unfold k3B at h2
  simp only [Bool.not_eq_true', Bool.or_eq_false_iff] at h2
  have h3 := h2.2
  by_cases k5 : j.Kind = 5
  · rw [if_pos k5] at h3
    simp only [Bool.not_eq_false', Bool.and_eq_true, decide_eq_true_eq] at h3
    omega
  · rw [if_neg k5] at h3
    simp only [Bool.not_eq_false', decide_eq_true_eq] at h3
    omega
theorem sizeF_szj : ∀ (d : Nat) (j : Json), sizeF d j ≤ 400 → szj j ≤ 2 * sizeF d j - 2 ∧ dpj j ≤ d
  | 0, j, h => by rw [sizeF] at h; omega
  | d + 1, j, h => by
    rw [sizeF] at h ⊢
    split at h
    · rename_i ho
      rw [if_pos ho]
      obtain ⟨h1, h2⟩ := cap_le (sizeF_range d) j.List_ 1 (by omega) (by omega) h
      have hn := own_names ho
      rw [h1, szj_eq, dpj_eq]
      have hL : ∀ l : List Json, (∀ x ∈ l, sizeF d x ≤ 400) → szL l + (l.length : Int) ≤ 2 * (l.map (sizeF d)).sum ∧ dpL l ≤ d := by
        intro l
        induction l with
        | nil => intro _; simp [szL, dpL]
        | cons x l ih =>
          intro hx
          obtain ⟨a1, a2⟩ := ih fun y hy => hx y (by simp [hy])
          obtain ⟨b1, b2⟩ := sizeF_szj d x (hx x (by simp))
          rw [szL, dpL, List.map_cons, List.sum_cons, List.length_cons]
          exact ⟨by omega, by omega⟩
      obtain ⟨c1, c2⟩ := hL j.List_ h2
      exact ⟨by omega, by omega⟩
    · omega
theorem sizeF_deep : ∀ (d e : Nat) (j : Json), dpj j ≤ d → dpj j ≤ e → sizeF d j = sizeF e j
  | 0, e, j, h, _ => by rw [dpj_eq] at h; omega
  | d + 1, 0, j, _, h => by rw [dpj_eq] at h; omega
  | d + 1, e + 1, j, h, h' => by
    rw [dpj_eq] at h h'
    rw [sizeF, sizeF]
    have : ∀ (l : List Json) (n : Int), dpL l ≤ d → dpL l ≤ e → capL (sizeF d) n l = capL (sizeF e) n l := by
      intro l
      induction l with
      | nil => intro n _ _; rfl
      | cons x l ih =>
        intro n h1 h2
        rw [dpL] at h1 h2
        rw [capL, capL, sizeF_deep d e x (by omega) (by omega), ih _ (by omega) (by omega)]
    rw [this j.List_ 1 (by omega) (by omega)]

abbrev nullL : List UInt8 := [110, 117, 108, 108]
abbrev trueL : List UInt8 := [116, 114, 117, 101]
abbrev falseL : List UInt8 := [102, 97, 108, 115, 101]
def escC (c : UInt8) : List UInt8 := if c = 34 ∨ c = 92 then [92, c] else [c]
def quoteL (s : List UInt8) : List UInt8 := 34 :: (s.flatMap escC ++ [34])
def objW (f : Json → List UInt8) : List ByteArray → List Json → List (List UInt8)
  | n :: ns, x :: l => (quoteL n.data.toList ++ 58 :: f x) :: objW f ns l
  | _, _ => []
/-- A value's text, so deep. -/
def encF : Nat → Json → List UInt8
  | 0, _ => []
  | d + 1, j => if j.Kind = 0 then nullL else if j.Kind = 1 then (if j.N = 1 then trueL else falseL) else if j.Kind = 2 then Lib.itoa j.N else if j.Kind = 3 then quoteL j.S.data.toList else
    if j.Kind = 4 then 91 :: (Lib.join (j.List_.map (encF d)) [44] ++ [93]) else 123 :: (Lib.join (objW (encF d) j.Names j.List_) [44] ++ [125])
/-- The kinds of values that are as told. -/
theorem own_cases {j : Json} (h : ownB j = true) : j = nullJ ∨ (∃ n, (n = 0 ∨ n = 1) ∧ j = ⟨1, n, ByteArray.empty, [], []⟩) ∨ (∃ n, (-1000000000 ≤ n ∧ n ≤ 1000000000) ∧ j = ⟨2, n, ByteArray.empty, [], []⟩) ∨ (∃ s, txtB s = true ∧ j = ⟨3, 0, s, [], []⟩) ∨ (∃ l, j = ⟨4, 0, ByteArray.empty, l, []⟩) ∨ (∃ l ns, ns.length = l.length ∧ namesB ns = true ∧ j = ⟨5, 0, ByteArray.empty, l, ns⟩) := by
  obtain ⟨k, n, s, l, ns⟩ := j
  unfold ownB at h
  dsimp only at h
  have nil : ∀ {α : Type} {l : List α}, ¬ 0 < l.length → l = [] := fun h => List.length_eq_zero_iff.1 (by omega)
  have e0 : ByteArray.mk #[] = ByteArray.empty := rfl
  rw [cond_ite, cond_ite] at h
  split at h
  · cases h
  rename_i h1
  split at h
  · cases h
  rename_i h2
  simp only [Bool.or_eq_true, Bool.and_eq_true, decide_eq_true_eq, not_or, not_and, ne_eq, e0] at h1 h2
  obtain ⟨h1, h3⟩ := h1
  obtain ⟨h2, h4⟩ := h2
  by_cases k1 : k = 1
  · subst k1
    rw [if_pos rfl] at h
    have := of_decide_eq_true h
    have a1 : l = [] := nil fun hh => by have := h1 ⟨hh, by decide⟩; revert this; decide
    have a2 : ns = [] := nil fun hh => by have := h3 hh; revert this; decide
    have a3 : s = ByteArray.empty := Classical.byContradiction fun hh => by have := h4 hh; revert this; decide
    exact .inr (.inl ⟨n, by omega, by rw [a1, a2, a3]⟩)
  rw [if_neg k1] at h
  by_cases k2 : k = 2
  · subst k2
    rw [if_pos rfl] at h
    have := of_decide_eq_true h
    have a1 : l = [] := nil fun hh => by have := h1 ⟨hh, by decide⟩; revert this; decide
    have a2 : ns = [] := nil fun hh => by have := h3 hh; revert this; decide
    have a3 : s = ByteArray.empty := Classical.byContradiction fun hh => by have := h4 hh; revert this; decide
    exact .inr (.inr (.inl ⟨n, this, by rw [a1, a2, a3]⟩))
  rw [if_neg k2] at h
  have a4 : n = 0 := Classical.byContradiction fun hh => h2 ⟨hh, k1⟩ k2
  by_cases k3 : k = 3
  · subst k3
    rw [if_pos rfl] at h
    have a1 : l = [] := nil fun hh => by have := h1 ⟨hh, by decide⟩; revert this; decide
    have a2 : ns = [] := nil fun hh => by have := h3 hh; revert this; decide
    exact .inr (.inr (.inr (.inl ⟨s, h, by rw [a1, a2, a4]⟩)))
  rw [if_neg k3] at h
  have a3 : s = ByteArray.empty := Classical.byContradiction fun hh => h4 hh k3
  by_cases k5 : k = 5
  · subst k5
    rw [if_pos rfl, Bool.and_eq_true] at h
    exact .inr (.inr (.inr (.inr (.inr ⟨l, ns, of_decide_eq_true h.1, h.2, by rw [a3, a4]⟩))))
  rw [if_neg k5, Bool.or_eq_true, decide_eq_true_eq, decide_eq_true_eq] at h
  have a2 : ns = [] := nil fun hh => k5 (Classical.byContradiction fun q => by exact absurd (h3 hh) (by simpa using q))
  rcases h with rfl | rfl
  · have a1 : l = [] := nil fun hh => by have := h1 ⟨hh, by decide⟩; revert this; decide
    exact .inl (by rw [a1, a2, a3, a4]; rfl)
  · exact .inr (.inr (.inr (.inr (.inl ⟨l, by rw [a2, a3, a4]⟩))))

def chs (l : List UInt8) : List Int := l.map fun c => (c.toNat : Int)
theorem bsO_chs (l : List UInt8) : bsO (chs l) = bl l := by
  unfold bsO chs bl
  rw [List.map_map]
  congr 2
  conv => rhs; rw [← List.map_id l]
  apply List.map_congr_left
  intro c _
  show UInt8.ofNat ((c.toNat : Int).toNat) = c
  rw [Int.toNat_natCast]
  simp
theorem chs_app (a b : List UInt8) : chs (a ++ b) = chs a ++ chs b := List.map_append
theorem chs_len (a : List UInt8) : (chs a).length = a.length := List.length_map _
theorem esc_len (s : List UInt8) : (s.flatMap escC).length ≤ 2 * s.length := by
  induction s with
  | nil => exact Nat.le_refl _
  | cons c s ih =>
    rw [List.flatMap_cons, List.length_append, List.length_cons]
    have : (escC c).length ≤ 2 := by unfold escC; split <;> simp
    omega
theorem quote_len (s : List UInt8) : (quoteL s).length ≤ 2 * s.length + 2 := by
  have := esc_len s
  unfold quoteL
  simp only [List.length_cons, List.length_append, List.length_nil]
  omega
/-- One byte's turn in the loops that quote: what is asked, and what is put. -/
theorem q34 {s : List UInt8} {i : Nat} {c : UInt8} (h : s[i]? = some c) : bo3 (decide ((Ls.sx (bl s) (i : Int)) = 34)) true (decide ((Ls.sx (bl s) (i : Int)) = 92)) = decide (c = 34 ∨ c = 92) := by
  rw [sx_bl h]
  have e1 : ((c.toNat : Int) = 34) ↔ c = 34 := ⟨fun h => UInt8.toNat_inj.1 (by have e : (34 : UInt8).toNat = 34 := rfl; omega), fun h => by rw [h]; rfl⟩
  have e2 : ((c.toNat : Int) = 92) ↔ c = 92 := ⟨fun h => UInt8.toNat_inj.1 (by have e : (92 : UInt8).toNat = 92 := rfl; omega), fun h => by rw [h]; rfl⟩
  by_cases h1 : c = 34
  · rw [decide_eq_true (e1.2 h1), decide_eq_true (p := c = 34 ∨ c = 92) (.inl h1)]; rfl
  · rw [decide_eq_false (fun h => h1 (e1.1 h))]
    by_cases h2 : c = 92
    · rw [decide_eq_true (e2.2 h2), decide_eq_true (p := c = 34 ∨ c = 92) (.inr h2)]; rfl
    · rw [decide_eq_false (fun h => h2 (e2.1 h)), decide_eq_false (p := c = 34 ∨ c = 92) (by rintro (h | h); exact h1 h; exact h2 h)]; rfl
theorem app_one {acc : List UInt8} {c : UInt8} (h : acc.length ≤ 100000000) : appO 1 (chs acc) [(c.toNat : Int)] = some (chs (acc ++ [c])) := by
  rw [appO_ok (by rw [chs_len]; simp only [List.length_cons, List.length_nil]; omega), chs_app]; rfl
theorem app_92 {acc : List UInt8} (h : acc.length ≤ 100000000) : appO 1 (chs acc) [92] = some (chs (acc ++ [92])) := app_one (c := 92) h
theorem app_34 {acc : List UInt8} (h : acc.length ≤ 100000000) : appO 1 (chs acc) [34] = some (chs (acc ++ [34])) := app_one (c := 34) h

theorem ls_tot (s : List UInt8) (hs : s.length ≤ 1000000) (at0 left : Int) (ok : Bool) (K : Int → Bool → (List Int) → Option (l2Cur × ByteArray)) : ∀ (k i : Nat) (acc : List UInt8), i ≤ s.length → s.length < i + k → acc.length ≤ i → ∃ (i' : Nat) (ok' : Bool) (acc' : List UInt8), spec_l2String.l0 ⟨bl s, at0, ok, left⟩ K k (i : Int) (chs acc) = K (i' : Int) ok' (chs acc') ∧ i ≤ i' ∧ i' ≤ s.length ∧ acc'.length ≤ i' ∧ (ok = false → ok' = false) := by
  intro k
  induction k with
  | zero => intro i acc h1 h2; omega
  | succ k ih =>
    intro i acc h1 h2 h3
    rw [spec_l2String.l0]
    dsimp only
    cases ok with
    | false => exact ⟨i, false, acc, rfl, Nat.le_refl _, h1, h3, fun _ => rfl⟩
    | true =>
      rw [gd_true, spec_l2Peek_eq, bd, show ∀ y, bo3 true y false = y from fun _ => rfl]
      by_cases hq : pk s i = 34
      · rw [decide_eq_false (p := pk s i ≠ 34) (by simp [hq]), cond_false]
        exact ⟨i, true, acc, rfl, Nat.le_refl _, h1, h3, fun h => by cases h⟩
      · rw [decide_eq_true (p := pk s i ≠ 34) hq, cond_true, joinK_eq, bd]
        have go : ∀ y : Nat, i ≤ y → y ≤ s.length → y ≤ i + 1 → ∃ (i' : Nat) (ok' : Bool) (acc' : List UInt8), (bif (decide ((Ls.sl (bl s)) ≤ (y : Int))) then (K (y : Int) false (chs acc)) else ((inS (bl s) (y : Int)).bind fun u25 => (some [(Ls.sx (bl s) (y : Int))]).bind fun l26 => (appO 1 (chs acc) l26).bind fun l27 => spec_l2String.l0 ⟨bl s, at0, true, left⟩ K k (w64 ((y : Int) + 1)) l27)) = K (i' : Int) ok' (chs acc') ∧ i ≤ i' ∧ i' ≤ s.length ∧ acc'.length ≤ i' ∧ (true = false → ok' = false) := by
          intro y hy1 hy2 hy3
          rw [sl_bl]
          by_cases hlt : y < s.length
          · have hx := List.getElem?_eq_getElem hlt
            rw [decide_eq_false (by omega), cond_false, inS_bl hlt, bd, sx_bl hx, bd, app_one (by omega), bd, w64_succ (by omega)]
            obtain ⟨i', ok', acc', e, a1, a2, a3, a4⟩ := ih (y + 1) (acc ++ [s[y]]) (by omega) (by omega) (by rw [List.length_append, List.length_singleton]; omega)
            exact ⟨i', ok', acc', e, by omega, a2, a3, a4⟩
          · rw [decide_eq_true (by omega), cond_true]
            exact ⟨y, false, acc, rfl, hy1, hy2, by omega, fun _ => rfl⟩
        by_cases h92 : pk s i = 92
        · have hin := pk_in (s := s) (i := i) (by omega)
          rw [decide_eq_true h92, cond_true, w64_succ (by omega)]
          exact go (i + 1) (by omega) (by omega) (by omega)
        · rw [decide_eq_false h92, cond_false]
          exact go i (Nat.le_refl _) h1 (by omega)
theorem l2String_ok (s : List UInt8) (hs : s.length ≤ 1000000) (i : Nat) (hi : i ≤ s.length) (ok : Bool) (left : Int) : ∃ (i' : Nat) (ok' : Bool) (q : List UInt8), spec_l2String.f ⟨bl s, (i : Int), ok, left⟩ = some (⟨bl s, (i' : Int), ok', left⟩, bl q) ∧ i ≤ i' ∧ i' ≤ s.length ∧ q.length ≤ s.length := by
  unfold spec_l2String.f
  obtain ⟨i1, ok1, e1, a1, a2, _⟩ := l2Take_ok s (by omega) i hi ok left [34] (by simp)
  rw [show ByteArray.mk #[34] = bl [34] from rfl, e1, bd, joinK_eq]
  dsimp only
  obtain ⟨i2, ok2, acc, e2, b1, b2, b3, _⟩ := ls_tot s hs (i1 : Int) left ok1 (fun (y2 : Int) (y3 : Bool) (y4 : List Int) =>
    (spec_l2Take.f (l2Cur.mk (bl s) y2 y3 left) (bl [34])).bind fun r28 =>
    (some (bsO y4)).bind fun s29 =>
    some (r28, s29)) ((bl s).size + 2) i1 [] a2 (by rw [bl_size]; omega) (by simp)
  obtain ⟨i3, ok3, e3, c1, c2, _⟩ := l2Take_ok s (by omega) i2 b2 ok2 left [34] (by simp)
  refine ⟨i3, ok3, acc, e2.trans ?_, by omega, c2, by omega⟩
  rw [e3, bd, bd, bsO_chs]
theorem ls_right (s : List UInt8) (hs : s.length ≤ 1000000) (at0 left : Int) (K : Int → Bool → (List Int) → Option (l2Cur × ByteArray)) (rest : List UInt8) : ∀ (q : List UInt8) (k i : Nat) (acc : List UInt8), s.drop i = q.flatMap escC ++ 34 :: rest → q.length < k → acc.length ≤ i → spec_l2String.l0 ⟨bl s, at0, true, left⟩ K k (i : Int) (chs acc) = K ((i + (q.flatMap escC).length : Nat) : Int) true (chs (acc ++ q)) := by
  intro q
  induction q with
  | nil =>
    intro k i acc hd hk ha
    cases k with
    | zero => simp at hk
    | succ k =>
      obtain ⟨hp, _⟩ := pk_drop (c := 34) (r := rest) hd
      rw [spec_l2String.l0]
      dsimp only
      rw [gd_true, spec_l2Peek_eq, bd, hp, show bo3 true (decide (((34 : UInt8).toNat : Int) ≠ 34)) false = false from rfl, cond_false, List.append_nil]
      rfl
  | cons c q ih =>
    intro k i acc hd hk ha
    cases k with
    | zero => simp at hk
    | succ k =>
      simp only [List.length_cons] at hk
      rw [List.flatMap_cons] at hd ⊢
      have go : ∀ y : Nat, s.drop y = c :: (q.flatMap escC ++ 34 :: rest) → i ≤ y → (bif (decide ((Ls.sl (bl s)) ≤ (y : Int))) then (K (y : Int) false (chs acc)) else ((inS (bl s) (y : Int)).bind fun u25 => (some [(Ls.sx (bl s) (y : Int))]).bind fun l26 => (appO 1 (chs acc) l26).bind fun l27 => spec_l2String.l0 ⟨bl s, at0, true, left⟩ K k (w64 ((y : Int) + 1)) l27)) = K ((y + 1 + (q.flatMap escC).length : Nat) : Int) true (chs (acc ++ c :: q)) := by
        intro y hy hiy
        have hlt := drop_le hy
        obtain ⟨_, hx⟩ := pk_drop hy
        have hd2 : s.drop (y + 1) = q.flatMap escC ++ 34 :: rest := by rw [← List.drop_drop, hy]; rfl
        rw [sl_bl, decide_eq_false (by omega), cond_false, inS_bl hlt, bd, sx_bl hx, bd, app_one (by omega), bd, w64_succ (by omega), ih k (y + 1) (acc ++ [c]) hd2 (by omega) (by rw [List.length_append, List.length_singleton]; omega), List.append_assoc]
        rfl
      rw [spec_l2String.l0]
      dsimp only
      by_cases hc : c = 34 ∨ c = 92
      · have e : escC c = [92, c] := if_pos hc
        rw [e] at hd ⊢
        have hd1 : s.drop i = 92 :: (c :: (q.flatMap escC ++ 34 :: rest)) := by rw [hd]; simp
        obtain ⟨hp, _⟩ := pk_drop hd1
        have hlt := drop_le hd1
        rw [gd_true, spec_l2Peek_eq, bd, hp, show bo3 true (decide (((92 : UInt8).toNat : Int) ≠ 34)) false = true from rfl, cond_true, joinK_eq, bd, show decide (((92 : UInt8).toNat : Int) = 92) = true from rfl, cond_true, w64_succ (by omega)]
        refine (go (i + 1) (by rw [← List.drop_drop, hd1]; rfl) (by omega)).trans ?_
        congr 2
        simp only [List.length_append, List.length_cons, List.length_nil]; omega
      · have e : escC c = [c] := if_neg hc
        rw [e] at hd ⊢
        have hd1 : s.drop i = c :: (q.flatMap escC ++ 34 :: rest) := by rw [hd]; simp
        obtain ⟨hp, _⟩ := pk_drop hd1
        have n34 : (c.toNat : Int) ≠ 34 := fun h => hc (.inl (UInt8.toNat_inj.1 (by have e : (34 : UInt8).toNat = 34 := rfl; omega)))
        have n92 : ¬ (c.toNat : Int) = 92 := fun h => hc (.inr (UInt8.toNat_inj.1 (by have e : (92 : UInt8).toNat = 92 := rfl; omega)))
        rw [gd_true, spec_l2Peek_eq, bd, hp, decide_eq_true n34, show bo3 true true false = true from rfl, cond_true, joinK_eq, bd, decide_eq_false n92, cond_false]
        refine (go i hd1 (Nat.le_refl _)).trans ?_
        congr 2
        simp only [List.length_append, List.length_cons, List.length_nil]; omega
theorem l2String_right {s : List UInt8} (hs : s.length ≤ 1000000) {i : Nat} (q rest : List UInt8) (h : s.drop i = quoteL q ++ rest) (left : Int) : spec_l2String.f ⟨bl s, (i : Int), true, left⟩ = some (⟨bl s, ((i + (quoteL q).length : Nat) : Int), true, left⟩, bl q) := by
  unfold spec_l2String.f
  have h0 : s.drop i = [34] ++ (q.flatMap escC ++ 34 :: rest) := by rw [h]; simp [quoteL]
  have h1 : s.drop (i + 1) = q.flatMap escC ++ 34 :: rest := drop_step h0
  rw [show ByteArray.mk #[34] = bl [34] from rfl, l2Take_yes (by omega) h0 (by simp) (by simp), bd, joinK_eq]
  dsimp only
  have hl : q.length ≤ (q.flatMap escC).length := by
    clear h h0 h1
    induction q with
    | nil => exact Nat.le_refl _
    | cons c q ih => rw [List.flatMap_cons, List.length_append, List.length_cons]; have : 1 ≤ (escC c).length := by unfold escC; split <;> simp
                     omega
  have hle : q.length < (bl s).size + 2 := by
    rw [bl_size]
    have := congrArg List.length h1
    rw [List.length_drop, List.length_append] at this
    omega
  refine (ls_right s hs _ left _ rest q ((bl s).size + 2) (i + 1) [] h1 hle (by simp)).trans ?_
  have h2 : s.drop (i + 1 + (q.flatMap escC).length) = [34] ++ rest := drop_step h1
  rw [l2Take_yes (by omega) h2 (by simp) (by simp), bd, bd, bsO_chs, List.nil_append]
  congr 4
  unfold quoteL
  simp only [List.length_append, List.length_cons, List.length_nil]; omega

theorem names_txt {ns : List ByteArray} (h : namesB ns = true) : ∀ n ∈ ns, txtB n = true := by
  unfold namesB at h
  rw [allFrom_iff] at h
  intro n hn
  obtain ⟨i, hi⟩ := List.mem_iff_getElem?.1 hn
  have := h i n hi
  rw [Bool.and_eq_true] at this
  exact this.1
theorem txt_len {n : ByteArray} (h : txtB n = true) : n.data.toList.length ≤ 60 := by
  unfold txtB at h
  rw [Bool.and_eq_true, decide_eq_true_eq, size_len] at h
  exact h.2
/-- A value whose size is told: what its parts are. -/
theorem size_parts {d : Nat} {j : Json} (h : sizeF (d + 1) j ≤ 400) : ownB j = true ∧ sizeF (d + 1) j = 1 + (j.List_.map (sizeF d)).sum ∧ (∀ x ∈ j.List_, sizeF d x ≤ 400) ∧ (j.List_.length : Int) ≤ (j.List_.map (sizeF d)).sum := by
  rw [sizeF] at h ⊢
  split at h
  · rename_i ho
    obtain ⟨h1, h2⟩ := cap_le (sizeF_range d) j.List_ 1 (by omega) (by omega) h
    rw [if_pos ho]
    refine ⟨ho, h1, h2, ?_⟩
    have : ∀ l : List Json, (l.length : Int) ≤ (l.map (sizeF d)).sum := by
      intro l
      induction l with
      | nil => simp
      | cons x l ih => have := sizeF_range d x; rw [List.map_cons, List.sum_cons, List.length_cons]; omega
    exact this _
  · omega
theorem size_pos {d : Nat} {j : Json} (h : sizeF d j ≤ 400) : ∃ e, d = e + 1 := by
  cases d with
  | zero => rw [sizeF] at h; omega
  | succ e => exact ⟨e, rfl⟩
theorem lens_cons (w : List UInt8) (ws : List (List UInt8)) : Lib.lens (w :: ws) = w.length + Lib.lens ws := by simp [Lib.lens]
theorem join_le (ws : List (List UInt8)) : (Lib.join ws [44]).length ≤ Lib.lens ws + ws.length := by
  cases ws with
  | nil => simp [Lib.join_nil]
  | cons w ws => rw [Lib.join_length]; simp; omega
theorem objW_len (f : Json → List UInt8) : ∀ (ns : List ByteArray) (l : List Json), ns.length = l.length → (objW f ns l).length = l.length
  | [], [], _ => rfl
  | [], _ :: _, h => by simp at h
  | _ :: _, [], h => by simp at h
  | n :: ns, x :: l, h => by simp [objW, objW_len f ns l (by simpa using h)]
theorem enc_len : ∀ (d : Nat) (j : Json), sizeF d j ≤ 400 → ((encF d j).length : Int) + 150 ≤ 300 * sizeF d j := by
  intro d
  induction d with
  | zero => intro j h; rw [sizeF] at h; omega
  | succ d ih =>
    intro j h
    obtain ⟨ho, h1, h2, h3⟩ := size_parts h
    have h4 : ∀ l : List Json, (∀ x ∈ l, sizeF d x ≤ 400) → (Lib.lens (l.map (encF d)) : Int) + 150 * l.length ≤ 300 * (l.map (sizeF d)).sum := by
      intro l
      induction l with
      | nil => intro _; simp [Lib.lens]
      | cons x l ih' =>
        intro hx
        have a := ih' fun y hy => hx y (by simp [hy])
        have b := ih x (hx x (by simp))
        rw [List.map_cons, List.map_cons, lens_cons, List.sum_cons, List.length_cons]
        omega
    have h5 : ∀ (ns : List ByteArray) (l : List Json), ns.length = l.length → (∀ n ∈ ns, txtB n = true) → (∀ x ∈ l, sizeF d x ≤ 400) → (Lib.lens (objW (encF d) ns l) : Int) + 27 * l.length ≤ 300 * (l.map (sizeF d)).sum := by
      intro ns
      induction ns with
      | nil => intro l e _ _; have : l = [] := List.length_eq_zero_iff.1 e.symm; subst this; simp [objW, Lib.lens]
      | cons n ns ih' =>
        intro l e hn hx
        cases l with
        | nil => simp at e
        | cons x l =>
          have a := ih' l (by simpa using e) (fun m hm => hn m (by simp [hm])) fun y hy => hx y (by simp [hy])
          have b := ih x (hx x (by simp))
          have c := quote_len n.data.toList
          have e' := txt_len (hn n (by simp))
          rw [objW, lens_cons, List.map_cons, List.sum_cons, List.length_cons]
          simp only [List.length_append, List.length_cons]
          omega
    have h6 := h4 _ h2
    have h7 := join_le (j.List_.map (encF d))
    rw [List.length_map] at h7
    rw [h1]
    rcases own_cases ho with rfl | ⟨n, hn, rfl⟩ | ⟨n, hn, rfl⟩ | ⟨s, hs, rfl⟩ | ⟨l, rfl⟩ | ⟨l, ns, e, hn, rfl⟩
    · show ((4 : Nat) : Int) + 150 ≤ _; simp [nullJ]
    · show (((if n = 1 then trueL else falseL).length : Nat) : Int) + 150 ≤ _
      have : (if n = 1 then trueL else falseL).length ≤ 5 := by split <;> simp
      simp; omega
    · show (((Lib.itoa n).length : Nat) : Int) + 150 ≤ _
      have := itoa_len11 hn
      simp; omega
    · show (((quoteL s.data.toList).length : Nat) : Int) + 150 ≤ _
      have := quote_len s.data.toList
      have := txt_len hs
      simp; omega
    · show (((91 :: (Lib.join (l.map (encF d)) [44] ++ [93])).length : Nat) : Int) + 150 ≤ _
      simp only [List.length_cons, List.length_append, List.length_nil] at *
      omega
    · show (((123 :: (Lib.join (objW (encF d) ns l) [44] ++ [125])).length : Nat) : Int) + 150 ≤ _
      have a := h5 ns l e (names_txt hn) h2
      have b := join_le (objW (encF d) ns l)
      rw [objW_len _ _ _ e] at b
      simp only [List.length_cons, List.length_append, List.length_nil] at *
      omega
/-- What the loops go through. -/
def partW (f : Json → List UInt8) (j : Json) (i : Nat) : List (List UInt8) := if j.Kind = 5 then objW f (j.Names.drop i) (j.List_.drop i) else (j.List_.drop i).map f

theorem l2Quote_l0 (s : List UInt8) (hs : s.length ≤ 10000000) : ∀ (k i : Nat) (acc : List UInt8), i ≤ s.length → s.length < i + k → acc.length ≤ 2 * i + 1 → spec_l2Quote.l0 (bl s) k (chs acc) (i : Int) = some (bl (acc ++ ((s.drop i).flatMap escC ++ [34]))) := by
  intro k
  induction k with
  | zero => intro i acc h1 h2; omega
  | succ k ih =>
    intro i acc h1 h2 h3
    rw [spec_l2Quote.l0, sl_bl]
    by_cases hi : i < s.length
    · have hx := List.getElem?_eq_getElem hi
      rw [decide_eq_true (by omega), cond_true, inS_bl hi, bd]
      have hg : ∀ b : Bool, (gd b (some ()) : Option Unit) = some () := fun b => by cases b <;> rfl
      rw [hg, bd, q34 hx, List.drop_eq_getElem_cons hi, List.flatMap_cons]
      by_cases hc : s[i] = 34 ∨ s[i] = 92
      · rw [decide_eq_true hc, cond_true, bd, app_92 (by omega), bd, bd, sx_bl hx, bd, app_one (by rw [List.length_append, List.length_singleton]; omega), bd, w64_succ (by omega), ih (i + 1) _ (by omega) (by omega) (by simp only [List.length_append, List.length_cons, List.length_nil]; omega)]
        unfold escC
        rw [if_pos hc]
        simp
      · rw [decide_eq_false hc, cond_false, bd, sx_bl hx, bd, app_one (by omega), bd, w64_succ (by omega), ih (i + 1) _ (by omega) (by omega) (by simp only [List.length_append, List.length_cons, List.length_nil]; omega)]
        rw [show escC s[i] = [s[i]] from if_neg hc]
        simp
    · rw [decide_eq_false (by omega), cond_false, bd, app_34 (by omega), bd, bd, bsO_chs, List.drop_eq_nil_of_le (by omega)]
      simp
theorem spec_l2Quote_eq (s : List UInt8) (hs : s.length ≤ 10000000) : spec_l2Quote.f (bl s) = some (bl (quoteL s)) := by
  unfold spec_l2Quote.f
  rw [bd, sl_bl]
  refine (l2Quote_l0 s hs _ 0 [34] (by omega) (by omega) (by simp)).trans ?_
  rw [List.drop_zero]
  rfl

theorem l2Digits_l0 (K : Bool → ByteArray → Option ByteArray) (b : Bool) : ∀ (k u : Nat) (neg : Bool) (l : List UInt8), u < 10 ^ k → u ≤ 9223372036854775808 → l.length + k ≤ 1000 → spec_l2Digits.l0 K (k + 1) (if neg = true then -(u : Int) else u) b (bl l) = K b (bl (digs u ++ l)) := by
  intro k
  induction k with
  | zero =>
    intro u neg l h _ _
    have : u = 0 := by simpa using h
    subst this
    rw [spec_l2Digits.l0]
    cases neg <;> simp [digs]
  | succ k ih =>
    intro u neg l h hu hl
    rw [spec_l2Digits.l0]
    by_cases h0 : u = 0
    · subst h0
      cases neg <;> simp [digs]
    · have hz : (if neg = true then -(u : Int) else u) ≠ 0 := by cases neg <;> simp <;> omega
      have hd : u / 10 < 10 ^ k := by rw [Nat.pow_succ] at h; omega
      have hdiv : w64 (Int.tdiv (if neg = true then -(u : Int) else u) 10) = (if neg = true then -((u / 10 : Nat) : Int) else ((u / 10 : Nat) : Int)) := by
        cases neg with
        | true => simp only [if_true]; rw [Int.neg_tdiv, Int.tdiv_eq_ediv_of_nonneg (by omega), w64_id (by omega)]; omega
        | false => simp only [if_false, Bool.false_eq_true]; rw [Int.tdiv_eq_ediv_of_nonneg (by omega), w64_id (by omega)]; omega
      have hm : Int.tmod (if neg = true then -(u : Int) else u) 10 = (if neg = true then -((u % 10 : Nat) : Int) else ((u % 10 : Nat) : Int)) := by
        cases neg with
        | true => simp only [if_true]; rw [Int.neg_tmod, Int.tmod_eq_emod_of_nonneg (by omega)]; omega
        | false => simp only [if_false, Bool.false_eq_true]; rw [Int.tmod_eq_emod_of_nonneg (by omega)]; omega
      rw [decide_eq_true hz, cond_true, hdiv, hm, digs_step (by omega)]
      have hsm : smO (bl [UInt8.ofNat (48 + u % 10)]) (bl l) = some () := smO_ok (by rw [bl_size, bl_size]; simp only [List.length_cons, List.length_nil]; omega)
      have fin : spec_l2Digits.l0 K (k + 1) (if neg = true then -((u / 10 : Nat) : Int) else ((u / 10 : Nat) : Int)) b (Ls.sa (bl [UInt8.ofNat (48 + u % 10)]) (bl l)) = K b (bl (digs (u / 10) ++ [UInt8.ofNat (48 + u % 10)] ++ l)) := by
        rw [bl_sa, ih (u / 10) neg _ hd (by omega) (by simp only [List.length_append, List.length_cons, List.length_nil]; omega)]
        simp
      by_cases hneg : (if neg = true then -((u % 10 : Nat) : Int) else ((u % 10 : Nat) : Int)) < 0
      · have hn : neg = true := by cases neg <;> simp_all <;> omega
        subst hn
        simp only [if_true] at hneg fin ⊢
        rw [decide_eq_true hneg, cond_true, w64_id (x := 0 - -((u % 10 : Nat) : Int)) (by omega), w64_id (by omega), show (48 : Int) + (0 - -((u % 10 : Nat) : Int)) = ((48 + u % 10 : Nat) : Int) by omega, wrap8 (by omega), Option.bind_some, bsO_one _ (by omega), Option.bind_some, hsm, Option.bind_some, fin]
      · have hv : (if neg = true then -((u % 10 : Nat) : Int) else ((u % 10 : Nat) : Int)) = ((u % 10 : Nat) : Int) := by cases neg <;> simp at hneg ⊢ <;> omega
        rw [decide_eq_false hneg, cond_false, hv, w64_id (by omega), show (48 : Int) + ((u % 10 : Nat) : Int) = ((48 + u % 10 : Nat) : Int) by omega, wrap8 (by omega), Option.bind_some, bsO_one _ (by omega), Option.bind_some, hsm, Option.bind_some, fin]
theorem spec_l2Digits_eq (n : Int) (h : -9223372036854775808 ≤ n ∧ n ≤ 9223372036854775807) : spec_l2Digits.f n = some (bl (Lib.itoa n)) := by
  unfold spec_l2Digits.f
  by_cases h0 : n = 0
  · subst h0
    rw [decide_eq_true rfl, cond_true, show Lib.itoa 0 = [48] by rw [Lib.itoa, if_neg (by omega), Lib.decDigits, dif_pos (by decide)]; rfl]
    rfl
  · rw [decide_eq_false h0, cond_false, joinK_eq]
    have key := l2Digits_l0 (fun (y2 : Bool) (y3 : ByteArray) =>
      bif y2 then (
      (smO (ByteArray.mk #[45]) y3).bind fun u20 =>
      some (Ls.sa (ByteArray.mk #[45]) y3))
      else (
      some y3)) (decide (n < 0)) 29 n.natAbs (decide (n < 0)) [] (by omega) (by omega) (by simp)
    have hn : (if decide (n < 0) = true then -((n.natAbs : Nat) : Int) else (n.natAbs : Nat)) = n := by
      by_cases c : n < 0
      · rw [if_pos (by simpa using c)]; omega
      · rw [if_neg (by simpa using c)]; omega
    rw [hn] at key
    have hlen := decDigits_len 29 n.natAbs (by omega)
    refine key.trans ?_
    rw [List.append_nil]
    have hdg : digs n.natAbs = Lib.decDigits n.natAbs := by unfold digs; rw [if_neg (by omega)]
    by_cases c : n < 0
    · rw [decide_eq_true c, cond_true, show ByteArray.mk #[45] = bl [45] from rfl, smO_ok (by rw [bl_size, bl_size]; simp only [List.length_cons, List.length_nil]; omega), Option.bind_some, bl_sa, hdg]
      simp [Lib.itoa, c]
    · rw [decide_eq_false c, cond_false, hdg]
      simp [Lib.itoa, c]
      try congr 2; omega

theorem join_one_more (a : List UInt8) (ws : List (List UInt8)) : Lib.join (a :: ws) [44] = a ++ (if ws = [] then [] else 44 :: Lib.join ws [44]) := by
  cases ws with
  | nil => simp [Lib.join_one]
  | cons b ws => rw [Lib.join_cons, if_neg (by simp), Lib.join_cons]; simp [Lib.joinTail]
/-- What comes behind the parts so far. -/
def moreW (ws : List (List UInt8)) (i : Nat) : List UInt8 := if ws = [] then [] else if i = 0 then Lib.join ws [44] else 44 :: Lib.join ws [44]
theorem moreW_cons (a : List UInt8) (ws : List (List UInt8)) (i : Nat) : moreW (a :: ws) i = (if i = 0 then [] else [44]) ++ a ++ moreW ws (i + 1) := by
  unfold moreW
  rw [if_neg (by simp), join_one_more, if_neg (show ¬ i + 1 = 0 by omega)]
  by_cases h : i = 0
  · rw [if_pos h, if_pos h]; simp
  · rw [if_neg h, if_neg h]; simp
theorem l2Encode_l0 (j : Json) (f : Json → List UInt8) (self : Json → Option ByteArray) (K : ByteArray → Option ByteArray) (hl : j.List_.length ≤ 400) (hn : j.Kind = 5 → j.Names.length = j.List_.length) (hs : ∀ n ∈ j.Names, n.data.toList.length ≤ 60) (hx : ∀ x ∈ j.List_, self x = some (bl (f x)) ∧ (f x).length ≤ 1000000) : ∀ (k i : Nat) (acc : List UInt8), i ≤ j.List_.length → j.List_.length < i + k → acc.length ≤ 2000000 * i → spec_l2Encode.l0 j self K k (bl acc) (i : Int) = K (bl (acc ++ moreW (partW f j i) i)) := by
  intro k
  induction k with
  | zero => intro i acc h1 h2; omega
  | succ k ih =>
    intro i acc h1 h2 h3
    rw [spec_l2Encode.l0, lenI_eq]
    by_cases hi : i < j.List_.length
    · have hg := List.getElem?_eq_getElem hi
      obtain ⟨e1, e2⟩ := hx _ (List.getElem_mem hi)
      rw [decide_eq_true (by omega), cond_true, joinK_eq]
      have go : ∀ acc' : List UInt8, acc' = acc ++ (if i = 0 then [] else [44]) → (joinK (fun (y24 : ByteArray) =>
          (getO j.List_ (i : Int)).bind fun x31 =>
          (self x31).bind fun r32 =>
          (addO y24 r32).bind fun s33 =>
          spec_l2Encode.l0 j self K k s33 (w64 ((i : Int) + 1))) (fun K25 =>
          bif (decide (j.Kind = 5)) then (
          (getO j.Names (i : Int)).bind fun x27 =>
          (spec_l2Quote.f x27).bind fun r28 =>
          (addO (bl acc') r28).bind fun s29 =>
          (addO s29 (ByteArray.mk #[58])).bind fun s30 =>
          K25 s30)
          else (
          K25 (bl acc')))) = K (bl (acc ++ moreW (partW f j i) i)) := by
        intro acc' ea
        have hla : acc'.length ≤ acc.length + 1 := by rw [ea]; split <;> simp
        rw [joinK_eq]
        by_cases hk : j.Kind = 5
        · have hin : i < j.Names.length := by have := hn hk; omega
          have hgn := List.getElem?_eq_getElem hin
          have hlen := hs _ (List.getElem_mem hin)
          have hq := quote_len j.Names[i].data.toList
          have en : spec_l2Quote.f j.Names[i] = some (bl (quoteL j.Names[i].data.toList)) := by
            have h := spec_l2Quote_eq j.Names[i].data.toList (by omega)
            rw [bl_toList] at h; exact h
          rw [decide_eq_true hk, cond_true, getO_nat, hgn, bd, en, bd, addO_bl (by omega), bd, show ByteArray.mk #[58] = bl [58] from rfl, addO_bl (by simp only [List.length_append, List.length_cons, List.length_nil]; omega), bd]
          dsimp only
          rw [getO_nat, hg, bd, e1, bd, addO_bl (by simp only [List.length_append, List.length_cons, List.length_nil]; omega), bd, w64_succ (by omega),
            ih (i + 1) _ (by omega) (by omega) (by simp only [List.length_append, List.length_cons, List.length_nil]; omega)]
          have ep : partW f j i = (quoteL j.Names[i].data.toList ++ 58 :: f j.List_[i]) :: partW f j (i + 1) := by
            unfold partW
            rw [if_pos hk, if_pos hk, List.drop_eq_getElem_cons hi, List.drop_eq_getElem_cons hin]
            rfl
          rw [ep, moreW_cons, ea]
          congr 2
          simp
        · rw [decide_eq_false hk, cond_false]
          dsimp only
          rw [getO_nat, hg, bd, e1, bd, addO_bl (by omega), bd, w64_succ (by omega), ih (i + 1) _ (by omega) (by omega) (by simp only [List.length_append]; omega)]
          have ep : partW f j i = f j.List_[i] :: partW f j (i + 1) := by
            unfold partW
            rw [if_neg hk, if_neg hk, List.drop_eq_getElem_cons hi]
            rfl
          rw [ep, moreW_cons, ea]
          congr 2
          simp
      by_cases h0 : i = 0
      · rw [decide_eq_false (by omega), cond_false]
        exact go acc (by rw [if_pos h0, List.append_nil])
      · rw [decide_eq_true (by omega), cond_true, show ByteArray.mk #[44] = bl [44] from rfl, addO_bl (by simp only [List.length_cons, List.length_nil]; omega), bd]
        exact go _ (by rw [if_neg h0])
    · rw [decide_eq_false (by omega), cond_false]
      have : partW f j i = [] := by
        unfold partW
        rw [show j.List_.drop i = [] from List.drop_eq_nil_of_le (by omega)]
        split
        · cases j.Names.drop i <;> rfl
        · rfl
      rw [this, show moreW [] i = [] from if_pos rfl, List.append_nil]
theorem moreW_zero (ws : List (List UInt8)) : moreW ws 0 = Lib.join ws [44] := by
  unfold moreW
  split
  · rename_i h; rw [h]; simp [Lib.join_nil]
  · rw [if_pos rfl]
theorem spec_l2Encode_g : ∀ (k d : Nat) (j : Json), d ≤ k → sizeF d j ≤ 400 → spec_l2Encode.g k j = some (bl (encF d j)) := by
  intro k
  induction k with
  | zero => intro d j h1 h2; have : d = 0 := by omega
            subst this; rw [sizeF] at h2; omega
  | succ k ih =>
    intro d j h1 h2
    obtain ⟨d, rfl⟩ := size_pos h2
    obtain ⟨ho, h3, h4, h5⟩ := size_parts h2
    have hlen := enc_len (d + 1) j h2
    have hx : ∀ x ∈ j.List_, spec_l2Encode.g k x = some (bl (encF d x)) ∧ (encF d x).length ≤ 1000000 := fun x hx => ⟨ih d x (by omega) (h4 x hx), by have := enc_len d x (h4 x hx); have := h4 x hx; omega⟩
    have hl : j.List_.length ≤ 400 := by omega
    rw [spec_l2Encode.g, spec_l2Encode.b]
    rcases own_cases ho with rfl | ⟨n, hn, rfl⟩ | ⟨n, hn, rfl⟩ | ⟨s, hs, rfl⟩ | ⟨l, rfl⟩ | ⟨l, ns, e, hn, rfl⟩
    · rfl
    · rcases hn with rfl | rfl <;> rfl
    · show (spec_l2Digits.f n).bind _ = _
      rw [spec_l2Digits_eq n (by omega)]
      rfl
    · show (spec_l2Quote.f s).bind _ = _
      have := txt_len hs
      have h := spec_l2Quote_eq s.data.toList (by omega)
      rw [bl_toList] at h
      rw [h]; rfl
    · have ep : partW (encF d) ⟨4, 0, ByteArray.empty, l, []⟩ 0 = l.map (encF d) := rfl
      have hlen' : (((91 :: (Lib.join (l.map (encF d)) [44] ++ [93])).length : Nat) : Int) + 150 ≤ 300 * sizeF (d + 1) ⟨4, 0, ByteArray.empty, l, []⟩ := hlen
      simp only [List.length_cons, List.length_append, List.length_nil] at hlen'
      show joinK _ _ = _
      rw [joinK_eq]
      dsimp only
      rw [show ((lenI l) - 0).toNat + 1 = l.length + 1 by rw [lenI_eq]; omega]
      refine (l2Encode_l0 ⟨4, 0, ByteArray.empty, l, []⟩ (encF d) _ _ hl (fun h => by simp at h) (by simp) hx _ 0 [] (by omega) (by show l.length < _; omega) (by simp)).trans ?_
      rw [List.nil_append, ep, moreW_zero]
      show (addO (bl [91]) _).bind _ = _
      rw [addO_bl (by simp only [List.length_cons, List.length_nil]; omega), bd, show ByteArray.mk #[93] = bl [93] from rfl, addO_bl (by simp only [List.length_append, List.length_cons, List.length_nil]; omega), bd]
      rfl
    · have ep : partW (encF d) ⟨5, 0, ByteArray.empty, l, ns⟩ 0 = objW (encF d) ns l := rfl
      have hlen' : (((123 :: (Lib.join (objW (encF d) ns l) [44] ++ [125])).length : Nat) : Int) + 150 ≤ 300 * sizeF (d + 1) ⟨5, 0, ByteArray.empty, l, ns⟩ := hlen
      simp only [List.length_cons, List.length_append, List.length_nil] at hlen'
      show joinK _ _ = _
      rw [joinK_eq]
      dsimp only
      rw [show ((lenI l) - 0).toNat + 1 = l.length + 1 by rw [lenI_eq]; omega]
      refine (l2Encode_l0 ⟨5, 0, ByteArray.empty, l, ns⟩ (encF d) _ _ hl (fun _ => e) (fun n h => txt_len (names_txt hn n h)) hx _ 0 [] (by omega) (by show l.length < _; omega) (by simp)).trans ?_
      rw [List.nil_append, ep, moreW_zero]
      show (addO (bl [123]) _).bind _ = _
      rw [addO_bl (by simp only [List.length_cons, List.length_nil]; omega), bd, show ByteArray.mk #[125] = bl [125] from rfl, addO_bl (by simp only [List.length_append, List.length_cons, List.length_nil]; omega), bd]
      rfl

open Classical in
/-- What is read of a text: the value whose text it is. -/
noncomputable def decF (t : List UInt8) : Json × Bool := if h : ∃ j, jsonB j = true ∧ encF 6 j = t ∧ t.length ≤ 6000 then (Classical.choose h, true) else (nullJ, false)
theorem decF_yes {t : List UInt8} (h : ∃ j, jsonB j = true ∧ encF 6 j = t ∧ t.length ≤ 6000) : ∃ j, decF t = (j, true) ∧ jsonB j = true ∧ encF 6 j = t ∧ t.length ≤ 6000 := by
  refine ⟨Classical.choose h, ?_, Classical.choose_spec h⟩
  unfold decF
  rw [dif_pos h]
theorem decF_no {t : List UInt8} (h : ¬ ∃ j, jsonB j = true ∧ encF 6 j = t ∧ t.length ≤ 6000) : decF t = (nullJ, false) := by
  unfold decF
  rw [dif_neg h]
theorem Jw_small {k n : Int} {s : ByteArray} {l : List Json} {ns : List ByteArray} (h1 : (s.size : Int) ≤ 4611686018427387904) (h2 : ∀ x ∈ ns, (x.size : Int) ≤ 4611686018427387904) (h3 : ns.length ≤ 10000000) (h4 : l.length ≤ 10000000) (h5 : ∀ x ∈ l, Jw x) : Jw ⟨k, n, s, l, ns⟩ :=
  (Jw_eq _).2 ⟨h1, h2, by show (ns.length : Int) ≤ _; omega, by show (l.length : Int) ≤ _; omega, h5⟩
theorem size_Jw : ∀ (d : Nat) (j : Json), sizeF d j ≤ 400 → Jw j := by
  intro d
  induction d with
  | zero => intro j h; rw [sizeF] at h; omega
  | succ d ih =>
    intro j h
    obtain ⟨ho, h1, h2, h3⟩ := size_parts h
    rcases own_cases ho with rfl | ⟨n, hn, rfl⟩ | ⟨n, hn, rfl⟩ | ⟨s, hs, rfl⟩ | ⟨l, rfl⟩ | ⟨l, ns, e, hn, rfl⟩
    · exact Jw_small (by simp) (by simp) (by simp) (by simp) (by simp)
    · exact Jw_small (by simp) (by simp) (by simp) (by simp) (by simp)
    · exact Jw_small (by simp) (by simp) (by simp) (by simp) (by simp)
    · exact Jw_small (by have := txt_len hs; rw [size_len]; omega) (by simp) (by simp) (by simp) (by simp)
    · have : (l.length : Int) ≤ 400 := by dsimp only at h1 h3; omega
      exact Jw_small (by simp) (by simp) (by simp) (by omega) (fun x hx => ih x (h2 x hx))
    · have : (l.length : Int) ≤ 400 := by dsimp only at h1 h3; omega
      exact Jw_small (by simp) (fun x hx => by have := txt_len (names_txt hn x hx); rw [size_len]; omega) (by omega) (by omega) (fun x hx => ih x (h2 x hx))
theorem jsonB_Jw {j : Json} (h : jsonB j = true) : Jw j := by
  unfold jsonB at h
  exact size_Jw 6 j (of_decide_eq_true h)
theorem json_small {j : Json} (h : jsonB j = true) : Json_b j ∧ sz_Json j ≤ 1000 := by
  unfold jsonB at h
  obtain ⟨h1, h2⟩ := sizeF_szj 6 j (of_decide_eq_true h)
  have h3 := of_decide_eq_true h
  have key : sz_Json j ≤ 1000 := by unfold sz_Json; rw [if_pos (by omega)]; omega
  exact ⟨by unfold Json_b; omega, key⟩
theorem null_small : Json_b nullJ ∧ sz_Json nullJ ≤ 1000 := by
  have : dpj nullJ ≤ 500 := by simp [nullJ, dpj, dpL]
  have key : sz_Json nullJ ≤ 1000 := by
    unfold sz_Json
    rw [if_pos this]
    simp [nullJ, szj, szL]
  exact ⟨by unfold Json_b; omega, key⟩
theorem decF_small (t : List UInt8) : Json_b (decF t).1 ∧ sz_Json (decF t).1 ≤ 1000 := by
  by_cases h : ∃ j, jsonB j = true ∧ encF 6 j = t ∧ t.length ≤ 6000
  · obtain ⟨j, e, hj, _⟩ := decF_yes h
    rw [e]; exact json_small hj
  · rw [decF_no h]; exact null_small
theorem enc_ne {j : Json} (h : jsonB j = true) : encF 6 j ≠ [] := by
  unfold jsonB at h
  obtain ⟨ho, _⟩ := size_parts (d := 5) (of_decide_eq_true h)
  rcases own_cases ho with rfl | ⟨n, hn, rfl⟩ | ⟨n, hn, rfl⟩ | ⟨s, hs, rfl⟩ | ⟨l, rfl⟩ | ⟨l, ns, e, hn, rfl⟩
  · exact fun h => by cases h
  · rcases hn with rfl | rfl <;> exact fun h => by cases h
  · intro h
    have h' : Lib.itoa n = [] := h
    obtain ⟨c, r, e, _⟩ := dec_cons n.natAbs
    unfold Lib.itoa at h'
    split at h'
    · cases h'
    · rw [show n.toNat = n.natAbs by omega, e] at h'; cases h'
  · exact fun h => by cases h
  · exact fun h => by cases h
  · exact fun h => by cases h

def SelfTot2 (s : List UInt8) (self : l2Cur → Int → Option (l2Cur × Json)) (d : Int) : Prop := ∀ (i : Nat) (ok : Bool) (left : Int), i ≤ s.length → 0 ≤ left → left ≤ 400 → ∃ (i' : Nat) (ok' : Bool) (left' : Int) (j : Json), self ⟨bl s, (i : Int), ok, left⟩ d = some (⟨bl s, (i' : Int), ok', left'⟩, j) ∧ i ≤ i' ∧ i' ≤ s.length ∧ -1 ≤ left' ∧ left' < left ∧ (ok' = true → 0 ≤ left') ∧ Jw j
theorem many_l0_tot (s : List UInt8) (hs : s.length ≤ 1000000) (e : UInt8) (self : l2Cur → Int → Option (l2Cur × Json)) (kind d : Int) (hself : SelfTot2 s self (w64 (d - 1))) (K : ByteArray → Int → Bool → Int → (List Json) → (List ByteArray) → Option (l2Cur × Json)) : ∀ (k i : Nat) (ok : Bool) (left : Int) (js : List Json) (ns : List ByteArray), 0 < k → (ok = true → 0 ≤ left) → (ok = true → left + 1 < k) → -1 ≤ left → left ≤ 400 → i ≤ s.length → js.length + left ≤ 1000 → ns.length ≤ js.length → (∀ x ∈ js, Jw x) → (∀ x ∈ ns, (x.size : Int) ≤ 4611686018427387904) → ∃ (i' : Nat) (ok' : Bool) (left' : Int) (js' : List Json) (ns' : List ByteArray), spec_l2Many.l0 d kind (bl [e]) self K k (bl s) (i : Int) ok left js ns = K (bl s) (i' : Int) ok' left' js' ns' ∧ i ≤ i' ∧ i' ≤ s.length ∧ -1 ≤ left' ∧ left' ≤ left ∧ (ok' = true → 0 ≤ left') ∧ js'.length ≤ 2000 ∧ ns'.length ≤ 2000 ∧ (∀ x ∈ js', Jw x) ∧ (∀ x ∈ ns', (x.size : Int) ≤ 4611686018427387904) := by
  intro k
  induction k with
  | zero => intro i ok left js ns h; omega
  | succ k ih =>
    intro i ok left js ns _ h0 hk hl1 hl2 hi hj hn hJ hN
    rw [spec_l2Many.l0]
    cases ok with
    | false =>
      refine ⟨i, false, left, js, ns, rfl, Nat.le_refl _, hi, hl1, Int.le_refl _, (fun h => by cases h), by omega, by omega, hJ, hN⟩
    | true =>
      have h0 := h0 rfl
      have hk := hk rfl
      rw [gd_true, spec_l2Peek_eq, bd, gd_true, show (0 : Int) = ((0 : Nat) : Int) from rfl, inS_bl (by simp), bd, show ∀ y, bo3 true y false = y from fun _ => rfl]
      cases decide (pk s i ≠ Ls.sx (bl [e]) ((0 : Nat) : Int)) with
      | false => exact ⟨i, true, left, js, ns, rfl, Nat.le_refl _, hi, hl1, Int.le_refl _, (fun _ => h0), by omega, by omega, hJ, hN⟩
      | true =>
        rw [cond_true, joinK_eq]
        -- behind the name
        have go2 : ∀ (i1 : Nat) (ok1 : Bool) (ns1 : List ByteArray), i ≤ i1 → i1 ≤ s.length → ns1.length ≤ js.length + 1 → (∀ x ∈ ns1, (x.size : Int) ≤ 4611686018427387904) → ∃ (i' : Nat) (ok' : Bool) (left' : Int) (js' : List Json) (ns' : List ByteArray), ((self (l2Cur.mk (bl s) (i1 : Int) ok1 left) (w64 (d - 1))).bind fun r73 =>
            (some [r73.2]).bind fun l74 =>
            (appO 80 js l74).bind fun l75 =>
            spec_l2Many.l0 d kind (bl [e]) self K k r73.1.s r73.1.at_ r73.1.ok r73.1.left l75 ns1) = K (bl s) (i' : Int) ok' left' js' ns' ∧ i ≤ i' ∧ i' ≤ s.length ∧ -1 ≤ left' ∧ left' ≤ left ∧ (ok' = true → 0 ≤ left') ∧ js'.length ≤ 2000 ∧ ns'.length ≤ 2000 ∧ (∀ x ∈ js', Jw x) ∧ (∀ x ∈ ns', (x.size : Int) ≤ 4611686018427387904) := by
          intro i1 ok1 ns1 a1 a2 a3 a4
          obtain ⟨i2, ok2, left2, j, e2, b1, b2, b3, b4, b5, b6⟩ := hself i1 ok1 left a2 h0 hl2
          rw [e2, bd, bd, appO_ok (by simp only [List.length_cons, List.length_nil]; omega), bd]
          have hJ2 : ∀ x ∈ js ++ [j], Jw x := fun x hx => (List.mem_append.1 hx).elim (hJ x) (fun h => by rw [List.mem_singleton.1 h]; exact b6)
          obtain ⟨i', ok', left', js', ns', e', c1, c2, c3, c4, c5, c6⟩ := ih i2 ok2 left2 (js ++ [j]) ns1 (by omega) b5 (fun _ => by omega) b3 (by omega) b2 (by rw [List.length_append, List.length_singleton]; omega) (by rw [List.length_append, List.length_singleton]; omega) hJ2 a4
          exact ⟨i', ok', left', js', ns', e', by omega, c2, c3, by omega, c5, c6⟩
        -- behind the comma
        have go1 : ∀ (i1 : Nat) (ok1 : Bool), i ≤ i1 → i1 ≤ s.length → ∃ (i' : Nat) (ok' : Bool) (left' : Int) (js' : List Json) (ns' : List ByteArray), (joinK (fun (y62 : ByteArray) (y63 : Int) (y64 : Bool) (y65 : Int) (y66 : List ByteArray) =>
            (self (l2Cur.mk y62 y63 y64 y65) (w64 (d - 1))).bind fun r73 =>
            (some [r73.2]).bind fun l74 =>
            (appO 80 js l74).bind fun l75 =>
            spec_l2Many.l0 d kind (bl [e]) self K k r73.1.s r73.1.at_ r73.1.ok r73.1.left l75 y66) (fun K67 =>
            bif (decide (kind = 5)) then (
            (spec_l2String.f (l2Cur.mk (bl s) (i1 : Int) ok1 left)).bind fun r69 =>
            (some [r69.2]).bind fun l70 =>
            (appO 16 ns l70).bind fun l71 =>
            (spec_l2Take.f r69.1 (ByteArray.mk #[58])).bind fun r72 =>
            K67 r72.s r72.at_ r72.ok r72.left l71)
            else (
            K67 (bl s) (i1 : Int) ok1 left ns))) = K (bl s) (i' : Int) ok' left' js' ns' ∧ i ≤ i' ∧ i' ≤ s.length ∧ -1 ≤ left' ∧ left' ≤ left ∧ (ok' = true → 0 ≤ left') ∧ js'.length ≤ 2000 ∧ ns'.length ≤ 2000 ∧ (∀ x ∈ js', Jw x) ∧ (∀ x ∈ ns', (x.size : Int) ≤ 4611686018427387904) := by
          intro i1 ok1 a1 a2
          rw [joinK_eq]
          by_cases hk5 : kind = 5
          · obtain ⟨i2, ok2, q, e2, b1, b2, b3⟩ := l2String_ok s hs i1 a2 ok1 left
            obtain ⟨i3, ok3, e3, c1, c2, _⟩ := l2Take_ok s (by omega) i2 b2 ok2 left [58] (by simp)
            rw [decide_eq_true hk5, cond_true, e2, bd, bd, appO_ok (by simp only [List.length_cons, List.length_nil]; omega), bd, show ByteArray.mk #[58] = bl [58] from rfl, e3, bd]
            exact go2 i3 ok3 _ (by omega) c2 (by rw [List.length_append, List.length_singleton]; omega) (fun x hx => (List.mem_append.1 hx).elim (hN x) (fun h => by rw [List.mem_singleton.1 h, bl_size]; omega))
          · rw [decide_eq_false hk5, cond_false]
            exact go2 i1 ok1 ns a1 a2 (by omega) hN
        cases decide ((0 : Nat) < (lenI js : Int)) with
        | true =>
          obtain ⟨i2, ok2, e2, b1, b2, _⟩ := l2Take_ok s (by omega) i hi true left [44] (by simp)
          rw [cond_true, show ByteArray.mk #[44] = bl [44] from rfl, e2, bd]
          exact go1 i2 ok2 b1 b2
        | false =>
          rw [cond_false]
          exact go1 i true (Nat.le_refl _) hi
theorem many_tot (s : List UInt8) (hs : s.length ≤ 1000000) (self : l2Cur → Int → Option (l2Cur × Json)) (d : Int) (hself : SelfTot2 s self (w64 (d - 1))) (i : Nat) (hi : i < s.length) (ok : Bool) (left : Int) (h1 : 0 ≤ left) (h2 : left ≤ 400) : ∃ (i' : Nat) (ok' : Bool) (left' : Int) (j : Json), spec_l2Many.f self ⟨bl s, (i : Int), ok, left⟩ d = some (⟨bl s, (i' : Int), ok', left'⟩, j) ∧ i ≤ i' ∧ i' ≤ s.length ∧ -1 ≤ left' ∧ left' ≤ left ∧ (ok' = true → 0 ≤ left') ∧ Jw j := by
  unfold spec_l2Many.f
  rw [joinK_eq, spec_l2Peek_eq, bd]
  have go : ∀ (N : Nat) (hN : 500 ≤ N) (kind : Int) (e : UInt8), ∃ (i' : Nat) (ok' : Bool) (left' : Int) (j : Json), (joinK (fun (y6 : ByteArray) (y7 : Int) (y8 : Bool) (y9 : Int) (y10 : List Json) (y11 : List ByteArray) =>
      (spec_l2Take.f (l2Cur.mk y6 y7 y8 y9) (bl [e])).bind fun r76 =>
      some (r76, (Json.mk kind 0 ByteArray.empty y10 y11))) (fun K12 =>
      spec_l2Many.l0 d kind (bl [e]) self K12 N (bl s) (w64 ((i : Int) + 1)) ok left [] [])) = some (⟨bl s, (i' : Int), ok', left'⟩, j) ∧ i ≤ i' ∧ i' ≤ s.length ∧ -1 ≤ left' ∧ left' ≤ left ∧ (ok' = true → 0 ≤ left') ∧ Jw j := by
    intro N hN kind e
    rw [joinK_eq, w64_succ (by omega)]
    obtain ⟨i', ok', left', js', ns', e', c1, c2, c3, c4, c5, c6, c7, c8, c9⟩ := many_l0_tot s hs e self kind d hself (fun (y6 : ByteArray) (y7 : Int) (y8 : Bool) (y9 : Int) (y10 : List Json) (y11 : List ByteArray) =>
      (spec_l2Take.f (l2Cur.mk y6 y7 y8 y9) (bl [e])).bind fun r76 =>
      some (r76, (Json.mk kind 0 ByteArray.empty y10 y11))) N (i + 1) ok left [] [] (by omega) (fun _ => h1) (fun _ => by omega) (by omega) h2 (by omega) (by simp; omega) (by simp) (by simp) (by simp)
    obtain ⟨i2, ok2, e2, b1, b2, b3⟩ := l2Take_ok s (by omega) i' c2 ok' left' [e] (by simp)
    refine ⟨i2, ok2, left', _, e'.trans (by rw [e2, bd]), by omega, b2, c3, c4, fun h => c5 ?_, Jw_small (by simp) c9 (by omega) (by omega) c8⟩
    cases ok' with
    | true => rfl
    | false => rw [b3 rfl] at h; cases h
  cases decide (pk s i = 123) with
  | true =>
    rw [cond_true]
    exact go 1000 (by decide) 5 125
  | false =>
    rw [cond_false]
    exact go 1000 (by decide) 4 93
/-- What reads a value's text, reads the value, and counts its parts. -/
def SelfRight2 (s : List UInt8) (self : l2Cur → Int → Option (l2Cur × Json)) (d : Int) (f : Json → List UInt8) (g : Json → Int) (x : Json) : Prop := ∀ (i : Nat) (left : Int) (rest : List UInt8), s.drop i = f x ++ rest → (∀ c ∈ rest.head?, c.toNat < 48 ∨ 57 < c.toNat) → g x ≤ left → left ≤ 400 → self ⟨bl s, (i : Int), true, left⟩ d = some (⟨bl s, ((i + (f x).length : Nat) : Int), true, left - g x⟩, x)
theorem head_more (ws : List (List UInt8)) (n : Nat) (e : UInt8) (he : e.toNat < 48 ∨ 57 < e.toNat) (rest : List UInt8) : ∀ c ∈ (moreW ws (n + 1) ++ e :: rest).head?, c.toNat < 48 ∨ 57 < c.toNat := by
  unfold moreW
  intro c hc
  split at hc
  · have : e = c := by simpa using hc
    exact this ▸ he
  · rw [if_neg (by omega)] at hc
    have : (44 : UInt8) = c := by simpa using hc
    subst this
    exact .inl (by decide)
theorem many_l0_list (s : List UInt8) (hs : s.length ≤ 1000000) (self : l2Cur → Int → Option (l2Cur × Json)) (d : Int) (f : Json → List UInt8) (g : Json → Int) (hg : ∀ x, 1 ≤ g x) (K : ByteArray → Int → Bool → Int → (List Json) → (List ByteArray) → Option (l2Cur × Json)) (rest : List UInt8) : ∀ (l : List Json) (k i : Nat) (left : Int) (js : List Json) (ns : List ByteArray), (∀ y ∈ l, SelfRight2 s self (w64 (d - 1)) f g y) → (∀ y ∈ l, ∃ c r, f y = c :: r ∧ c ≠ 93 ∧ c ≠ 125) → s.drop i = moreW (l.map f) js.length ++ 93 :: rest → l.length < k → js.length + l.length ≤ 1000 → (l.map g).sum ≤ left → left ≤ 400 → spec_l2Many.l0 d 4 (bl [93]) self K k (bl s) (i : Int) true left js ns = K (bl s) ((i + (moreW (l.map f) js.length).length : Nat) : Int) true (left - (l.map g).sum) (js ++ l) ns := by
  intro l
  induction l with
  | nil =>
    intro k i left js ns _ _ hd hk hj hl1 hl2
    cases k with
    | zero => simp at hk
    | succ k =>
      have e0 : moreW (([] : List Json).map f) js.length = [] := if_pos rfl
      rw [e0] at hd ⊢
      obtain ⟨hp, _⟩ := pk_drop (c := 93) (r := rest) hd
      rw [spec_l2Many.l0, gd_true, spec_l2Peek_eq, bd, gd_true, show (0 : Int) = ((0 : Nat) : Int) from rfl, inS_bl (by simp), bd, hp, sx_bl (a := [93]) (b := 93) rfl]
      rw [decide_eq_false (by simp), show bo3 true false false = false from rfl, cond_false, List.append_nil]
      simp
  | cons x l ih =>
    intro k i left js ns hx hh hd hk hj hl1 hl2
    cases k with
    | zero => simp at hk
    | succ k =>
      simp only [List.length_cons] at hk hj
      rw [List.map_cons, List.sum_cons] at hl1
      have hgx := hg x
      have hgs : 0 ≤ (l.map g).sum := by
        clear ih hx hh hd hk hj hl1
        induction l with
        | nil => simp
        | cons y l ih => have := hg y; rw [List.map_cons, List.sum_cons]; omega
      obtain ⟨c, r, ec, hc1, hc2⟩ := hh x (by simp)
      rw [List.map_cons, moreW_cons] at hd ⊢
      -- the value
      have go : ∀ y : Nat, s.drop y = f x ++ (moreW (l.map f) (js.length + 1) ++ 93 :: rest) → y = i + (if js.length = 0 then ([] : List UInt8) else [44]).length → ((self (l2Cur.mk (bl s) (y : Int) true left) (w64 (d - 1))).bind fun r73 =>
          (some [r73.2]).bind fun l74 =>
          (appO 80 js l74).bind fun l75 =>
          spec_l2Many.l0 d 4 (bl [93]) self K k r73.1.s r73.1.at_ r73.1.ok r73.1.left l75 ns) = K (bl s) ((i + ((if js.length = 0 then ([] : List UInt8) else [44]) ++ f x ++ moreW (l.map f) (js.length + 1)).length : Nat) : Int) true (left - (g x + (l.map g).sum)) (js ++ x :: l) ns := by
        intro y hy ey
        rw [hx x (by simp) y left _ hy (head_more _ _ 93 (by decide) rest) (by omega) hl2, bd, bd, appO_ok (by simp only [List.length_cons, List.length_nil]; omega), bd]
        have hd2 : s.drop (y + (f x).length) = moreW (l.map f) (js ++ [x]).length ++ 93 :: rest := by rw [List.length_append, List.length_singleton]; exact drop_step hy
        have := ih k (y + (f x).length) (left - g x) (js ++ [x]) ns (fun z hz => hx z (by simp [hz])) (fun z hz => hh z (by simp [hz])) hd2 (by omega) (by rw [List.length_append, List.length_singleton]; omega) (by omega) (by omega)
        refine this.trans ?_
        rw [List.append_assoc, List.length_append, List.length_append, List.length_append, List.length_singleton, ey, show left - g x - (l.map g).sum = left - (g x + (l.map g).sum) by omega, show i + (if js.length = 0 then ([] : List UInt8) else [44]).length + (f x).length + (moreW (l.map f) (js.length + 1)).length = i + ((if js.length = 0 then ([] : List UInt8) else [44]).length + (f x).length + (moreW (l.map f) (js.length + 1)).length) by omega]
        rfl
      rw [spec_l2Many.l0, gd_true, spec_l2Peek_eq, bd, gd_true, show (0 : Int) = ((0 : Nat) : Int) from rfl, inS_bl (by simp), bd, sx_bl (a := [93]) (b := 93) rfl]
      by_cases h0 : js.length = 0
      · have hd1 : s.drop i = f x ++ (moreW (l.map f) (js.length + 1) ++ 93 :: rest) := by rw [hd, if_pos h0]; simp
        have hp : pk s i = (c.toNat : Int) := (pk_drop (c := c) (r := r ++ (moreW (l.map f) (js.length + 1) ++ 93 :: rest)) (by rw [hd1, ec]; rfl)).1
        have hne : (c.toNat : Int) ≠ (((93 : UInt8).toNat : Nat) : Int) := fun h => hc1 (UInt8.toNat_inj.1 (by omega))
        rw [hp, decide_eq_true hne, show bo3 true true false = true from rfl, cond_true, joinK_eq, lenI_eq, decide_eq_false (by omega), cond_false]
        dsimp only
        rw [joinK_eq, show decide ((4 : Int) = 5) = false from rfl, cond_false]
        exact go i hd1 (by rw [if_pos h0]; rfl)
      · have hd0 : s.drop i = [44] ++ (f x ++ (moreW (l.map f) (js.length + 1) ++ 93 :: rest)) := by rw [hd, if_neg h0]; simp
        have hp : pk s i = (((44 : UInt8).toNat : Nat) : Int) := (pk_drop (c := 44) hd0).1
        rw [hp, show decide ((((44 : UInt8).toNat : Nat) : Int) ≠ (((93 : UInt8).toNat : Nat) : Int)) = true from rfl, show bo3 true true false = true from rfl, cond_true, joinK_eq, lenI_eq, decide_eq_true (by omega), cond_true, show ByteArray.mk #[44] = bl [44] from rfl, l2Take_yes (by omega) hd0 (by simp) (by simp), bd]
        dsimp only
        rw [joinK_eq, show decide ((4 : Int) = 5) = false from rfl, cond_false]
        exact go (i + 1) (drop_step hd0) (by rw [if_neg h0]; rfl)
theorem many_l0_obj (s : List UInt8) (hs : s.length ≤ 1000000) (self : l2Cur → Int → Option (l2Cur × Json)) (d : Int) (f : Json → List UInt8) (g : Json → Int) (hg : ∀ x, 1 ≤ g x) (K : ByteArray → Int → Bool → Int → (List Json) → (List ByteArray) → Option (l2Cur × Json)) (rest : List UInt8) : ∀ (l : List Json) (ms : List ByteArray) (k i : Nat) (left : Int) (js : List Json) (ns : List ByteArray), ms.length = l.length → (∀ y ∈ l, SelfRight2 s self (w64 (d - 1)) f g y) → s.drop i = moreW (objW f ms l) js.length ++ 125 :: rest → l.length < k → js.length + l.length ≤ 1000 → ns.length ≤ js.length → (l.map g).sum ≤ left → left ≤ 400 → spec_l2Many.l0 d 5 (bl [125]) self K k (bl s) (i : Int) true left js ns = K (bl s) ((i + (moreW (objW f ms l) js.length).length : Nat) : Int) true (left - (l.map g).sum) (js ++ l) (ns ++ ms) := by
  intro l
  induction l with
  | nil =>
    intro ms k i left js ns hm _ hd hk hj hn hl1 hl2
    have : ms = [] := List.length_eq_zero_iff.1 hm
    subst this
    cases k with
    | zero => simp at hk
    | succ k =>
      have e0 : moreW (objW f [] []) js.length = [] := if_pos rfl
      rw [e0] at hd ⊢
      obtain ⟨hp, _⟩ := pk_drop (c := 125) (r := rest) hd
      rw [spec_l2Many.l0, gd_true, spec_l2Peek_eq, bd, gd_true, show (0 : Int) = ((0 : Nat) : Int) from rfl, inS_bl (by simp), bd, hp, sx_bl (a := [125]) (b := 125) rfl]
      rw [decide_eq_false (by simp), show bo3 true false false = false from rfl, cond_false, List.append_nil, List.append_nil]
      simp
  | cons x l ih =>
    intro ms k i left js ns hm hx hd hk hj hn hl1 hl2
    cases ms with
    | nil => simp at hm
    | cons m ms =>
    cases k with
    | zero => simp at hk
    | succ k =>
      simp only [List.length_cons] at hk hj hm
      rw [List.map_cons, List.sum_cons] at hl1
      have hgx := hg x
      have hgs : 0 ≤ (l.map g).sum := by
        clear ih hx hd hk hj hl1 hm
        induction l with
        | nil => simp
        | cons y l ih => have := hg y; rw [List.map_cons, List.sum_cons]; omega
      rw [objW, moreW_cons] at hd
      rw [objW, moreW_cons, List.map_cons]
      -- name and value
      have go : ∀ y : Nat, s.drop y = quoteL m.data.toList ++ ([58] ++ (f x ++ (moreW (objW f ms l) (js.length + 1) ++ 125 :: rest))) → y = i + (if js.length = 0 then ([] : List UInt8) else [44]).length → (joinK (fun (y62 : ByteArray) (y63 : Int) (y64 : Bool) (y65 : Int) (y66 : List ByteArray) =>
          (self (l2Cur.mk y62 y63 y64 y65) (w64 (d - 1))).bind fun r73 =>
          (some [r73.2]).bind fun l74 =>
          (appO 80 js l74).bind fun l75 =>
          spec_l2Many.l0 d 5 (bl [125]) self K k r73.1.s r73.1.at_ r73.1.ok r73.1.left l75 y66) (fun K67 =>
          bif (decide ((5 : Int) = 5)) then (
          (spec_l2String.f (l2Cur.mk (bl s) (y : Int) true left)).bind fun r69 =>
          (some [r69.2]).bind fun l70 =>
          (appO 16 ns l70).bind fun l71 =>
          (spec_l2Take.f r69.1 (ByteArray.mk #[58])).bind fun r72 =>
          K67 r72.s r72.at_ r72.ok r72.left l71)
          else (
          K67 (bl s) (y : Int) true left ns))) = K (bl s) ((i + ((if js.length = 0 then ([] : List UInt8) else [44]) ++ (quoteL m.data.toList ++ 58 :: f x) ++ moreW (objW f ms l) (js.length + 1)).length : Nat) : Int) true (left - (g x + (l.map g).sum)) (js ++ x :: l) (ns ++ m :: ms) := by
        intro y hy ey
        have hy2 := drop_step hy
        have hy3 := drop_step hy2
        rw [joinK_eq, show decide ((5 : Int) = 5) = true from rfl, cond_true, l2String_right (by omega) _ _ hy, bd, bd, appO_ok (by simp only [List.length_cons, List.length_nil]; omega), bd, show ByteArray.mk #[58] = bl [58] from rfl, l2Take_yes (by omega) hy2 (by simp) (by simp), bd]
        dsimp only
        rw [hx x (by simp) _ left _ hy3 (head_more _ _ 125 (by decide) rest) (by omega) hl2, bd, bd, appO_ok (by simp only [List.length_cons, List.length_nil]; omega), bd, bl_toList]
        have hd2 : s.drop (y + (quoteL m.data.toList).length + ([58] : List UInt8).length + (f x).length) = moreW (objW f ms l) (js ++ [x]).length ++ 125 :: rest := by rw [List.length_append, List.length_singleton]; exact drop_step hy3
        have := ih ms k _ (left - g x) (js ++ [x]) (ns ++ [m]) (by omega) (fun z hz => hx z (by simp [hz])) hd2 (by omega) (by rw [List.length_append, List.length_singleton]; omega) (by rw [List.length_append, List.length_append, List.length_singleton, List.length_singleton]; omega) (by omega) (by omega)
        refine this.trans ?_
        rw [List.append_assoc, List.append_assoc ns]
        simp only [List.length_append, List.length_cons, List.length_nil, Nat.zero_add]
        rw [ey, show left - g x - (l.map g).sum = left - (g x + (l.map g).sum) by omega]
        congr 2
        omega
      rw [spec_l2Many.l0, gd_true, spec_l2Peek_eq, bd, gd_true, show (0 : Int) = ((0 : Nat) : Int) from rfl, inS_bl (by simp), bd, sx_bl (a := [125]) (b := 125) rfl]
      by_cases h0 : js.length = 0
      · have hd1 : s.drop i = quoteL m.data.toList ++ ([58] ++ (f x ++ (moreW (objW f ms l) (js.length + 1) ++ 125 :: rest))) := by rw [hd, if_pos h0]; simp
        have hp : pk s i = (((34 : UInt8).toNat : Nat) : Int) := (pk_drop (c := 34) (r := (m.data.toList.flatMap escC ++ [34]) ++ ([58] ++ (f x ++ (moreW (objW f ms l) (js.length + 1) ++ 125 :: rest)))) (by rw [hd1]; rfl)).1
        rw [hp, show decide ((((34 : UInt8).toNat : Nat) : Int) ≠ (((125 : UInt8).toNat : Nat) : Int)) = true from rfl, show bo3 true true false = true from rfl, cond_true, joinK_eq, lenI_eq, decide_eq_false (by omega), cond_false]
        exact go i hd1 (by rw [if_pos h0]; rfl)
      · have hd0 : s.drop i = [44] ++ (quoteL m.data.toList ++ ([58] ++ (f x ++ (moreW (objW f ms l) (js.length + 1) ++ 125 :: rest)))) := by rw [hd, if_neg h0]; simp
        have hp : pk s i = (((44 : UInt8).toNat : Nat) : Int) := (pk_drop (c := 44) hd0).1
        rw [hp, show decide ((((44 : UInt8).toNat : Nat) : Int) ≠ (((125 : UInt8).toNat : Nat) : Int)) = true from rfl, show bo3 true true false = true from rfl, cond_true, joinK_eq, lenI_eq, decide_eq_true (by omega), cond_true, show ByteArray.mk #[44] = bl [44] from rfl, l2Take_yes (by omega) hd0 (by simp) (by simp), bd]
        exact go (i + 1) (drop_step hd0) (by rw [if_neg h0]; rfl)

theorem l2Value_tot (s : List UInt8) (hs : s.length ≤ 1000000) : ∀ (k d : Nat), d < k → d ≤ 100 → SelfTot2 s (spec_l2Value.g k) (d : Int) := by
  intro k
  induction k with
  | zero => intro d h; omega
  | succ k ih =>
    intro d hd hd2 i ok left hi h1 h2
    rw [spec_l2Value.g, spec_l2Value.b, joinK_eq]
    dsimp only
    rw [w64_id (x := left - 1) (by omega)]
    have leaf : ∀ (k n : Int), Jw ⟨k, n, ByteArray.empty, [], []⟩ := fun k n => Jw_small (by simp) (by simp) (by simp) (by simp) (by simp)
    by_cases hg : bo3 (decide ((d : Int) = 0)) true (decide (left - 1 < 0)) = true
    · rw [hg, cond_true, show bo3 false false true = true from rfl, cond_true]
      exact ⟨i, false, left - 1, _, rfl, Nat.le_refl _, hi, by omega, by omega, fun h => (by cases h), leaf 0 0⟩
    rw [Bool.not_eq_true] at hg
    have hd0 : d ≠ 0 := by rintro rfl; simp [bo3] at hg
    have hl : 0 ≤ left - 1 := by
      rw [decide_eq_false (by omega)] at hg
      have := of_decide_eq_false (show decide (left - 1 < 0) = false from hg)
      omega
    have hself : SelfTot2 s (spec_l2Value.g k) (w64 ((d : Int) - 1)) := by
      rw [w64_id (by omega), show (d : Int) - 1 = ((d - 1 : Nat) : Int) by omega]
      exact ih (d - 1) (by omega) (by omega)
    rw [hg, cond_false]
    cases ok with
    | false =>
      rw [show bo3 false false true = true from rfl, cond_true]
      exact ⟨i, false, left - 1, _, rfl, Nat.le_refl _, hi, by omega, by omega, fun h => (by cases h), leaf 0 0⟩
    | true =>
    rw [show bo3 true false true = false from rfl, cond_false, spec_l2Peek_eq, bd]
    have tk : ∀ (w : List UInt8) (k n : Int), w.length ≤ 100 → ∃ (i' : Nat) (ok' : Bool) (left' : Int) (j : Json), ((spec_l2Take.f (l2Cur.mk (bl s) (i : Int) true (left - 1)) (bl w)).bind fun r15 => some (r15, (Json.mk k n ByteArray.empty [] []))) = some (⟨bl s, (i' : Int), ok', left'⟩, j) ∧ i ≤ i' ∧ i' ≤ s.length ∧ -1 ≤ left' ∧ left' < left ∧ (ok' = true → 0 ≤ left') ∧ Jw j := by
      intro w k n hw
      obtain ⟨i', ok', e, a1, a2, _⟩ := l2Take_ok s (by omega) i hi true (left - 1) w hw
      rw [e, bd]
      exact ⟨i', ok', left - 1, _, rfl, a1, a2, by omega, by omega, fun _ => hl, leaf k n⟩
    by_cases c1 : pk s i = 110
    · rw [decide_eq_true c1, cond_true]; exact tk [110, 117, 108, 108] 0 0 (by simp)
    rw [decide_eq_false c1, cond_false]
    by_cases c2 : pk s i = 116
    · rw [decide_eq_true c2, cond_true]; exact tk [116, 114, 117, 101] 1 1 (by simp)
    rw [decide_eq_false c2, cond_false]
    by_cases c3 : pk s i = 102
    · rw [decide_eq_true c3, cond_true]; exact tk [102, 97, 108, 115, 101] 1 0 (by simp)
    rw [decide_eq_false c3, cond_false]
    by_cases c4 : pk s i = 34
    · obtain ⟨i', ok', q, e, a1, a2, a3⟩ := l2String_ok s hs i hi true (left - 1)
      rw [decide_eq_true c4, cond_true, e, bd]
      exact ⟨i', ok', left - 1, _, rfl, a1, a2, by omega, by omega, fun _ => hl, Jw_small (by rw [bl_size]; omega) (by simp) (by simp) (by simp) (by simp)⟩
    rw [decide_eq_false c4, cond_false, joinK_eq]
    have many : i < s.length → ∃ (i' : Nat) (ok' : Bool) (left' : Int) (j : Json), ((spec_l2Many.f (spec_l2Value.g k) (l2Cur.mk (bl s) (i : Int) true (left - 1)) (d : Int)).bind fun r26 => some (r26.1, r26.2)) = some (⟨bl s, (i' : Int), ok', left'⟩, j) ∧ i ≤ i' ∧ i' ≤ s.length ∧ -1 ≤ left' ∧ left' < left ∧ (ok' = true → 0 ≤ left') ∧ Jw j := by
      intro hlt
      obtain ⟨i', ok', left', j, e, a1, a2, a3, a4, a5, a6⟩ := many_tot s hs (spec_l2Value.g k) (d : Int) hself i hlt true (left - 1) hl (by omega)
      rw [e, bd]
      exact ⟨i', ok', left', j, rfl, a1, a2, a3, by omega, a5, a6⟩
    have num : ∃ (i' : Nat) (ok' : Bool) (left' : Int) (j : Json), ((spec_l2Number.f (l2Cur.mk (bl s) (i : Int) true (left - 1))).bind fun r27 => some (r27.1, (Json.mk 2 r27.2 ByteArray.empty [] []))) = some (⟨bl s, (i' : Int), ok', left'⟩, j) ∧ i ≤ i' ∧ i' ≤ s.length ∧ -1 ≤ left' ∧ left' < left ∧ (ok' = true → 0 ≤ left') ∧ Jw j := by
      obtain ⟨i', ok', x, e, a1, a2, _⟩ := spec_l2Number_tot s (by omega) i hi true (left - 1)
      rw [e, bd]
      exact ⟨i', ok', left - 1, _, rfl, a1, a2, by omega, by omega, fun _ => hl, leaf 2 x⟩
    by_cases c5 : pk s i = 91
    · rw [decide_eq_true c5, cond_true]
      exact many (pk_in (by omega))
    rw [decide_eq_false c5, cond_false]
    by_cases c6 : pk s i = 123
    · rw [decide_eq_true c6]
      exact many (pk_in (by omega))
    rw [decide_eq_false c6]
    exact num
theorem l2_start (self : l2Cur → Int → Option (l2Cur × Json)) (s : List UInt8) (i : Nat) (left d : Int) (hd : 1 ≤ d) (hl : 1 ≤ left) (hl2 : left ≤ 400) (c : UInt8) (r : List UInt8) (h : s.drop i = c :: r) (n1 : c ≠ 110) (n2 : c ≠ 102) (n3 : c ≠ 116) (n4 : c ≠ 34) : spec_l2Value.b self ⟨bl s, (i : Int), true, left⟩ d = bif decide (c = 91) || decide (c = 123) then ((spec_l2Many.f self (l2Cur.mk (bl s) (i : Int) true (left - 1)) d).bind fun r26 => some (r26.1, r26.2)) else ((spec_l2Number.f (l2Cur.mk (bl s) (i : Int) true (left - 1))).bind fun r27 => some (r27.1, (Json.mk 2 r27.2 ByteArray.empty [] []))) := by
  have hp := (pk_drop h).1
  have ne : ∀ x : UInt8, c ≠ x → ¬ (c.toNat : Int) = x.toNat := fun x hx h => hx (UInt8.toNat_inj.1 (by omega))
  have de : ∀ x : UInt8, decide ((c.toNat : Int) = (x.toNat : Int)) = decide (c = x) := fun x => by
    by_cases hx : c = x
    · rw [hx, decide_eq_true rfl, decide_eq_true rfl]
    · rw [decide_eq_false hx, decide_eq_false (ne x hx)]
  rw [spec_l2Value.b, joinK_eq]
  dsimp only
  rw [w64_id (x := left - 1) (by omega), decide_eq_false (by omega), decide_eq_false (p := left - 1 < 0) (by omega), show bo3 false true false = false from rfl, cond_false, show bo3 true false true = false from rfl, cond_false, spec_l2Peek_eq, bd, hp,
    show (110 : Int) = ((110 : UInt8).toNat : Int) from rfl, decide_eq_false (ne 110 n1), cond_false, show (116 : Int) = ((116 : UInt8).toNat : Int) from rfl, decide_eq_false (ne 116 n3), cond_false, show (102 : Int) = ((102 : UInt8).toNat : Int) from rfl, decide_eq_false (ne 102 n2), cond_false, show (34 : Int) = ((34 : UInt8).toNat : Int) from rfl, decide_eq_false (ne 34 n4), cond_false, joinK_eq, show (91 : Int) = ((91 : UInt8).toNat : Int) from rfl, de 91, show (123 : Int) = ((123 : UInt8).toNat : Int) from rfl, de 123]
  cases decide (c = 91) with
  | true => rw [cond_true]; rfl
  | false => rw [cond_false]; cases decide (c = 123) <;> rfl
theorem enc_head2 {d : Nat} {j : Json} (h : sizeF d j ≤ 400) : ∃ c r, encF d j = c :: r ∧ c ≠ 93 ∧ c ≠ 125 := by
  obtain ⟨d, rfl⟩ := size_pos h
  obtain ⟨ho, _⟩ := size_parts h
  rcases own_cases ho with rfl | ⟨n, hn, rfl⟩ | ⟨n, hn, rfl⟩ | ⟨s, hs, rfl⟩ | ⟨l, rfl⟩ | ⟨l, ns, e, hn, rfl⟩
  · exact ⟨110, _, rfl, by decide, by decide⟩
  · rcases hn with rfl | rfl
    · exact ⟨102, _, rfl, by decide, by decide⟩
    · exact ⟨116, _, rfl, by decide, by decide⟩
  · cases hi : Lib.itoa n with
    | nil =>
      obtain ⟨c, r, e, _⟩ := dec_cons n.natAbs
      unfold Lib.itoa at hi
      split at hi
      · cases hi
      · rw [show n.toNat = n.natAbs by omega, e] at hi; cases hi
    | cons c r =>
      have := itoa_mem (n := n) (c := c) (by rw [hi]; simp)
      refine ⟨c, r, hi, ?_, ?_⟩ <;> rintro rfl <;> revert this <;> decide
  · exact ⟨34, _, rfl, by decide, by decide⟩
  · exact ⟨91, _, rfl, by decide, by decide⟩
  · exact ⟨123, _, rfl, by decide, by decide⟩
theorem sum_map_le (f : Json → Int) (hf : ∀ x, 1 ≤ f x) : ∀ l : List Json, 0 ≤ (l.map f).sum
  | [] => by simp
  | x :: l => by have := sum_map_le f hf l; have := hf x; rw [List.map_cons, List.sum_cons]; omega
theorem l2Value_right (s : List UInt8) (hs : s.length ≤ 1000000) : ∀ (k d : Nat) (j : Json), d ≤ k → d ≤ 100 → sizeF d j ≤ 400 → SelfRight2 s (spec_l2Value.g k) (d : Int) (encF d) (sizeF d) j := by
  intro k
  induction k with
  | zero => intro d j h1 h2 h3; have : d = 0 := by omega
            subst this; rw [sizeF] at h3; omega
  | succ k ih =>
    intro d j h1 h2 h3 i left rest hd hr hl1 hl2
    obtain ⟨d, rfl⟩ := size_pos h3
    obtain ⟨ho, g1, g2, g3⟩ := size_parts h3
    have hsum := sum_map_le (sizeF d) (fun x => (sizeF_range d x).1) j.List_
    have hl0 : 1 ≤ left := by omega
    have hself : ∀ x ∈ j.List_, SelfRight2 s (spec_l2Value.g k) (w64 (((d + 1 : Nat) : Int) - 1)) (encF d) (sizeF d) x := fun x hx => by
      rw [w64_id (by omega), show ((d + 1 : Nat) : Int) - 1 = (d : Int) by omega]
      exact ih d x (by omega) (by omega) (g2 x hx)
    rw [spec_l2Value.g, g1]
    have lit : ∀ (w : List UInt8) (c : UInt8) (r : List UInt8) (kk n : Int), w = c :: r → w.length ≤ 100 → s.drop i = w ++ rest → (spec_l2Take.f (l2Cur.mk (bl s) (i : Int) true (left - 1)) (bl w)).bind (fun r15 => some (r15, (Json.mk kk n ByteArray.empty [] []))) = some (⟨bl s, ((i + w.length : Nat) : Int), true, left - 1⟩, ⟨kk, n, ByteArray.empty, [], []⟩) := by
      intro w c r kk n ew hw hdw
      rw [l2Take_yes (by omega) hdw hw (by rw [ew]; simp), bd]
    rcases own_cases ho with rfl | ⟨n, hn, rfl⟩ | ⟨n, hn, rfl⟩ | ⟨q, hs', rfl⟩ | ⟨l, rfl⟩ | ⟨l, ns, e, hn, rfl⟩
    · have e0 : encF (d + 1) nullJ = [110, 117, 108, 108] := rfl
      rw [e0] at hd ⊢
      have hp := (pk_drop (c := 110) (r := [117, 108, 108] ++ rest) hd).1
      rw [spec_l2Value.b, joinK_eq]
      dsimp only
      rw [w64_id (x := left - 1) (by omega), decide_eq_false (by omega), decide_eq_false (p := left - 1 < 0) (by omega), show bo3 false true false = false from rfl, cond_false, show bo3 true false true = false from rfl, cond_false, spec_l2Peek_eq, bd, hp, show decide (((110 : UInt8).toNat : Int) = 110) = true from rfl, cond_true]
      exact (lit [110, 117, 108, 108] 110 _ 0 0 rfl (by simp) hd).trans rfl
    · rcases hn with rfl | rfl
      · have e0 : encF (d + 1) ⟨1, 0, ByteArray.empty, [], []⟩ = [102, 97, 108, 115, 101] := rfl
        rw [e0] at hd ⊢
        have hp := (pk_drop (c := 102) (r := [97, 108, 115, 101] ++ rest) hd).1
        rw [spec_l2Value.b, joinK_eq]
        dsimp only
        rw [w64_id (x := left - 1) (by omega), decide_eq_false (by omega), decide_eq_false (p := left - 1 < 0) (by omega), show bo3 false true false = false from rfl, cond_false, show bo3 true false true = false from rfl, cond_false, spec_l2Peek_eq, bd, hp, show decide (((102 : UInt8).toNat : Int) = 110) = false from rfl, cond_false, show decide (((102 : UInt8).toNat : Int) = 116) = false from rfl, cond_false, show decide (((102 : UInt8).toNat : Int) = 102) = true from rfl, cond_true]
        exact (lit [102, 97, 108, 115, 101] 102 _ 1 0 rfl (by simp) hd).trans rfl
      · have e0 : encF (d + 1) ⟨1, 1, ByteArray.empty, [], []⟩ = [116, 114, 117, 101] := rfl
        rw [e0] at hd ⊢
        have hp := (pk_drop (c := 116) (r := [114, 117, 101] ++ rest) hd).1
        rw [spec_l2Value.b, joinK_eq]
        dsimp only
        rw [w64_id (x := left - 1) (by omega), decide_eq_false (by omega), decide_eq_false (p := left - 1 < 0) (by omega), show bo3 false true false = false from rfl, cond_false, show bo3 true false true = false from rfl, cond_false, spec_l2Peek_eq, bd, hp, show decide (((116 : UInt8).toNat : Int) = 110) = false from rfl, cond_false, show decide (((116 : UInt8).toNat : Int) = 116) = true from rfl, cond_true]
        exact (lit [116, 114, 117, 101] 116 _ 1 1 rfl (by simp) hd).trans rfl
    · have e0 : encF (d + 1) ⟨2, n, ByteArray.empty, [], []⟩ = Lib.itoa n := rfl
      rw [e0] at hd ⊢
      have hnum := spec_l2Number_itoa s (by omega) hn i true (left - 1) rest hd hr
      cases hi : Lib.itoa n with
      | nil =>
        obtain ⟨c, r, e, _⟩ := dec_cons n.natAbs
        unfold Lib.itoa at hi
        split at hi
        · cases hi
        · rw [show n.toNat = n.natAbs by omega, e] at hi; cases hi
      | cons c r =>
        have hm := itoa_mem (n := n) (c := c) (by rw [hi]; simp)
        have ne : ∀ x : UInt8, x.toNat ≠ 45 → ¬ (48 ≤ x.toNat ∧ x.toNat ≤ 57) → c ≠ x := by rintro x h h' rfl; rcases hm with hm | hm; exact h hm; exact h' hm
        rw [hi] at hd hnum
        rw [l2_start (spec_l2Value.g k) s i left _ (by omega) hl0 hl2 c (r ++ rest) hd (ne 110 (by decide) (by decide)) (ne 102 (by decide) (by decide)) (ne 116 (by decide) (by decide)) (ne 34 (by decide) (by decide)), decide_eq_false (ne 91 (by decide) (by decide)), decide_eq_false (ne 123 (by decide) (by decide)), Bool.false_or, cond_false, hnum, bd]
        rfl
    · have e0 : encF (d + 1) ⟨3, 0, q, [], []⟩ = quoteL q.data.toList := rfl
      rw [e0] at hd ⊢
      have hp := (pk_drop (c := 34) (r := (q.data.toList.flatMap escC ++ [34]) ++ rest) hd).1
      have hq := l2String_right hs q.data.toList rest hd (left - 1)
      rw [spec_l2Value.b, joinK_eq]
      dsimp only
      rw [w64_id (x := left - 1) (by omega), decide_eq_false (by omega), decide_eq_false (p := left - 1 < 0) (by omega), show bo3 false true false = false from rfl, cond_false, show bo3 true false true = false from rfl, cond_false, spec_l2Peek_eq, bd, hp, show decide (((34 : UInt8).toNat : Int) = 110) = false from rfl, cond_false, show decide (((34 : UInt8).toNat : Int) = 116) = false from rfl, cond_false, show decide (((34 : UInt8).toNat : Int) = 102) = false from rfl, cond_false, show decide (((34 : UInt8).toNat : Int) = 34) = true from rfl, cond_true, hq, bd, bl_toList]
      rfl
    · have e0 : encF (d + 1) ⟨4, 0, ByteArray.empty, l, []⟩ = 91 :: (Lib.join (l.map (encF d)) [44] ++ [93]) := rfl
      rw [e0] at hd ⊢
      have hd1 : s.drop i = 91 :: (Lib.join (l.map (encF d)) [44] ++ 93 :: rest) := by rw [hd]; simp
      have hlt := drop_le hd1
      have hp := (pk_drop hd1).1
      rw [l2_start (spec_l2Value.g k) s i left _ (by omega) hl0 hl2 91 _ hd1 (by decide) (by decide) (by decide) (by decide), show (decide ((91 : UInt8) = 91) || decide ((91 : UInt8) = 123)) = true from rfl, cond_true]
      unfold spec_l2Many.f
      dsimp only at g1 g3 hsum hself g2
      have hl400 : l.length ≤ 400 := by omega
      have hd2 : s.drop (i + 1) = moreW (l.map (encF d)) ([] : List Json).length ++ 93 :: rest := by
        rw [← List.drop_drop, hd1]; show _ = moreW _ 0 ++ _; rw [moreW_zero]; rfl
      have key := fun K N (hN : 500 ≤ N) => many_l0_list s hs (spec_l2Value.g k) ((d + 1 : Nat) : Int) (encF d) (sizeF d) (fun x => (sizeF_range d x).1) K rest l N (i + 1) (left - 1) [] [] hself (fun y hy => enc_head2 (g2 y hy)) hd2 (by omega) (by simp; omega) (by omega) (by omega)
      have hd3 := drop_step hd2
      have e2 := l2Take_yes (w := [93]) (rest := rest) (by omega) hd3 (by simp) (by simp) (left - 1 - (l.map (sizeF d)).sum) true
      have go : ∀ N, 500 ≤ N → (joinK (fun (y6 : ByteArray) (y7 : Int) (y8 : Bool) (y9 : Int) (y10 : List Json) (y11 : List ByteArray) =>
          (spec_l2Take.f (l2Cur.mk y6 y7 y8 y9) (bl [93])).bind fun r76 =>
          some (r76, (Json.mk 4 0 ByteArray.empty y10 y11))) (fun K12 =>
          spec_l2Many.l0 ((d + 1 : Nat) : Int) 4 (bl [93]) (spec_l2Value.g k) K12 N (bl s) (w64 ((i : Int) + 1)) true (left - 1) [] [])) = some (⟨bl s, ((i + (91 :: (Lib.join (l.map (encF d)) [44] ++ [93])).length : Nat) : Int), true, left - (1 + (l.map (sizeF d)).sum)⟩, ⟨4, 0, ByteArray.empty, l, []⟩) := by
        intro N hN
        rw [joinK_eq, w64_succ (by omega)]
        refine (key _ N hN).trans ?_
        rw [e2, bd, List.nil_append, show left - 1 - (l.map (sizeF d)).sum = left - (1 + (l.map (sizeF d)).sum) by omega]
        have e3 : i + 1 + (moreW (l.map (encF d)) ([] : List Json).length).length + ([93] : List UInt8).length = i + (91 :: (Lib.join (l.map (encF d)) [44] ++ [93])).length := by
          rw [show ([] : List Json).length = 0 from rfl, moreW_zero]
          simp only [List.length_append, List.length_cons, List.length_nil]; omega
        rw [e3]
      rw [joinK_eq, spec_l2Peek_eq, bd, hp, show decide (((91 : UInt8).toNat : Int) = 123) = false from rfl, cond_false]
      dsimp only
      have := go 1000 (by decide)
      rw [show bl [93] = ByteArray.mk #[93] from rfl] at this
      rw [this, bd]
    · have e0 : encF (d + 1) ⟨5, 0, ByteArray.empty, l, ns⟩ = 123 :: (Lib.join (objW (encF d) ns l) [44] ++ [125]) := rfl
      rw [e0] at hd ⊢
      have hd1 : s.drop i = 123 :: (Lib.join (objW (encF d) ns l) [44] ++ 125 :: rest) := by rw [hd]; simp
      have hlt := drop_le hd1
      have hp := (pk_drop hd1).1
      rw [l2_start (spec_l2Value.g k) s i left _ (by omega) hl0 hl2 123 _ hd1 (by decide) (by decide) (by decide) (by decide), show (decide ((123 : UInt8) = 91) || decide ((123 : UInt8) = 123)) = true from rfl, cond_true]
      unfold spec_l2Many.f
      dsimp only at g1 g3 hsum hself g2
      have hl400 : l.length ≤ 400 := by omega
      have hd2 : s.drop (i + 1) = moreW (objW (encF d) ns l) ([] : List Json).length ++ 125 :: rest := by
        rw [← List.drop_drop, hd1]; show _ = moreW _ 0 ++ _; rw [moreW_zero]; rfl
      have key := fun K N (hN : 500 ≤ N) => many_l0_obj s hs (spec_l2Value.g k) ((d + 1 : Nat) : Int) (encF d) (sizeF d) (fun x => (sizeF_range d x).1) K rest l ns N (i + 1) (left - 1) [] [] e hself hd2 (by omega) (by simp; omega) (by simp) (by omega) (by omega)
      have hd3 := drop_step hd2
      have e2 := l2Take_yes (w := [125]) (rest := rest) (by omega) hd3 (by simp) (by simp) (left - 1 - (l.map (sizeF d)).sum) true
      have go : ∀ N, 500 ≤ N → (joinK (fun (y6 : ByteArray) (y7 : Int) (y8 : Bool) (y9 : Int) (y10 : List Json) (y11 : List ByteArray) =>
          (spec_l2Take.f (l2Cur.mk y6 y7 y8 y9) (bl [125])).bind fun r76 =>
          some (r76, (Json.mk 5 0 ByteArray.empty y10 y11))) (fun K12 =>
          spec_l2Many.l0 ((d + 1 : Nat) : Int) 5 (bl [125]) (spec_l2Value.g k) K12 N (bl s) (w64 ((i : Int) + 1)) true (left - 1) [] [])) = some (⟨bl s, ((i + (123 :: (Lib.join (objW (encF d) ns l) [44] ++ [125])).length : Nat) : Int), true, left - (1 + (l.map (sizeF d)).sum)⟩, ⟨5, 0, ByteArray.empty, l, ns⟩) := by
        intro N hN
        rw [joinK_eq, w64_succ (by omega)]
        refine (key _ N hN).trans ?_
        rw [e2, bd, List.nil_append, List.nil_append, show left - 1 - (l.map (sizeF d)).sum = left - (1 + (l.map (sizeF d)).sum) by omega]
        have e3 : i + 1 + (moreW (objW (encF d) ns l) ([] : List Json).length).length + ([125] : List UInt8).length = i + (123 :: (Lib.join (objW (encF d) ns l) [44] ++ [125])).length := by
          rw [show ([] : List Json).length = 0 from rfl, moreW_zero]
          simp only [List.length_append, List.length_cons, List.length_nil]; omega
        rw [e3]
      rw [joinK_eq, spec_l2Peek_eq, bd, hp, show decide (((123 : UInt8).toNat : Int) = 123) = true from rfl, cond_true]
      dsimp only
      have := go 1000 (by decide)
      rw [show bl [125] = ByteArray.mk #[125] from rfl] at this
      rw [this, bd]

theorem spec_l1Text_l0 (s : ByteArray) (hs : (s.data.toList.length : Int) ≤ 4611686018427387904) : ∀ (k i : Nat), i ≤ s.data.toList.length → s.data.toList.length < i + k → spec_l1Text.l0 s k i = some (((s.data.toList.drop i).all fun b => decide (32 ≤ b.toNat ∧ b.toNat ≤ 126)) && decide (s.size ≤ 60)) := by
  intro k
  induction k with
  | zero => intro i h h'; omega
  | succ k ih =>
    intro i h h'
    rw [spec_l1Text.l0, sl_len]
    by_cases hi : i < s.data.toList.length
    · have hx := List.getElem?_eq_getElem hi
      have hb : (s.data.toList[i]).toNat < 256 := UInt8.toNat_lt _
      rw [decide_eq_true (by omega), cond_true, inS_ok hi, Option.bind_some, gd_of, Option.bind_some, sx_at hx, List.drop_eq_getElem_cons hi, List.all_cons, w64_succ (by omega), ih (i + 1) (by omega) (by omega), bo3_or]
      by_cases c : 32 ≤ (s.data.toList[i]).toNat ∧ (s.data.toList[i]).toNat ≤ 126
      · rw [decide_eq_false (by omega), decide_eq_false (by omega), decide_eq_true c]; simp
      · rw [decide_eq_false c]
        have : (decide (((s.data.toList[i]).toNat : Int) < 32) || decide (126 < ((s.data.toList[i]).toNat : Int))) = true := by
          generalize (s.data.toList[i]).toNat = b at c
          rw [Bool.or_eq_true, decide_eq_true_eq, decide_eq_true_eq]; omega
        rw [this]; simp
    · rw [decide_eq_false (by omega), cond_false, List.drop_eq_nil_of_le (by omega), size_len]
      simp
      omega
theorem spec_l1Text_eq (s : ByteArray) (hs : (s.size : Int) ≤ 4611686018427387904) : spec_l1Text.f s = some (txtB s) := by
  unfold spec_l1Text.f txtB
  rw [size_len] at hs
  rw [sl_len]
  exact spec_l1Text_l0 s hs _ 0 (by omega) (by omega)

theorem impl_within_eq (x y z : Int) : impl_within.f x y z = some (decide (y ≤ x ∧ x ≤ z)) := by
  unfold impl_within.f
  rw [bo3_and, Bool.decide_and]

theorem impl_textOk_l0 (s : ByteArray) (hs : (s.data.toList.length : Int) ≤ 4611686018427387904) : ∀ (k i : Nat), i ≤ s.data.toList.length → s.data.toList.length < i + k → impl_textOk.l0 s k (s.data.toList.length : Int) i = some (((s.data.toList.drop i).all fun b => decide (32 ≤ b.toNat ∧ b.toNat ≤ 126)) && decide (s.size ≤ 60)) := by
  intro k
  induction k with
  | zero => intro i h h'; omega
  | succ k ih =>
    intro i h h'
    rw [impl_textOk.l0]
    by_cases hi : i < s.data.toList.length
    · have hx := List.getElem?_eq_getElem hi
      have hb : (s.data.toList[i]).toNat < 256 := UInt8.toNat_lt _
      rw [decide_eq_true (by omega), cond_true, inS_ok hi, Option.bind_some, sx_at hx, w64_id (by omega), impl_within_eq, Option.bind_some, List.drop_eq_getElem_cons hi, List.all_cons, w64_succ (by omega), ih (i + 1) (by omega) (by omega), bo3_not]
      by_cases c : 32 ≤ (s.data.toList[i]).toNat ∧ (s.data.toList[i]).toNat ≤ 126
      · rw [decide_eq_true (by omega), decide_eq_true c]; simp
      · rw [decide_eq_false (by omega), decide_eq_false c]; simp
    · rw [decide_eq_false (by omega), cond_false, List.drop_eq_nil_of_le (by omega), sl_len, size_len]
      simp
      omega
theorem impl_textOk_eq (s : ByteArray) (hs : (s.size : Int) ≤ 4611686018427387904) : impl_textOk.f s = some (txtB s) := by
  unfold impl_textOk.f txtB
  rw [size_len] at hs
  rw [sl_len]
  exact impl_textOk_l0 s hs _ 0 (by omega) (by omega)

theorem names_step (l : List ByteArray) (i : Nat) (x : ByteArray) (r : Bool) (hx : l[i]? = some x) (hl : (l.length : Int) ≤ 4611686018427387904) : (gd (bo3 (bo3 (bo3 r false true) false true) (decide (0 < (i : Int))) false) (getO l (w64 ((i : Int) - 1)))) = some (bif (r && decide (0 < i)) then l.getD (i - 1) default else default) := by
  have hi := at_lt hx
  cases r with
  | false => rfl
  | true =>
    by_cases c : 0 < i
    · rw [decide_eq_true (by omega), decide_eq_true c, show bo3 (bo3 (bo3 true false true) false true) true false = true from rfl, gd_true, w64_id (by omega), show (i : Int) - 1 = ((i - 1 : Nat) : Int) by omega, getO_nat, List.getD_eq_getElem?_getD, List.getElem?_eq_getElem (by omega)]
      rfl
    · rw [decide_eq_false (by omega), decide_eq_false c]; rfl
theorem impl_namesOk_eq (l : List ByteArray) (hl : (l.length : Int) ≤ 4611686018427387904) (hs : ∀ x ∈ l, (x.size : Int) ≤ 4611686018427387904) : impl_namesOk.f l = some (namesB l) := by
  unfold impl_namesOk.f namesB
  refine (loop_all (f := impl_namesOk.l0 l) (l := l) (fun i x => txtB x && !(decide (0 < i) && Ls.sc .geq (l.getD (i - 1) default) x)) (some false) (some true) (fun k i x hx => ?_) (fun k i hi => ?_) _ 0 (by omega) (by rw [lenI_eq]; omega)).trans ?_
  · have hi := at_lt hx
    rw [impl_namesOk.l0, lenI_eq, decide_eq_true (by omega), cond_true, getO_nat, hx, Option.bind_some, impl_textOk_eq x (hs x (List.mem_of_getElem? hx)), Option.bind_some, names_step l i x _ hx hl, Option.bind_some, w64_succ (by omega)]
    cases txtB x with
    | false => rfl
    | true =>
      by_cases c : 0 < i
      · have c' : 0 < (i : Int) := by omega
        rw [decide_eq_true c, decide_eq_true c']
        cases hg : Ls.sc .geq (l.getD (i - 1) default) x <;> simp [bo3, hg] <;> simp_all
      · have c' : ¬ 0 < (i : Int) := by omega
        rw [decide_eq_false c, decide_eq_false c']
        simp [bo3]
  · rw [impl_namesOk.l0, lenI_eq, decide_eq_false (by omega), cond_false]
  · cases allFrom (fun i x => txtB x && !(decide (0 < i) && Ls.sc .geq (l.getD (i - 1) default) x)) l 0 <;> rfl

theorem spec_l1Names_eq (j : Json) (hl : (j.Names.length : Int) ≤ 4611686018427387904) (hs : ∀ x ∈ j.Names, (x.size : Int) ≤ 4611686018427387904) : spec_l1Names.f j = some (if j.Kind = 5 then namesB j.Names && decide (j.Names.length = j.List_.length) else decide (j.Names.length = 0)) := by
  unfold spec_l1Names.f namesB
  by_cases h5 : j.Kind = 5
  · rw [decide_eq_false (by simp [h5]), cond_false, if_pos h5]
    refine (loop_all (f := spec_l1Names.l0 j) (l := j.Names) (fun i x => txtB x && !(decide (0 < i) && Ls.sc .geq (j.Names.getD (i - 1) default) x)) (some false) (some (decide (j.Names.length = j.List_.length))) (fun k i x hx => ?_) (fun k i hi => ?_) _ 0 (by omega) (by rw [lenI_eq]; omega)).trans ?_
    · have hi := at_lt hx
      rw [spec_l1Names.l0, lenI_eq, decide_eq_true (by omega), cond_true, getO_nat, hx, Option.bind_some, spec_l1Text_eq x (hs x (List.mem_of_getElem? hx)), Option.bind_some, names_step _ i x _ hx hl, Option.bind_some, w64_succ (by omega)]
      cases txtB x with
      | false => rfl
      | true =>
        by_cases c : 0 < i
        · have c' : 0 < (i : Int) := by omega
          rw [decide_eq_true c, decide_eq_true c']
          cases hg : Ls.sc .geq (j.Names.getD (i - 1) default) x <;> simp [bo3, hg] <;> simp_all
        · have c' : ¬ 0 < (i : Int) := by omega
          rw [decide_eq_false c, decide_eq_false c']
          simp [bo3]
    · rw [spec_l1Names.l0, lenI_eq, decide_eq_false (by omega), cond_false, lenI_eq]
      congr 1
      rw [decide_eq_decide]; omega
    · cases allFrom (fun i x => txtB x && !(decide (0 < i) && Ls.sc .geq (j.Names.getD (i - 1) default) x)) j.Names 0 <;> rfl
  · rw [decide_eq_true h5, cond_true, if_neg h5, lenI_eq]
    congr 1
    rw [decide_eq_decide]; omega

theorem spec_l1In_eq (x y z : Int) : spec_l1In.f x y z = some (decide (y ≤ x ∧ x ≤ z)) := by
  unfold spec_l1In.f
  rw [bo3_and, Bool.decide_and]

/-- What the reference gives is right just where that is, and then the same. -/
def GrOk (v s : Int) (B : Int) : Prop := 1 ≤ v ∧ v ≤ B ∧ ((s ≤ 400 → v = s) ∧ (400 < s → 400 < v))
theorem spec_l1Great_l0 (j : Json) (d : Int) (self : Json → Int → Option Int) (f : Json → Int) (B : Int) (hB : B ≤ 1000000) (K : Int → Option Int) (hf : ∀ x, 1 ≤ f x ∧ f x ≤ 401) (hl : (j.List_.length : Int) ≤ 4611686018427387904) (hs : ∀ x ∈ j.List_, ∃ v, self x (w64 (d - 1)) = some v ∧ GrOk v (f x) B) :
    ∀ (k i : Nat) (n s : Int), i ≤ j.List_.length → j.List_.length < i + k → s ≤ 401 → 1 ≤ s → GrOk n s (400 + B) → (400 < n → s = 401) → ∃ v, spec_l1Great.l0 j d self K k n i = K v ∧ GrOk v (if 400 < n then 401 else capL f s (j.List_.drop i)) (400 + B) := by
  intro k
  induction k with
  | zero => intro i n s h h'; omega
  | succ k ih =>
    intro i n s h h' hs1 hs0 hn hnn
    obtain ⟨g1, g2, g3, g4⟩ := hn
    rw [spec_l1Great.l0, lenI_eq]
    by_cases hi : i < j.List_.length
    · by_cases c : n ≤ 400
      · obtain ⟨v, e1, v1, v2, v3, v4⟩ := hs _ (List.getElem_mem hi)
        have hfx := hf j.List_[i]
        have hns : n = s := by
          by_cases c2 : s ≤ 400
          · exact g3 c2
          · have := g4 (by omega); omega
        rw [decide_eq_true (by omega), decide_eq_true c, show bo3 true true false = true from rfl, cond_true, getO_nat, List.getElem?_eq_getElem hi, Option.bind_some, e1, Option.bind_some, w64_id (by omega), w64_succ (by omega), List.drop_eq_getElem_cons hi, if_neg (by omega), capL]
        by_cases cc : 400 < s + f j.List_[i]
        · rw [if_pos cc]
          have hv : 400 < n + v := by
            by_cases c3 : f j.List_[i] ≤ 400
            · have := v3 c3; omega
            · have := v4 (by omega); omega
          obtain ⟨w, w1, w2⟩ := ih (i + 1) (n + v) 401 (by omega) (by omega) (by omega) (by omega) ⟨by omega, by omega, fun h => by omega, fun _ => hv⟩ (fun _ => rfl)
          rw [if_pos hv] at w2
          exact ⟨w, w1, w2⟩
        · rw [if_neg cc]
          have hv : v = f j.List_[i] := v3 (by omega)
          obtain ⟨w, w1, w2⟩ := ih (i + 1) (n + v) (s + f j.List_[i]) (by omega) (by omega) (by omega) (by omega) ⟨by omega, by omega, fun h => by omega, fun h => by omega⟩ (fun h => by omega)
          rw [if_neg (by omega)] at w2
          exact ⟨w, w1, w2⟩
      · rw [decide_eq_false c, bo3_and, Bool.and_false, cond_false, if_pos (by omega)]
        exact ⟨n, rfl, g1, g2, fun h => by omega, fun _ => by omega⟩
    · rw [decide_eq_false (by omega), bo3_F, cond_false, List.drop_eq_nil_of_le (by omega), capL]
      refine ⟨n, rfl, ?_⟩
      by_cases c : 400 < n
      · rw [if_pos c]; exact ⟨g1, g2, fun h => by omega, fun _ => c⟩
      · rw [if_neg c]; exact ⟨g1, g2, g3, g4⟩
theorem spec_l1Great_g : ∀ (k d : Nat) (j : Json), d < k → d ≤ 1000 → Jw j → ∃ v, spec_l1Great.g k j d = some v ∧ GrOk v (sizeF d j) (401 + 401 * d) := by
  intro k
  induction k with
  | zero => intro d j h; omega
  | succ k ih =>
    intro d j h hd hj
    obtain ⟨h1, h2, h3, h4, h5⟩ := (Jw_eq j).1 hj
    rw [spec_l1Great.g, spec_l1Great.b]
    cases d with
    | zero =>
      rw [decide_eq_true (by omega), cond_true, sizeF]
      exact ⟨401, rfl, by omega, by omega, fun h => by omega, fun h => by omega⟩
    | succ d =>
      have hbad : GrOk 401 401 (401 + 401 * ((d + 1 : Nat) : Int)) := ⟨by omega, by omega, fun h => by omega, fun h => by omega⟩
      rw [decide_eq_false (by omega), cond_false, joinK_eq, spec_l1Names_eq j h3 h2, sc_neq', lenI_eq, spec_l1Text_eq _ h1, spec_l1In_eq, spec_l1In_eq]
      have e1 : decide (0 < (j.List_.length : Int)) = decide (0 < j.List_.length) := decide_eq_decide.2 (by omega)
      rw [e1]
      -- the end
      generalize hK : (fun (y2 : Int) =>
  (gd (bo3 (bo3 (bo3 (bo3 (decide (j.Kind ≠ 3)) (decide (j.S ≠ ByteArray.mk #[])) false) true (bo3 (bo3 (decide (j.Kind = 3)) true (decide (4 ≤ j.Kind))) (decide (j.N ≠ 0)) false)) true (bo3 (decide (j.Kind < 4)) (decide (0 < j.List_.length)) false)) false true) (some (if j.Kind = 5 then namesB j.Names && decide (j.Names.length = j.List_.length) else decide (j.Names.length = 0)))).bind fun r37 =>
  bif (bo3 (bo3 (bo3 (bo3 (decide (j.Kind ≠ 3)) (decide (j.S ≠ ByteArray.mk #[])) false) true (bo3 (bo3 (decide (j.Kind = 3)) true (decide (4 ≤ j.Kind))) (decide (j.N ≠ 0)) false)) true (bo3 (decide (j.Kind < 4)) (decide (0 < j.List_.length)) false)) true (bo3 r37 false true)) then (
  some (401 : Int))
  else (
  some y2)) = K
      have hKv : ∀ n : Int, K n = some (if k3B j = true then 401 else n) := by
        intro n
        rw [← hK]
        dsimp only
        unfold k3B
        simp only [bo3_and, bo3_or, bo3_not]
        generalize ((decide (j.Kind ≠ 3) && decide (j.S ≠ ByteArray.mk #[])) || ((decide (j.Kind = 3) || decide (4 ≤ j.Kind)) && decide (j.N ≠ 0)) || (decide (j.Kind < 4) && decide (0 < j.List_.length))) = b1
        generalize (if j.Kind = 5 then namesB j.Names && decide (j.Names.length = j.List_.length) else decide (j.Names.length = 0)) = b2
        cases b1 <;> cases b2 <;> rfl
      clear hK
      have hl0 : ¬ 4 ≤ j.Kind → k3B j = false → capL (sizeF d) 1 j.List_ = 1 := fun hk h => by
        unfold k3B at h
        have : j.List_.length = 0 := by
          simp only [Bool.or_eq_false_iff, Bool.and_eq_false_iff, decide_eq_false_iff_not] at h
          omega
        rw [List.length_eq_zero_iff.1 this, capL]
      have flat : ¬ 4 ≤ j.Kind → ∀ b : Bool, preB j = b → ∃ v, (bif (!b) then some 401 else K 1) = some v ∧ GrOk v (if ownB j = true then capL (sizeF d) 1 j.List_ else 401) (401 + 401 * ((d + 1 : Nat) : Int)) := by
        intro hk b hb
        rw [own_k3, hb, hKv]
        cases b with
        | false => exact ⟨401, rfl, by simpa using hbad⟩
        | true =>
          cases h3 : k3B j with
          | true => exact ⟨401, rfl, by simpa using hbad⟩
          | false =>
            refine ⟨1, rfl, ?_⟩
            rw [if_pos (by rfl), hl0 hk h3]
            exact ⟨by omega, by omega, fun _ => rfl, fun h => by omega⟩
      have deep : 4 ≤ j.Kind → preB j = true → ∃ v, spec_l1Great.l0 j ((d + 1 : Nat) : Int) (spec_l1Great.g k) K (((lenI j.List_) - 0).toNat + 1) 1 0 = some v ∧ GrOk v (if ownB j = true then capL (sizeF d) 1 j.List_ else 401) (401 + 401 * ((d + 1 : Nat) : Int)) := by
        intro hk hb
        obtain ⟨v, e, hv⟩ := spec_l1Great_l0 j ((d + 1 : Nat) : Int) (spec_l1Great.g k) (sizeF d) (401 + 401 * d) (by omega) K (sizeF_range d) h4 (fun x hx => by
          rw [w64_id (by omega), show ((d + 1 : Nat) : Int) - 1 = (d : Int) by omega]
          exact ih d x (by omega) (by omega) (h5 x hx)) (((lenI j.List_) - 0).toNat + 1) 0 1 1 (by omega) (by rw [lenI_eq]; omega) (by omega) (by omega) ⟨by omega, by omega, fun _ => rfl, fun h => by omega⟩ (fun h => by omega)
        rw [if_neg (by omega), List.drop_zero] at hv
        obtain ⟨v1, v2, v3, v4⟩ := hv
        rw [own_k3, hb, Bool.true_and]
        refine ⟨_, e.trans (hKv v), ?_⟩
        cases h3 : k3B j with
        | true => rw [if_pos rfl, if_neg (by simp)]; exact hbad
        | false => rw [if_neg (by simp), if_pos (by rfl)]; exact ⟨v1, by omega, v3, v4⟩
      rw [sizeF]
      by_cases k0 : j.Kind = 0
      · rw [decide_eq_true k0, cond_true]
        have := flat (by omega) (decide (j.N = 0)) (by unfold preB; rw [if_pos k0])
        by_cases n0 : j.N = 0
        · rw [decide_eq_false (by simp [n0]), cond_false]; rw [decide_eq_true n0] at this; exact this
        · rw [decide_eq_true n0, cond_true]; rw [decide_eq_false n0] at this; exact this
      · rw [decide_eq_false k0, cond_false]
        by_cases k1 : j.Kind = 1
        · rw [decide_eq_true k1, cond_true, Option.bind_some, bo3_not]
          exact flat (by omega) _ (by unfold preB; rw [if_neg k0, if_pos k1])
        · rw [decide_eq_false k1, cond_false]
          by_cases k2 : j.Kind = 2
          · rw [decide_eq_true k2, cond_true, Option.bind_some, bo3_not]
            exact flat (by omega) _ (by unfold preB; rw [if_neg k0, if_neg k1, if_pos k2])
          · rw [decide_eq_false k2, cond_false]
            by_cases k3 : j.Kind = 3
            · rw [decide_eq_true k3, cond_true, Option.bind_some, bo3_not]
              exact flat (by omega) _ (by unfold preB; rw [if_neg k0, if_neg k1, if_neg k2, if_pos k3])
            · rw [decide_eq_false k3, cond_false, joinK_eq]
              by_cases k4 : j.Kind = 4
              · rw [decide_eq_true k4, cond_true]
                exact deep (by omega) (by unfold preB; rw [if_neg k0, if_neg k1, if_neg k2, if_neg k3, decide_eq_true k4]; rfl)
              · rw [decide_eq_false k4, cond_false]
                by_cases k5 : j.Kind = 5
                · rw [decide_eq_true k5]
                  exact deep (by omega) (by unfold preB; rw [if_neg k0, if_neg k1, if_neg k2, if_neg k3, decide_eq_true k5]; simp)
                · rw [decide_eq_false k5]
                  have hp : preB j = false := by unfold preB; rw [if_neg k0, if_neg k1, if_neg k2, if_neg k3, decide_eq_false k4, decide_eq_false k5]; rfl
                  rw [own_k3, hp, Bool.false_and, if_neg (by simp)]
                  exact ⟨401, rfl, hbad⟩

theorem spec_JsonOk_eq (j : Json) (h : Jw j) : spec_JsonOk.f j = some (jsonB j) := by
  unfold spec_JsonOk.f spec_l1Great.f jsonB
  obtain ⟨v, e, v1, v2, v3, v4⟩ := spec_l1Great_g 20 6 j (by omega) (by omega) h
  rw [show (6 : Int) = ((6 : Nat) : Int) from rfl, e, Option.bind_some]
  by_cases c : sizeF 6 j ≤ 400
  · rw [v3 c, decide_eq_true c]
  · rw [decide_eq_false c, decide_eq_false (by have := v4 (by omega); omega)]

theorem quoted_l0 (s : List UInt8) (hs : s.length ≤ 10000000) : ∀ (k i : Nat) (acc : List UInt8), i ≤ s.length → s.length < i + k → acc.length ≤ 2 * i + 1 → impl_quoted.l0 (bl s) k (chs acc) (s.length : Int) (i : Int) = some (bl (acc ++ ((s.drop i).flatMap escC ++ [34]))) := by
  intro k
  induction k with
  | zero => intro i acc h1 h2; omega
  | succ k ih =>
    intro i acc h1 h2 h3
    rw [impl_quoted.l0]
    by_cases hi : i < s.length
    · have hx := List.getElem?_eq_getElem hi
      rw [decide_eq_true (by omega), cond_true, inS_bl hi, bd]
      have hg : ∀ b : Bool, (gd b (some ()) : Option Unit) = some () := fun b => by cases b <;> rfl
      rw [hg, bd, q34 hx, List.drop_eq_getElem_cons hi, List.flatMap_cons]
      by_cases hc : s[i] = 34 ∨ s[i] = 92
      · rw [decide_eq_true hc, cond_true, bd, app_92 (by omega), bd, bd, sx_bl hx, bd, app_one (by rw [List.length_append, List.length_singleton]; omega), bd, w64_succ (by omega), ih (i + 1) _ (by omega) (by omega) (by simp only [List.length_append, List.length_cons, List.length_nil]; omega)]
        unfold escC
        rw [if_pos hc]
        simp
      · rw [decide_eq_false hc, cond_false, bd, sx_bl hx, bd, app_one (by omega), bd, w64_succ (by omega), ih (i + 1) _ (by omega) (by omega) (by simp only [List.length_append, List.length_cons, List.length_nil]; omega)]
        rw [show escC s[i] = [s[i]] from if_neg hc]
        simp
    · rw [decide_eq_false (by omega), cond_false, bd, app_34 (by omega), bd, bd, bsO_chs, List.drop_eq_nil_of_le (by omega)]
      simp
theorem impl_quoted_eq (s : List UInt8) (hs : s.length ≤ 10000000) : impl_quoted.f (bl s) = some (bl (quoteL s)) := by
  unfold impl_quoted.f
  rw [bd, sl_bl]
  refine (quoted_l0 s hs _ 0 [34] (by omega) (by omega) (by simp)).trans ?_
  rw [List.drop_zero]
  rfl

theorem strings_Join_eq (ws : List (List UInt8)) (sep : List UInt8) (h : ws.length ≤ 140737488355328) (h2 : (Lib.join ws sep).length ≤ 140737488355328) : strings_Join.f (ws.map bl) (bl sep) = some (bl (Lib.join ws sep)) := by
  have e : (ws.map bl).map (·.data.toList) = ws := by simp [bl, Function.comp_def]
  have e2 : (bl sep).data.toList = sep := by simp [bl]
  unfold strings_Join.f joinO
  rw [e, e2, if_pos ⟨by simpa using h, h2⟩]
  rfl

theorem strconv_Itoa_eq (n : Int) (h : -9223372036854775808 ≤ n ∧ n ≤ 9223372036854775807) : strconv_Itoa.f n = some (bl (Lib.itoa n)) := by
  unfold strconv_Itoa.f itoaO
  rw [if_pos h]; rfl

theorem written_l0 (j : Json) (f : Json → List UInt8) (self : Json → Option ByteArray) (K : List ByteArray → Option ByteArray) (hl : j.List_.length ≤ 400) (hn : j.Kind = 5 → j.Names.length = j.List_.length) (hs : ∀ n ∈ j.Names, n.data.toList.length ≤ 60) (hx : ∀ x ∈ j.List_, self x = some (bl (f x)) ∧ (f x).length ≤ 1000000) : ∀ (k i : Nat) (acc : List (List UInt8)), i ≤ j.List_.length → j.List_.length < i + k → acc.length ≤ i → impl_written.l0 j self K k (acc.map bl) (i : Int) = K ((acc ++ partW f j i).map bl) := by
  intro k
  induction k with
  | zero => intro i acc h1 h2; omega
  | succ k ih =>
    intro i acc h1 h2 h3
    rw [impl_written.l0, lenI_eq]
    by_cases hi : i < j.List_.length
    · have hg := List.getElem?_eq_getElem hi
      obtain ⟨e1, e2⟩ := hx _ (List.getElem_mem hi)
      rw [decide_eq_true (by omega), cond_true, getO_nat, hg, bd, e1, bd]
      by_cases hk : j.Kind = 5
      · have hin : i < j.Names.length := by have := hn hk; omega
        have hgn := List.getElem?_eq_getElem hin
        have hlen := hs _ (List.getElem_mem hin)
        have hq := quote_len j.Names[i].data.toList
        have en : j.Names[i] = bl j.Names[i].data.toList := (bl_toList _).symm
        rw [decide_eq_true hk, cond_true, getO_nat, hgn, bd, en, impl_quoted_eq _ (by omega), bd, show ByteArray.mk #[58] = bl [58] from rfl, addO_bl (by simp only [List.length_cons, List.length_nil]; omega), bd, addO_bl (by simp only [List.length_append, List.length_cons, List.length_nil]; omega), bd, bd, appO_ok (by simp only [List.length_map, List.length_cons, List.length_nil]; omega), bd, w64_succ (by omega)]
        have e : acc.map bl ++ [bl (quoteL j.Names[i].data.toList ++ [58] ++ f j.List_[i])] = (acc ++ [quoteL j.Names[i].data.toList ++ 58 :: f j.List_[i]]).map bl := by
          rw [List.map_append]; simp
        rw [e, ih (i + 1) _ (by omega) (by omega) (by rw [List.length_append, List.length_singleton]; omega), List.append_assoc]
        unfold partW
        rw [if_pos hk, if_pos hk, List.drop_eq_getElem_cons hi, List.drop_eq_getElem_cons hin]
        rfl
      · rw [decide_eq_false hk, cond_false, bd, appO_ok (by simp only [List.length_map, List.length_cons, List.length_nil]; omega), bd, w64_succ (by omega)]
        have e : acc.map bl ++ [bl (f j.List_[i])] = (acc ++ [f j.List_[i]]).map bl := by rw [List.map_append]; rfl
        rw [e, ih (i + 1) _ (by omega) (by omega) (by rw [List.length_append, List.length_singleton]; omega), List.append_assoc]
        unfold partW
        rw [if_neg hk, if_neg hk, List.drop_eq_getElem_cons hi]
        rfl
    · rw [decide_eq_false (by omega), cond_false]
      have : partW f j i = [] := by
        unfold partW
        rw [show j.List_.drop i = [] from List.drop_eq_nil_of_le (by omega)]
        split
        · cases j.Names.drop i <;> rfl
        · rfl
      rw [this, List.append_nil]
theorem impl_written_g : ∀ (k d : Nat) (j : Json), d ≤ k → sizeF d j ≤ 400 → impl_written.g k j = some (bl (encF d j)) := by
  intro k
  induction k with
  | zero => intro d j h1 h2; have : d = 0 := by omega
            subst this; rw [sizeF] at h2; omega
  | succ k ih =>
    intro d j h1 h2
    obtain ⟨d, rfl⟩ := size_pos h2
    obtain ⟨ho, h3, h4, h5⟩ := size_parts h2
    have hlen := enc_len (d + 1) j h2
    have hx : ∀ x ∈ j.List_, impl_written.g k x = some (bl (encF d x)) ∧ (encF d x).length ≤ 1000000 := fun x hx => ⟨ih d x (by omega) (h4 x hx), by have := enc_len d x (h4 x hx); have := h4 x hx; omega⟩
    have hl : j.List_.length ≤ 400 := by omega
    have hns : (j.Kind = 5 → j.Names.length = j.List_.length) ∧ ∀ n ∈ j.Names, n.data.toList.length ≤ 60 := by
      rcases own_cases ho with rfl | ⟨n, hn, rfl⟩ | ⟨n, hn, rfl⟩ | ⟨s, hs, rfl⟩ | ⟨l, rfl⟩ | ⟨l, ns, e, hn, rfl⟩
      · exact ⟨fun h => by simp [nullJ] at h, by simp [nullJ]⟩
      · exact ⟨fun h => by simp at h, by simp⟩
      · exact ⟨fun h => by simp at h, by simp⟩
      · exact ⟨fun h => by simp at h, by simp⟩
      · exact ⟨fun h => by simp at h, by simp⟩
      · exact ⟨fun _ => e, fun n h => txt_len (names_txt hn n h)⟩
    rw [impl_written.g, impl_written.b, joinK_eq, show ((lenI j.List_) - 0).toNat + 1 = j.List_.length + 1 by rw [lenI_eq]; omega]
    refine (written_l0 j (encF d) _ _ hl hns.1 hns.2 hx _ 0 [] (by omega) (by omega) (by simp)).trans ?_
    rw [List.nil_append]
    rcases own_cases ho with rfl | ⟨n, hn, rfl⟩ | ⟨n, hn, rfl⟩ | ⟨s, hs, rfl⟩ | ⟨l, rfl⟩ | ⟨l, ns, e, hn, rfl⟩
    · rfl
    · rcases hn with rfl | rfl <;> rfl
    · show (strconv_Itoa.f n).bind _ = _
      rw [strconv_Itoa_eq n (by omega)]
      rfl
    · show (impl_quoted.f s).bind _ = _
      have := txt_len hs
      have h := impl_quoted_eq s.data.toList (by omega)
      rw [bl_toList] at h
      rw [h]; rfl
    · have ep : partW (encF d) ⟨4, 0, ByteArray.empty, l, []⟩ 0 = l.map (encF d) := rfl
      rw [ep]
      show (strings_Join.f ((l.map (encF d)).map bl) (bl [44])).bind _ = _
      have hlen' : (((91 :: (Lib.join (l.map (encF d)) [44] ++ [93])).length : Nat) : Int) + 150 ≤ 300 * sizeF (d + 1) ⟨4, 0, ByteArray.empty, l, []⟩ := hlen
      simp only [List.length_cons, List.length_append, List.length_nil] at hlen'
      have hl' : l.length ≤ 400 := hl
      rw [strings_Join_eq _ _ (by rw [List.length_map]; omega) (by omega), bd, show ByteArray.mk #[91] = bl [91] from rfl, addO_bl (by simp only [List.length_cons, List.length_nil]; omega), bd, show ByteArray.mk #[93] = bl [93] from rfl, addO_bl (by simp only [List.length_append, List.length_cons, List.length_nil]; omega), bd]
      rfl
    · have ep : partW (encF d) ⟨5, 0, ByteArray.empty, l, ns⟩ 0 = objW (encF d) ns l := rfl
      rw [ep]
      show (strings_Join.f ((objW (encF d) ns l).map bl) (bl [44])).bind _ = _
      have hlen' : (((123 :: (Lib.join (objW (encF d) ns l) [44] ++ [125])).length : Nat) : Int) + 150 ≤ 300 * sizeF (d + 1) ⟨5, 0, ByteArray.empty, l, ns⟩ := hlen
      simp only [List.length_cons, List.length_append, List.length_nil] at hlen'
      have hl' : l.length ≤ 400 := hl
      rw [strings_Join_eq _ _ (by rw [objW_len _ _ _ e]; omega) (by omega), bd, show ByteArray.mk #[123] = bl [123] from rfl, addO_bl (by simp only [List.length_cons, List.length_nil]; omega), bd, show ByteArray.mk #[125] = bl [125] from rfl, addO_bl (by simp only [List.length_append, List.length_cons, List.length_nil]; omega), bd]
      rfl

theorem impl_isNum_eq (n : Int) : impl_isNum.f n = some (decide (-1000000000 ≤ n ∧ n ≤ 1000000000)) := by
  unfold impl_isNum.f
  rw [impl_within_eq, Option.bind_some]

theorem impl_ownOk_eq (j : Json) (h : Jw j) : impl_ownOk.f j = some (ownB j) := by
  obtain ⟨h1, h2, h3, h4, _⟩ := (Jw_eq j).1 h
  unfold impl_ownOk.f ownB
  rw [impl_textOk_eq _ h1, impl_namesOk_eq _ h3 h2, impl_within_eq, impl_isNum_eq, lenI_eq, lenI_eq, sc_neq']
  have e1 : decide (0 < (j.List_.length : Int)) = decide (0 < j.List_.length) := decide_eq_decide.2 (by omega)
  have e2 : decide (0 < (j.Names.length : Int)) = decide (0 < j.Names.length) := decide_eq_decide.2 (by omega)
  have e3 : decide ((j.Names.length : Int) = j.List_.length) = decide (j.Names.length = j.List_.length) := decide_eq_decide.2 (by omega)
  rw [e1, e2, e3]
  simp only [bo3_and, bo3_or]
  generalize decide (0 < j.List_.length) = b1
  generalize decide (0 < j.Names.length) = b2
  generalize decide (j.S ≠ ByteArray.mk #[]) = b3
  generalize decide (j.Names.length = j.List_.length) = b4
  generalize namesB j.Names = b5
  generalize txtB j.S = b6
  by_cases k1 : j.Kind = 1
  · simp [k1]
    cases b1 <;> cases b2 <;> cases b3 <;> simp
  · by_cases k2 : j.Kind = 2
    · simp [k2]
      cases b1 <;> cases b2 <;> cases b3 <;> simp
    · by_cases k3 : j.Kind = 3
      · simp [k3]
        cases b1 <;> cases b2 <;> cases decide (j.N = 0) <;> simp
      · by_cases k5 : j.Kind = 5
        · simp [k5]
          cases b4 <;> cases b3 <;> cases decide (j.N = 0) <;> simp [gd]
        · simp only [k1, k2, k3, k5, if_false, decide_false, cond_false, ne_eq, not_false_eq_true, decide_true, Bool.and_true, bo3]
          have e9 : (decide ¬j.Kind = 4) = !decide (j.Kind = 4) := by by_cases c : j.Kind = 4 <;> simp [c]
          have e7 : (decide ¬j.N = 0) = !decide (j.N = 0) := by by_cases c : j.N = 0 <;> simp [c]
          rw [e9, e7]
          generalize decide (j.N = 0) = b7'
          generalize decide (j.Kind = 0) = b8
          generalize decide (j.Kind = 4) = b9'
          cases b1 <;> cases b2 <;> cases b3 <;> cases b7' <;> cases b8 <;> cases b9' <;> simp

theorem impl_sizeIn_l0 (j : Json) (d : Int) (self : Json → Int → Option Int) (f : Json → Int) (hf : ∀ x, 1 ≤ f x ∧ f x ≤ 401) (hl : (j.List_.length : Int) ≤ 4611686018427387904) (hs : ∀ x ∈ j.List_, self x (w64 (d - 1)) = some (f x)) :
    ∀ (k i : Nat) (n : Int), i ≤ j.List_.length → j.List_.length < i + k → 1 ≤ n → n ≤ 401 → impl_sizeIn.l0 j d self k n i = some (capL f n (j.List_.drop i)) := by
  intro k
  induction k with
  | zero => intro i n h h'; omega
  | succ k ih =>
    intro i n h h' hn hn'
    rw [impl_sizeIn.l0, lenI_eq]
    by_cases hi : i < j.List_.length
    · have := hf j.List_[i]
      rw [decide_eq_true (by omega), cond_true, getO_nat, List.getElem?_eq_getElem hi, Option.bind_some, hs _ (List.getElem_mem hi), Option.bind_some, w64_id (by omega), List.drop_eq_getElem_cons hi, capL, w64_succ (by omega)]
      by_cases c : 400 < n + f j.List_[i]
      · rw [decide_eq_true c, cond_true, if_pos c]
      · rw [decide_eq_false c, cond_false, if_neg c]
        exact ih (i + 1) _ (by omega) (by omega) (by omega) (by omega)
    · rw [decide_eq_false (by omega), cond_false, List.drop_eq_nil_of_le (by omega), capL]
theorem impl_sizeIn_g : ∀ (k d : Nat) (j : Json), d < k → d ≤ 1000 → Jw j → impl_sizeIn.g k j d = some (sizeF d j) := by
  intro k
  induction k with
  | zero => intro d j h; omega
  | succ k ih =>
    intro d j h hd hj
    obtain ⟨h1, h2, h3, h4, h5⟩ := (Jw_eq j).1 hj
    rw [impl_sizeIn.g, impl_sizeIn.b, impl_ownOk_eq j hj]
    cases d with
    | zero => rw [decide_eq_true (by omega), sizeF]; rfl
    | succ d =>
      rw [decide_eq_false (by omega), sizeF]
      cases ho : ownB j with
      | false => rfl
      | true =>
        rw [if_pos rfl]
        simp only [bo3_not, Bool.not_false, gd_true, Option.bind_some, bo3_F, Bool.not_true, cond_false]
        exact impl_sizeIn_l0 j ((d + 1 : Nat) : Int) (impl_sizeIn.g k) (sizeF d) (sizeF_range d) h4 (fun x hx => by
          rw [w64_id (by omega), show ((d + 1 : Nat) : Int) - 1 = (d : Int) by omega]
          exact ih d x (by omega) (by omega) (h5 x hx)) (((lenI j.List_) - 0).toNat + 1) 0 1 (by omega) (by rw [lenI_eq]; omega) (by omega) (by omega)

theorem impl_JsonOk_eq (j : Json) (h : Jw j) : impl_JsonOk.f j = some (jsonB j) := by
  unfold impl_JsonOk.f impl_sizeIn.f
  have := impl_sizeIn_g 20 6 j (by omega) (by omega) h
  rw [show (6 : Int) = ((6 : Nat) : Int) from rfl, this, Option.bind_some]
  rfl

/-- A value's text; none where it is not right, or too long. -/
def encL (j : Json) : List UInt8 := if jsonB j = true ∧ (encF 6 j).length ≤ 6000 then encF 6 j else []
theorem impl_Encode_eq (j : Json) (hw : Jw j) : impl_Encode.f j = some (bl (encL j)) := by
  unfold impl_Encode.f encL
  rw [impl_JsonOk_eq j hw, bd, bo3_not]
  cases h : jsonB j with
  | false => rfl
  | true =>
    have h' := h
    unfold jsonB at h'
    rw [Bool.not_true, cond_false, impl_written.f, impl_written_g 20 6 j (by omega) (of_decide_eq_true h'), bd, sl_bl]
    by_cases c : (encF 6 j).length ≤ 6000
    · rw [decide_eq_false (by omega), cond_false, if_pos ⟨rfl, c⟩]
    · rw [decide_eq_true (by omega), cond_true, if_neg (by simp [c])]; rfl

theorem spec_Encode_eq (j : Json) (hw : Jw j) : spec_Encode.f j = some (bl (encL j)) := by
  unfold spec_Encode.f encL
  rw [spec_JsonOk_eq j hw, bd, bo3_not]
  cases h : jsonB j with
  | false => rfl
  | true =>
    have h' := h
    unfold jsonB at h'
    rw [Bool.not_true, cond_false, spec_l2Encode.f, spec_l2Encode_g 20 6 j (by omega) (of_decide_eq_true h'), bd, sl_bl]
    by_cases c : (encF 6 j).length ≤ 6000
    · rw [decide_eq_false (by omega), cond_false, if_pos ⟨rfl, c⟩]
    · rw [decide_eq_true (by omega), cond_true, if_neg (by simp [c])]; rfl

theorem spec_Decode_eq (t : List UInt8) : spec_Decode.f (bl t) = some (decF t) := by
  unfold spec_Decode.f
  rw [show ByteArray.mk #[] = bl [] from rfl, str_eq, sl_bl]
  by_cases h0 : t = []
  · rw [decide_eq_true h0, show ∀ y, bo3 true true y = true from fun _ => rfl, cond_true, decF_no ?_]
    · rfl
    · rintro ⟨j, hj, e, _⟩
      exact enc_ne hj (e.trans h0)
  rw [decide_eq_false h0, show ∀ y, bo3 false true y = y from fun _ => rfl]
  by_cases hl : t.length ≤ 6000
  · rw [decide_eq_false (by omega), cond_false]
    unfold spec_l2Value.f
    by_cases h : ∃ j, jsonB j = true ∧ encF 6 j = t ∧ t.length ≤ 6000
    · obtain ⟨j, e, hj, rfl, _⟩ := decF_yes h
      have hsz : sizeF 6 j ≤ 400 := by unfold jsonB at hj; exact of_decide_eq_true hj
      have hv := l2Value_right (encF 6 j) (by omega) 20 6 j (by omega) (by omega) hsz 0 400 [] (by simp) (fun c hc => by cases hc) (by omega) (by omega)
      rw [show ((0 : Nat) : Int) = 0 from rfl, show ((6 : Nat) : Int) = 6 from rfl, Nat.zero_add] at hv
      rw [hv, bd, e]
      dsimp only
      rw [decide_eq_false (p := ((encF 6 j).length : Int) ≠ ((encF 6 j).length : Int)) (by simp), show bo3 (bo3 (bo3 true false true) true false) false true = true from rfl, gd_true, spec_Encode_eq j (jsonB_Jw hj), bd, show encL j = encF 6 j from if_pos ⟨hj, hl⟩, str_ne, decide_eq_true rfl]
      rfl
    · rw [decF_no h]
      obtain ⟨i', ok', left', j, e, _, _, _, _, _, hw⟩ := l2Value_tot t (by omega) 20 6 (by omega) (by omega) 0 true 400 (Nat.zero_le _) (by omega) (by omega)
      rw [show ((0 : Nat) : Int) = 0 from rfl, show ((6 : Nat) : Int) = 6 from rfl] at e
      rw [e, bd]
      dsimp only
      generalize bo3 (bo3 ok' false true) true (decide ((i' : Int) ≠ (t.length : Int))) = B
      cases B with
      | true => rfl
      | false =>
        rw [show bo3 false false true = true from rfl, gd_true, spec_Encode_eq j hw, bd, str_ne, decide_eq_false ?_]
        · rfl
        · unfold encL
          split
          · rename_i hh; exact fun e => h ⟨j, hh.1, e, hl⟩
          · exact fun e => h0 e.symm
  · rw [decide_eq_true (by omega), cond_true, decF_no (fun ⟨j, _, _, h⟩ => hl h)]
    rfl

theorem stringslite_CutPrefix_eq (s w : List UInt8) : internal_stringslite_CutPrefix.f (bl s) (bl w) = some (if w.isPrefixOf s = true then (bl (s.drop w.length), true) else (bl s, false)) := by
  unfold internal_stringslite_CutPrefix.f
  rw [stringslite_HasPrefix_eq, bd, bo3_not]
  cases h : w.isPrefixOf s with
  | false => rfl
  | true =>
    rw [pre_take, decide_eq_true_eq] at h
    rw [Bool.not_true, cond_false, sl_bl, sl_bl, cutS_bl h.1 (Nat.le_refl _), bd, ss_bl, if_pos rfl, List.take_of_length_le (Nat.le_refl _)]

theorem strings_CutPrefix_eq (s w : List UInt8) : strings_CutPrefix.f (bl s) (bl w) = some (if w.isPrefixOf s = true then (bl (s.drop w.length), true) else (bl s, false)) := by
  unfold strings_CutPrefix.f
  rw [stringslite_CutPrefix_eq, bd]

theorem reader_take_eq (s : List UInt8) (b : Bool) (w : List UInt8) : impl_reader_take.f ⟨bl s, b⟩ (bl w) = some (if w.isPrefixOf s = true then (⟨bl (s.drop w.length), b⟩, !b) else (⟨bl s, b⟩, false)) := by
  unfold impl_reader_take.f
  rw [strings_CutPrefix_eq, bd]
  cases w.isPrefixOf s with
  | false => rfl
  | true => cases b <;> rfl
theorem reader_take_yes (w s : List UInt8) : impl_reader_take.f ⟨bl (w ++ s), false⟩ (bl w) = some (⟨bl s, false⟩, true) := by
  rw [reader_take_eq, if_pos (pre_app w s), List.drop_left]; rfl
theorem reader_take_no {a c : UInt8} (w s : List UInt8) (b : Bool) (h : a ≠ c) : impl_reader_take.f ⟨bl (c :: s), b⟩ (bl (a :: w)) = some (⟨bl (c :: s), b⟩, false) := by
  rw [reader_take_eq, if_neg (by rw [pre_ne h]; simp)]
theorem reader_take_ok (s : List UInt8) (b : Bool) (a : UInt8) (w : List UInt8) : ∃ (s' : List UInt8) (c : Bool), impl_reader_take.f ⟨bl s, b⟩ (bl (a :: w)) = some (⟨bl s', b⟩, c) ∧ s'.length ≤ s.length ∧ (c = true → s'.length < s.length) := by
  rw [reader_take_eq]
  split
  · rename_i h
    rw [pre_take, decide_eq_true_eq, List.length_cons] at h
    exact ⟨_, _, rfl, by rw [List.length_drop]; omega, fun _ => by rw [List.length_drop, List.length_cons]; omega⟩
  · exact ⟨s, false, rfl, Nat.le_refl _, fun h => by cases h⟩

theorem strings_HasPrefix_eq (s w : List UInt8) : strings_HasPrefix.f (bl s) (bl w) = some (w.isPrefixOf s) := by
  unfold strings_HasPrefix.f
  rw [stringslite_HasPrefix_eq, bd]

theorem reader_want_yes (w s : List UInt8) : impl_reader_want.f ⟨bl (w ++ s), false⟩ (bl w) = some ⟨bl s, false⟩ := by
  unfold impl_reader_want.f
  rw [reader_take_yes, bd]; rfl
theorem reader_want_ok (s : List UInt8) (b : Bool) (a : UInt8) (w : List UInt8) : ∃ (s' : List UInt8) (b' : Bool), impl_reader_want.f ⟨bl s, b⟩ (bl (a :: w)) = some ⟨bl s', b'⟩ ∧ s'.length ≤ s.length := by
  unfold impl_reader_want.f
  obtain ⟨s', c, e, h, _⟩ := reader_take_ok s b a w
  rw [e, bd]
  cases c with
  | true => exact ⟨s', b, rfl, h⟩
  | false => exact ⟨s', true, rfl, h⟩

theorem rq_tot : ∀ (k : Nat) (s : List UInt8) (b : Bool) (acc : List UInt8), s.length < k → acc.length + s.length ≤ 10000000 → ∃ (s' : List UInt8) (b' : Bool) (q : List UInt8), impl_reader_quoted.l0 k (bl s) b (chs acc) = some (⟨bl s', b'⟩, bl q) ∧ s'.length ≤ s.length ∧ q.length ≤ acc.length + s.length := by
  intro k
  induction k with
  | zero => intro s b acc h; omega
  | succ k ih =>
    intro s b acc h1 h2
    rw [impl_reader_quoted.l0, bo3_not]
    cases b with
    | true => exact ⟨s, true, [], rfl, Nat.le_refl _, Nat.zero_le _⟩
    | false =>
      rw [Bool.not_false, cond_true]
      obtain ⟨s1, c1, e1, l1, _⟩ := reader_take_ok s false 34 []
      rw [show ByteArray.mk #[34] = bl [34] from rfl, e1, bd]
      cases c1 with
      | true => exact ⟨s1, false, acc, by rw [cond_true, bd, bsO_chs], l1, by omega⟩
      | false =>
        rw [cond_false]
        obtain ⟨s2, c2, e2, l2, _⟩ := reader_take_ok s1 false 92 []
        rw [show ByteArray.mk #[92] = bl [92] from rfl, e2, bd]
        dsimp only
        rw [show ByteArray.mk #[] = bl [] from rfl, str_eq]
        cases s2 with
        | nil => exact ⟨[], true, [], rfl, Nat.zero_le _, Nat.zero_le _⟩
        | cons c s2 =>
          simp only [List.length_cons] at l2
          have hz : (0 : Int) = ((0 : Nat) : Int) := rfl
          rw [decide_eq_false (by simp), cond_false, hz, inS_bl (by simp), bd, sx_bl (b := c) (by rfl), bd, app_one (by omega), bd, sl_bl, show (1 : Int) = ((1 : Nat) : Int) from rfl, cutS_bl (by simp) (Nat.le_refl _), bd, ss_bl, List.take_of_length_le (Nat.le_refl _)]
          obtain ⟨s3, b3, q3, e3, l3, m3⟩ := ih s2 false (acc ++ [c]) (by omega) (by rw [List.length_append, List.length_singleton]; omega)
          refine ⟨s3, b3, q3, e3, by omega, by rw [List.length_append, List.length_singleton] at m3; omega⟩
theorem reader_quoted_ok (s : List UInt8) (b : Bool) (h : s.length ≤ 1000000) : ∃ (s' : List UInt8) (b' : Bool) (q : List UInt8), impl_reader_quoted.f ⟨bl s, b⟩ = some (⟨bl s', b'⟩, bl q) ∧ s'.length ≤ s.length ∧ q.length ≤ s.length := by
  unfold impl_reader_quoted.f
  obtain ⟨s1, b1, e1, l1⟩ := reader_want_ok s b 34 []
  rw [show ByteArray.mk #[34] = bl [34] from rfl, e1, bd]
  obtain ⟨s2, b2, q, e2, l2, m2⟩ := rq_tot (s.length + 2) s1 b1 [] (by omega) (by simp; omega)
  exact ⟨s2, b2, q, e2, by omega, by rw [List.length_nil] at m2; omega⟩
theorem rq_right (rest : List UInt8) : ∀ (q : List UInt8) (k : Nat) (acc : List UInt8), q.length < k → acc.length + q.length ≤ 10000000 → impl_reader_quoted.l0 k (bl (q.flatMap escC ++ 34 :: rest)) false (chs acc) = some (⟨bl rest, false⟩, bl (acc ++ q)) := by
  intro q
  induction q with
  | nil =>
    intro k acc h1 h2
    cases k with
    | zero => simp at h1
    | succ k =>
      rw [impl_reader_quoted.l0, show bo3 false false true = true from rfl, cond_true, show ByteArray.mk #[34] = bl [34] from rfl]
      have := reader_take_yes [34] rest
      rw [show ([34] : List UInt8) ++ rest = 34 :: rest from rfl] at this
      rw [show ([] : List UInt8).flatMap escC ++ 34 :: rest = 34 :: rest from rfl, this, bd, cond_true, bd, bsO_chs, List.append_nil]
  | cons c q ih =>
    intro k acc h1 h2
    cases k with
    | zero => simp at h1
    | succ k =>
      simp only [List.length_cons] at h1 h2
      rw [impl_reader_quoted.l0, show bo3 false false true = true from rfl, cond_true, show ByteArray.mk #[34] = bl [34] from rfl, show ByteArray.mk #[92] = bl [92] from rfl, List.flatMap_cons]
      have fin : ∀ r : List UInt8, r = q.flatMap escC ++ 34 :: rest → (bif (Ls.sc .eql (bl (c :: r)) (ByteArray.mk #[])) then (some ((reader.mk (bl (c :: r)) true), (ByteArray.mk #[]))) else ((inS (bl (c :: r)) 0).bind fun u14 => (some [(Ls.sx (bl (c :: r)) 0)]).bind fun l15 => (appO 1 (chs acc) l15).bind fun l16 => (cutS (bl (c :: r)) 1 (Ls.sl (bl (c :: r)))).bind fun u17 => impl_reader_quoted.l0 k (Ls.ss (bl (c :: r)) 1 (Ls.sl (bl (c :: r)))) false l16)) = some (⟨bl rest, false⟩, bl (acc ++ c :: q)) := by
        intro r hr
        have hz : (0 : Int) = ((0 : Nat) : Int) := rfl
        rw [show ByteArray.mk #[] = bl [] from rfl, str_eq, decide_eq_false (by simp), cond_false, hz, inS_bl (by simp), bd, sx_bl (b := c) (by rfl), bd, app_one (by omega), bd, sl_bl, show (1 : Int) = ((1 : Nat) : Int) from rfl, cutS_bl (by simp) (Nat.le_refl _), bd, ss_bl, List.take_of_length_le (Nat.le_refl _), show (c :: r).drop 1 = r from rfl, hr, ih k (acc ++ [c]) (by omega) (by rw [List.length_append, List.length_singleton]; omega), List.append_assoc]
        rfl
      by_cases hc : c = 34 ∨ c = 92
      · rw [show escC c = [92, c] from if_pos hc, show ([92, c] ++ q.flatMap escC) ++ 34 :: rest = 92 :: (c :: (q.flatMap escC ++ 34 :: rest)) by simp, reader_take_no [] _ false (show (34 : UInt8) ≠ 92 by decide), bd, cond_false]
        have := reader_take_yes [92] (c :: (q.flatMap escC ++ 34 :: rest))
        rw [show ([92] : List UInt8) ++ (c :: (q.flatMap escC ++ 34 :: rest)) = 92 :: (c :: (q.flatMap escC ++ 34 :: rest)) from rfl] at this
        rw [this, bd]
        exact fin _ rfl
      · have h34 : (34 : UInt8) ≠ c := fun e => hc (.inl e.symm)
        have h92 : (92 : UInt8) ≠ c := fun e => hc (.inr e.symm)
        rw [show escC c = [c] from if_neg hc, show ([c] ++ q.flatMap escC) ++ 34 :: rest = c :: (q.flatMap escC ++ 34 :: rest) by simp, reader_take_no [] _ false h34, bd, cond_false, reader_take_no [] _ false h92, bd]
        exact fin _ rfl
theorem reader_quoted_right (q rest : List UInt8) (h : q.length ≤ 1000000) : impl_reader_quoted.f ⟨bl (quoteL q ++ rest), false⟩ = some (⟨bl rest, false⟩, bl q) := by
  unfold impl_reader_quoted.f
  have := reader_want_yes [34] (q.flatMap escC ++ 34 :: rest)
  have e : ([34] : List UInt8) ++ (q.flatMap escC ++ 34 :: rest) = quoteL q ++ rest := by simp [quoteL]
  rw [e] at this
  rw [show ByteArray.mk #[34] = bl [34] from rfl, this, bd]
  have hl : q.length ≤ (q.flatMap escC).length := by
    clear this e h
    induction q with
    | nil => exact Nat.le_refl _
    | cons c q ih => rw [List.flatMap_cons, List.length_append, List.length_cons]; have : 1 ≤ (escC c).length := by unfold escC; split <;> simp
                     omega
  exact rq_right rest q ((bl (quoteL q ++ rest)).size + 2) [] (by rw [bl_size, List.length_append]; simp only [quoteL, List.length_cons, List.length_append]; omega) (by simp; omega)

def NoDig (r : List UInt8) : Prop := ∀ c ∈ r.head?, c.toNat < 48 ∨ 57 < c.toNat
/-- Whether the loop goes on at a byte. -/
def digAt (s : List UInt8) (i : Nat) : Bool := match s[i]? with
  | some c => decide (48 ≤ c.toNat ∧ c.toNat ≤ 57) || (decide (i = 0) && decide (c.toNat = 45))
  | none => false
theorem rn_step (s : List UInt8) (b : Bool) (hs : s.length ≤ 10000000) (K : Int → Option (reader × Json)) (k i : Nat) (hi : i ≤ s.length) : impl_reader_number.l0 ⟨bl s, b⟩ K (k + 1) (i : Int) = bif digAt s i then impl_reader_number.l0 ⟨bl s, b⟩ K k ((i + 1 : Nat) : Int) else K (i : Int) := by
  rw [impl_reader_number.l0]
  dsimp only
  rw [sl_bl]
  by_cases h : i < s.length
  · have hx := List.getElem?_eq_getElem h
    have hb : (s[i]).toNat < 256 := UInt8.toNat_lt _
    have h0 : ∀ B : Bool, (gd B (inS (bl s) 0) : Option Unit) = some () := fun B => by
      cases B with
      | false => rfl
      | true => rw [gd_true, show (0 : Int) = ((0 : Nat) : Int) from rfl, inS_bl (by omega)]
    rw [decide_eq_true (by omega), gd_true, inS_bl h, bd, gd_true, sx_bl hx, w64_id (by omega), impl_within_eq, bd, h0, bd]
    unfold digAt
    rw [hx]
    dsimp only
    have e1 : decide (48 ≤ ((s[i]).toNat : Int) ∧ ((s[i]).toNat : Int) ≤ 57) = decide (48 ≤ (s[i]).toNat ∧ (s[i]).toNat ≤ 57) := by
      rw [decide_eq_decide]; omega
    rw [e1, w64_succ (by omega), show ∀ y, bo3 true y false = y from fun _ => rfl]
    by_cases hz : i = 0
    · subst hz
      have e2 : Ls.sx (bl s) 0 = ((s[0]).toNat : Int) := sx_bl (i := 0) hx
      have e3 : decide (Ls.sx (bl s) 0 = 45) = decide ((s[0]).toNat = 45) := by rw [e2, decide_eq_decide]; omega
      rw [e3]
      rw [show decide (((0 : Nat) : Int) = 0) = true from rfl, show decide ((0 : Nat) = 0) = true from rfl]
      cases decide (48 ≤ (s[0]).toNat ∧ (s[0]).toNat ≤ 57) <;> cases decide ((s[0]).toNat = 45) <;> rfl
    · rw [decide_eq_false (p := (i : Int) = 0) (by omega), decide_eq_false hz]
      cases decide (48 ≤ (s[i]).toNat ∧ (s[i]).toNat ≤ 57) <;> rfl
  · rw [decide_eq_false (by omega)]
    have : digAt s i = false := by unfold digAt; rw [List.getElem?_eq_none (by omega)]
    rw [this]
    rfl
theorem rn_tot (s : List UInt8) (b : Bool) (hs : s.length ≤ 10000000) (K : Int → Option (reader × Json)) : ∀ (k i : Nat), i ≤ s.length → s.length < i + k → ∃ n : Nat, impl_reader_number.l0 ⟨bl s, b⟩ K k (i : Int) = K (n : Int) ∧ n ≤ s.length := by
  intro k
  induction k with
  | zero => intro i h1 h2; omega
  | succ k ih =>
    intro i h1 h2
    rw [rn_step s b hs K k i h1]
    cases hd : digAt s i with
    | false => exact ⟨i, rfl, h1⟩
    | true =>
      have : i < s.length := by
        unfold digAt at hd
        split at hd
        · rename_i c hc; exact at_lt hc
        · cases hd
      exact ih (i + 1) (by omega) (by omega)
theorem rn_right (s : List UInt8) (b : Bool) (hs : s.length ≤ 10000000) (K : Int → Option (reader × Json)) (m : Nat) (hm : m ≤ s.length) (h1 : ∀ i, i < m → digAt s i = true) (h2 : digAt s m = false) : ∀ (k i : Nat), i ≤ m → m < i + k → impl_reader_number.l0 ⟨bl s, b⟩ K k (i : Int) = K (m : Int) := by
  intro k
  induction k with
  | zero => intro i h; omega
  | succ k ih =>
    intro i hi hk
    rw [rn_step s b hs K k i (by omega)]
    by_cases c : i = m
    · rw [c, h2, cond_false]
    · rw [h1 i (by omega), cond_true]
      exact ih (i + 1) (by omega) (by omega)
theorem reader_number_ok (s : List UInt8) (b : Bool) (hs : s.length ≤ 10000000) : ∃ (s' : List UInt8) (b' : Bool) (v : Int), impl_reader_number.f ⟨bl s, b⟩ = some (⟨bl s', b'⟩, ⟨2, v, ByteArray.empty, [], []⟩) ∧ s'.length ≤ s.length := by
  unfold impl_reader_number.f
  rw [joinK_eq, sl_bl]
  obtain ⟨n, e, hn⟩ := rn_tot s b hs (fun (y1 : Int) =>
    (cutS (bl s) 0 y1).bind fun u40 =>
    (strconv_Atoi.f (Ls.ss (bl s) 0 y1)).bind fun r41 =>
    bif r41.2 then (
    bif false then (
    none)
    else (
    (cutS (bl s) y1 (s.length : Int)).bind fun u44 =>
    some ((reader.mk (Ls.ss (bl s) y1 (s.length : Int)) b), (Json.mk 2 r41.1 ByteArray.empty [] []))))
    else (
    bif true then (
    (cutS (bl s) y1 (s.length : Int)).bind fun u46 =>
    some ((reader.mk (Ls.ss (bl s) y1 (s.length : Int)) true), (Json.mk 2 r41.1 ByteArray.empty [] [])))
    else (
    none))) (((s.length : Int) - 0).toNat + 1) 0 (Nat.zero_le _) (by omega)
  have hz : (0 : Int) = ((0 : Nat) : Int) := rfl
  have hcut : cutS (bl s) (n : Int) (s.length : Int) = some () := cutS_bl hn (Nat.le_refl _)
  have hss : Ls.ss (bl s) (n : Int) (s.length : Int) = bl (s.drop n) := by rw [ss_bl, List.take_of_length_le (Nat.le_refl _)]
  have ha : strconv_Atoi.f (Ls.ss (bl s) 0 (n : Int)) = some (numOf (s.take n)) := by
    rw [hz, ss_bl, List.drop_zero]
    exact atoiO_bl (by rw [List.length_take]; omega)
  have hc0 : cutS (bl s) 0 (n : Int) = some () := by rw [hz]; exact cutS_bl (Nat.zero_le _) hn
  refine ⟨s.drop n, (bif (numOf (s.take n)).2 then b else true), (numOf (s.take n)).1, e.trans ?_, by rw [List.length_drop]; omega⟩
  rw [hc0, bd, ha, bd, hcut, hss]
  cases (numOf (s.take n)).2 <;> rfl
theorem itoa_pos (v : Int) : 0 < (Lib.itoa v).length := by
  obtain ⟨c, r, e, _⟩ := dec_cons v.natAbs
  unfold Lib.itoa
  split
  · simp
  · rw [show v.toNat = v.natAbs by omega, e]; simp
theorem itoa_dig (v : Int) (rest : List UInt8) (i : Nat) (h : i < (Lib.itoa v).length) : digAt (Lib.itoa v ++ rest) i = true := by
  unfold digAt
  rw [List.getElem?_append_left h, List.getElem?_eq_getElem h]
  dsimp only
  by_cases hv : v < 0
  · have e : Lib.itoa v = 45 :: Lib.decDigits v.natAbs := if_pos hv
    cases i with
    | zero =>
      have : (Lib.itoa v)[0] = 45 := by simp [e]
      rw [this]; rfl
    | succ i =>
      have hm : (Lib.itoa v)[i + 1] ∈ Lib.decDigits v.natAbs := by simp [e]
      rw [decide_eq_true (dec_mem _ _ hm)]; rfl
  · have e : Lib.itoa v = Lib.decDigits v.toNat := if_neg hv
    have hm : (Lib.itoa v)[i] ∈ Lib.decDigits v.toNat := by
      have := List.getElem_mem h
      rw [← e]; exact this
    rw [decide_eq_true (dec_mem _ _ hm)]; rfl
theorem itoa_end (v : Int) (rest : List UInt8) (hr : NoDig rest) : digAt (Lib.itoa v ++ rest) (Lib.itoa v).length = false := by
  unfold digAt
  rw [List.getElem?_append_right (Nat.le_refl _), Nat.sub_self]
  have hp := itoa_pos v
  cases rest with
  | nil => rfl
  | cons c r =>
    have := hr c rfl
    show (decide (48 ≤ c.toNat ∧ c.toNat ≤ 57) || (decide ((Lib.itoa v).length = 0) && decide (c.toNat = 45))) = false
    rw [decide_eq_false (by omega), decide_eq_false (p := (Lib.itoa v).length = 0) (by omega)]
    rfl
theorem reader_number_right {v : Int} (hv : -1000000000 ≤ v ∧ v ≤ 1000000000) (rest : List UInt8) (hr : NoDig rest) (hs : (Lib.itoa v ++ rest).length ≤ 10000000) : impl_reader_number.f ⟨bl (Lib.itoa v ++ rest), false⟩ = some (⟨bl rest, false⟩, ⟨2, v, ByteArray.empty, [], []⟩) := by
  unfold impl_reader_number.f
  rw [joinK_eq, sl_bl]
  have hm : (Lib.itoa v).length ≤ (Lib.itoa v ++ rest).length := by rw [List.length_append]; omega
  refine (rn_right (Lib.itoa v ++ rest) false hs _ (Lib.itoa v).length hm (itoa_dig v rest) (itoa_end v rest hr) _ 0 (Nat.zero_le _) (by omega)).trans ?_
  have hz : (0 : Int) = ((0 : Nat) : Int) := rfl
  have hcut : cutS (bl (Lib.itoa v ++ rest)) ((Lib.itoa v).length : Int) ((Lib.itoa v ++ rest).length : Int) = some () := cutS_bl hm (Nat.le_refl _)
  have hss : Ls.ss (bl (Lib.itoa v ++ rest)) ((Lib.itoa v).length : Int) ((Lib.itoa v ++ rest).length : Int) = bl rest := by rw [ss_bl, List.take_of_length_le (Nat.le_refl _), List.drop_left]
  have ha : strconv_Atoi.f (Ls.ss (bl (Lib.itoa v ++ rest)) 0 ((Lib.itoa v).length : Int)) = some (v, true) := by
    rw [hz, ss_bl, List.drop_zero, List.take_left]
    have := itoa_len11 hv
    have e : strconv_Atoi.f (bl (Lib.itoa v)) = some (numOf (Lib.itoa v)) := atoiO_bl (by omega)
    rw [e, numOf_itoa (by omega)]
  have hc0 : cutS (bl (Lib.itoa v ++ rest)) 0 ((Lib.itoa v).length : Int) = some () := by rw [hz]; exact cutS_bl (Nat.zero_le _) hm
  rw [hc0, bd, ha, bd, hcut, hss]
  rfl

def SelfTot (self : reader → Int → Option (reader × Json)) (d : Int) : Prop := ∀ (s : List UInt8) (b : Bool), s.length ≤ 1000000 → ∃ (s' : List UInt8) (b' : Bool) (j : Json), self ⟨bl s, b⟩ d = some (⟨bl s', b'⟩, j) ∧ s'.length ≤ s.length ∧ Jw j
theorem Jw_mk {k n : Int} {s : ByteArray} {l : List Json} {ns : List ByteArray} (h1 : (s.size : Int) ≤ 4611686018427387904) (h2 : ∀ x ∈ ns, (x.size : Int) ≤ 4611686018427387904) (h3 : ns.length ≤ 10000000) (h4 : l.length ≤ 10000000) (h5 : ∀ x ∈ l, Jw x) : Jw ⟨k, n, s, l, ns⟩ :=
  (Jw_eq _).2 ⟨h1, h2, by show (ns.length : Int) ≤ _; omega, by show (l.length : Int) ≤ _; omega, h5⟩
theorem Jw_leaf (k n : Int) {s : List UInt8} (h : s.length ≤ 10000000) : Jw ⟨k, n, bl s, [], []⟩ := Jw_mk (by rw [bl_size]; omega) (by simp) (by simp) (by simp) (by simp)
theorem parts_l0_tot (self : reader → Int → Option (reader × Json)) (kind d : Int) (hself : SelfTot self (w64 (d - 1))) (K : ByteArray → Bool → List Json → List ByteArray → Option (reader × Json)) : ∀ (k : Nat) (s : List UInt8) (b : Bool) (js : List Json) (ns : List ByteArray) (more : Bool), 0 < k → (more = true → s.length + 1 < k) → js.length + s.length ≤ 2000000 → ns.length ≤ js.length → s.length ≤ 1000000 → (∀ x ∈ js, Jw x) → (∀ x ∈ ns, (x.size : Int) ≤ 4611686018427387904) → ∃ (s' : List UInt8) (b' : Bool) (js' : List Json) (ns' : List ByteArray), impl_reader_parts.l0 kind d self K k (bl s) b js ns more = K (bl s') b' js' ns' ∧ s'.length ≤ s.length ∧ js'.length ≤ 2000001 ∧ ns'.length ≤ 2000001 ∧ (∀ x ∈ js', Jw x) ∧ (∀ x ∈ ns', (x.size : Int) ≤ 4611686018427387904) := by
  intro k
  induction k with
  | zero => intro s b js ns more h; omega
  | succ k ih =>
    intro s b js ns more _ hk hj hn hs hJ hN
    rw [impl_reader_parts.l0]
    by_cases hg : bo3 more (bo3 b false true) false = true
    · have hm : more = true := by cases more <;> simp_all [bo3]
      have hb : b = false := by cases b <;> cases more <;> simp_all [bo3]
      subst hm hb
      have hk := hk rfl
      rw [hg, cond_true, joinK_eq]
      have go : ∀ (s1 : List UInt8) (b1 : Bool) (ns1 : List ByteArray), s1.length ≤ s.length → ns1.length ≤ js.length + 1 → (∀ x ∈ ns1, (x.size : Int) ≤ 4611686018427387904) → ∃ (s' : List UInt8) (b' : Bool) (js' : List Json) (ns' : List ByteArray), ((self (reader.mk (bl s1) b1) (w64 (d - 1))).bind fun r56 =>
          (some [r56.2]).bind fun l57 =>
          (appO 80 js l57).bind fun l58 =>
          (impl_reader_take.f r56.1 (ByteArray.mk #[44])).bind fun r59 =>
          impl_reader_parts.l0 kind d self K k r59.1.text r59.1.bad l58 ns1 r59.2) = K (bl s') b' js' ns' ∧ s'.length ≤ s.length ∧ js'.length ≤ 2000001 ∧ ns'.length ≤ 2000001 ∧ (∀ x ∈ js', Jw x) ∧ (∀ x ∈ ns', (x.size : Int) ≤ 4611686018427387904) := by
        intro s1 b1 ns1 l1 hn1 hN1
        obtain ⟨s2, b2, j, e2, l2, hj2⟩ := hself s1 b1 (by omega)
        obtain ⟨s3, c3, e3, l3, m3⟩ := reader_take_ok s2 b2 44 []
        have hJ2 : ∀ x ∈ js ++ [j], Jw x := fun x hx => (List.mem_append.1 hx).elim (hJ x) (fun h => by rw [List.mem_singleton.1 h]; exact hj2)
        rw [e2, bd, bd, appO_ok (by simp only [List.length_cons, List.length_nil]; omega), bd, show ByteArray.mk #[44] = bl [44] from rfl, e3, bd]
        cases c3 with
        | true =>
          have m3 := m3 rfl
          obtain ⟨s', b', js', ns', e, a1, a2, a3, a4, a5⟩ := ih s3 b2 (js ++ [j]) ns1 true (by omega) (fun _ => by omega) (by rw [List.length_append, List.length_singleton]; omega) (by rw [List.length_append, List.length_singleton]; omega) (by omega) hJ2 hN1
          exact ⟨s', b', js', ns', e, by omega, a2, a3, a4, a5⟩
        | false =>
          cases k with
          | zero => omega
          | succ k =>
            refine ⟨s3, b2, js ++ [j], ns1, ?_, by omega, by rw [List.length_append, List.length_singleton]; omega, by omega, hJ2, hN1⟩
            dsimp only
            rw [impl_reader_parts.l0]
            rfl
      by_cases hk5 : kind = 5
      · obtain ⟨s1, b1, q, e1, l1, m1⟩ := reader_quoted_ok s false hs
        obtain ⟨s2, b2, e2, l2⟩ := reader_want_ok s1 b1 58 []
        rw [decide_eq_true hk5, cond_true, e1, bd, show ByteArray.mk #[58] = bl [58] from rfl, e2, bd, bd, appO_ok (by simp only [List.length_cons, List.length_nil]; omega), bd]
        exact go s2 b2 _ (by omega) (by rw [List.length_append, List.length_singleton]; omega) (fun x hx => (List.mem_append.1 hx).elim (hN x) (fun h => by rw [List.mem_singleton.1 h, bl_size]; omega))
      · rw [decide_eq_false hk5, cond_false]
        exact go s false ns (Nat.le_refl _) (by omega) hN
    · rw [Bool.not_eq_true] at hg
      rw [hg, cond_false]
      exact ⟨s, b, js, ns, rfl, Nat.le_refl _, by omega, by omega, hJ, hN⟩
theorem parts_tot (self : reader → Int → Option (reader × Json)) (kind d : Int) (e : UInt8) (hself : SelfTot self (w64 (d - 1))) (s : List UInt8) (b : Bool) (hs : s.length ≤ 1000000) : ∃ (s' : List UInt8) (b' : Bool) (j : Json), impl_reader_parts.f self ⟨bl s, b⟩ kind (bl [e]) d = some (⟨bl s', b'⟩, j) ∧ s'.length ≤ s.length ∧ Jw j := by
  unfold impl_reader_parts.f
  obtain ⟨s1, c1, e1, l1, _⟩ := reader_take_ok s b e []
  rw [e1, bd]
  cases c1 with
  | true => exact ⟨s1, b, _, rfl, l1, Jw_leaf kind 0 (s := []) (by simp)⟩
  | false =>
    rw [cond_false, joinK_eq]
    obtain ⟨s2, b2, js, ns, e2, l2, a1, a2, a3, a4⟩ := parts_l0_tot self kind d hself (fun (y3 : ByteArray) (y4 : Bool) (y5 : List Json) (y6 : List ByteArray) =>
      (impl_reader_want.f (reader.mk y3 y4) (bl [e])).bind fun r60 =>
      some (r60, (Json.mk kind 0 ByteArray.empty y5 y6))) ((bl s).size + 2) s1 b [] [] true (by omega) (fun _ => by rw [bl_size]; omega) (by simp; omega) (by simp) (by omega) (by simp) (by simp)
    obtain ⟨s3, b3, e3, l3⟩ := reader_want_ok s2 b2 e []
    refine ⟨s3, b3, ⟨kind, 0, ByteArray.empty, js, ns⟩, e2.trans ?_, by omega, Jw_mk (by simp) a4 (by omega) (by omega) a3⟩
    rw [e3, bd]
/-- What reads a value's text, reads the value. -/
def SelfRight (self : reader → Int → Option (reader × Json)) (d : Int) (f : Json → List UInt8) (x : Json) : Prop := ∀ rest : List UInt8, NoDig rest → (f x ++ rest).length ≤ 1000000 → self ⟨bl (f x ++ rest), false⟩ d = some (⟨bl rest, false⟩, x)
theorem join_cons2 (a b : List UInt8) (ws : List (List UInt8)) : Lib.join (a :: b :: ws) [44] = a ++ 44 :: Lib.join (b :: ws) [44] := by
  rw [Lib.join_cons, Lib.join_cons]; simp [Lib.joinTail]
theorem nodig_cons {c : UInt8} {r : List UInt8} (h : c.toNat < 48 ∨ 57 < c.toNat) : NoDig (c :: r) := by
  intro x hx
  have : c = x := by simpa using hx
  exact this ▸ h
theorem parts_l0_list (self : reader → Int → Option (reader × Json)) (d : Int) (f : Json → List UInt8) (K : ByteArray → Bool → List Json → List ByteArray → Option (reader × Json)) (rest : List UInt8) : ∀ (l : List Json) (x : Json) (k : Nat) (js : List Json) (ns : List ByteArray), (∀ y ∈ x :: l, SelfRight self (w64 (d - 1)) f y) → l.length + 1 < k → js.length + l.length ≤ 1000 → (Lib.join ((x :: l).map f) [44] ++ 93 :: rest).length ≤ 1000000 → impl_reader_parts.l0 4 d self K k (bl (Lib.join ((x :: l).map f) [44] ++ 93 :: rest)) false js ns true = K (bl (93 :: rest)) false (js ++ x :: l) ns := by
  intro l
  induction l with
  | nil =>
    intro x k js ns hx hk hj hlen
    match k, hk with
    | k + 2, _ =>
      have e0 : Lib.join ([x].map f) [44] = f x := Lib.join_one _ _
      rw [e0] at hlen ⊢
      rw [impl_reader_parts.l0, show bo3 true (bo3 false false true) false = true from rfl, cond_true, joinK_eq, show decide ((4 : Int) = 5) = false from rfl, cond_false]
      dsimp only
      rw [hx x (by simp) (93 :: rest) (nodig_cons (by decide)) hlen, bd, bd, appO_ok (by simp only [List.length_cons, List.length_nil]; omega), bd, show ByteArray.mk #[44] = bl [44] from rfl, reader_take_no [] rest false (show (44 : UInt8) ≠ 93 by decide), bd]
      dsimp only
      rw [impl_reader_parts.l0]
      rfl
  | cons y l ih =>
    intro x k js ns hx hk hj hlen
    match k, hk with
    | k + 1, hk =>
      simp only [List.length_cons] at hk hj
      have e0 : Lib.join ((x :: y :: l).map f) [44] ++ 93 :: rest = f x ++ 44 :: (Lib.join ((y :: l).map f) [44] ++ 93 :: rest) := by
        rw [List.map_cons, List.map_cons, join_cons2]; simp
      rw [e0] at hlen ⊢
      rw [impl_reader_parts.l0, show bo3 true (bo3 false false true) false = true from rfl, cond_true, joinK_eq, show decide ((4 : Int) = 5) = false from rfl, cond_false]
      dsimp only
      have ht := reader_take_yes [44] (Lib.join ((y :: l).map f) [44] ++ 93 :: rest)
      rw [show ([44] : List UInt8) ++ (Lib.join ((y :: l).map f) [44] ++ 93 :: rest) = 44 :: (Lib.join ((y :: l).map f) [44] ++ 93 :: rest) from rfl] at ht
      rw [hx x (by simp) _ (nodig_cons (by decide)) hlen, bd, bd, appO_ok (by simp only [List.length_cons, List.length_nil]; omega), bd, show ByteArray.mk #[44] = bl [44] from rfl, ht, bd]
      dsimp only
      rw [ih y k (js ++ [x]) ns (fun z hz => hx z (by simp only [List.mem_cons] at hz ⊢; exact .inr hz)) (by omega) (by rw [List.length_append, List.length_singleton]; omega) (by simp only [List.length_append, List.length_cons] at hlen ⊢; omega), List.append_assoc]
      rfl
theorem parts_l0_obj (self : reader → Int → Option (reader × Json)) (d : Int) (f : Json → List UInt8) (K : ByteArray → Bool → List Json → List ByteArray → Option (reader × Json)) (rest : List UInt8) : ∀ (l : List Json) (ms : List ByteArray) (x : Json) (m : ByteArray) (k : Nat) (js : List Json) (ns : List ByteArray), ms.length = l.length → (∀ y ∈ x :: l, SelfRight self (w64 (d - 1)) f y) → l.length + 1 < k → js.length + l.length ≤ 1000 → ns.length = js.length → (∀ n ∈ m :: ms, n.data.toList.length ≤ 60) → (Lib.join (objW f (m :: ms) (x :: l)) [44] ++ 125 :: rest).length ≤ 1000000 → impl_reader_parts.l0 5 d self K k (bl (Lib.join (objW f (m :: ms) (x :: l)) [44] ++ 125 :: rest)) false js ns true = K (bl (125 :: rest)) false (js ++ x :: l) (ns ++ m :: ms) := by
  intro l
  induction l with
  | nil =>
    intro ms x m k js ns hm hx hk hj hns hns60 hlen
    have : ms = [] := List.length_eq_zero_iff.1 hm
    subst this
    match k, hk with
    | k + 2, _ =>
      have e0 : Lib.join (objW f [m] [x]) [44] ++ 125 :: rest = quoteL m.data.toList ++ ([58] ++ (f x ++ 125 :: rest)) := by
        show Lib.join [quoteL m.data.toList ++ 58 :: f x] [44] ++ _ = _
        rw [Lib.join_one]; simp
      rw [e0] at hlen ⊢
      have hm60 := hns60 m (by simp)
      rw [impl_reader_parts.l0, show bo3 true (bo3 false false true) false = true from rfl, cond_true, joinK_eq, show decide ((5 : Int) = 5) = true from rfl, cond_true, reader_quoted_right _ _ (by omega), bd, show ByteArray.mk #[58] = bl [58] from rfl, reader_want_yes, bd, bd, appO_ok (by simp only [List.length_cons, List.length_nil]; omega), bd]
      dsimp only
      rw [hx x (by simp) (125 :: rest) (nodig_cons (by decide)) (by simp only [List.length_append, List.length_cons] at hlen ⊢; omega), bd, bd, appO_ok (by simp only [List.length_cons, List.length_nil]; omega), bd, show ByteArray.mk #[44] = bl [44] from rfl, reader_take_no [] rest false (show (44 : UInt8) ≠ 125 by decide), bd]
      dsimp only
      rw [impl_reader_parts.l0, bl_toList]
      rfl
  | cons y l ih =>
    intro ms x m k js ns hm hx hk hj hns hns60 hlen
    cases ms with
    | nil => simp at hm
    | cons m2 ms =>
    match k, hk with
    | k + 1, hk =>
      simp only [List.length_cons] at hk hj hm
      have e0 : Lib.join (objW f (m :: m2 :: ms) (x :: y :: l)) [44] ++ 125 :: rest = quoteL m.data.toList ++ ([58] ++ (f x ++ 44 :: (Lib.join (objW f (m2 :: ms) (y :: l)) [44] ++ 125 :: rest))) := by
        show Lib.join ((quoteL m.data.toList ++ 58 :: f x) :: (quoteL m2.data.toList ++ 58 :: f y) :: objW f ms l) [44] ++ _ = _
        rw [join_cons2]
        show (quoteL m.data.toList ++ 58 :: f x ++ 44 :: Lib.join (objW f (m2 :: ms) (y :: l)) [44]) ++ _ = _
        simp
      rw [e0] at hlen ⊢
      have hm60 := hns60 m (by simp)
      have ht := reader_take_yes [44] (Lib.join (objW f (m2 :: ms) (y :: l)) [44] ++ 125 :: rest)
      rw [show ([44] : List UInt8) ++ (Lib.join (objW f (m2 :: ms) (y :: l)) [44] ++ 125 :: rest) = 44 :: (Lib.join (objW f (m2 :: ms) (y :: l)) [44] ++ 125 :: rest) from rfl] at ht
      rw [impl_reader_parts.l0, show bo3 true (bo3 false false true) false = true from rfl, cond_true, joinK_eq, show decide ((5 : Int) = 5) = true from rfl, cond_true, reader_quoted_right _ _ (by omega), bd, show ByteArray.mk #[58] = bl [58] from rfl, reader_want_yes, bd, bd, appO_ok (by simp only [List.length_cons, List.length_nil]; omega), bd]
      dsimp only
      rw [hx x (by simp) _ (nodig_cons (by decide)) (by simp only [List.length_append, List.length_cons] at hlen ⊢; omega), bd, bd, appO_ok (by simp only [List.length_cons, List.length_nil]; omega), bd, show ByteArray.mk #[44] = bl [44] from rfl, ht, bd]
      dsimp only
      rw [bl_toList, ih ms y m2 k (js ++ [x]) (ns ++ [m]) (by omega) (fun z hz => hx z (by simp only [List.mem_cons] at hz ⊢; exact .inr hz)) (by omega) (by rw [List.length_append, List.length_singleton]; omega) (by rw [List.length_append, List.length_append, List.length_singleton, List.length_singleton]; omega) (fun n hn => hns60 n (by simp only [List.mem_cons] at hn ⊢; exact .inr hn)) (by simp only [List.length_append, List.length_cons] at hlen ⊢; omega), List.append_assoc, List.append_assoc]
      rfl


theorem value_tot : ∀ (k d : Nat), d < k → d ≤ 100 → SelfTot (impl_reader_value.g k) (d : Int) := by
  intro k
  induction k with
  | zero => intro d h; omega
  | succ k ih =>
    intro d hd hd2 s b hs
    rw [impl_reader_value.g, impl_reader_value.b]
    have leaf : ∀ (k n : Int), Jw ⟨k, n, ByteArray.empty, [], []⟩ := fun k n => Jw_leaf k n (s := []) (by simp)
    by_cases hg : bo3 (decide ((d : Int) < 1)) true b = true
    · rw [hg, cond_true]
      exact ⟨s, true, _, rfl, Nat.le_refl _, leaf 0 0⟩
    rw [Bool.not_eq_true] at hg
    have h0 : 1 ≤ d := by
      by_cases h : (d : Int) < 1
      · rw [decide_eq_true h] at hg; cases hg
      · omega
    have hself : SelfTot (impl_reader_value.g k) (w64 ((d : Int) - 1)) := by
      rw [w64_id (by omega), show (d : Int) - 1 = ((d - 1 : Nat) : Int) by omega]
      exact ih (d - 1) (by omega) (by omega)
    rw [hg, cond_false]
    obtain ⟨s1, c1, e1, l1, _⟩ := reader_take_ok s b 110 [117, 108, 108]
    rw [show ByteArray.mk #[110, 117, 108, 108] = bl [110, 117, 108, 108] from rfl, e1, bd]
    cases c1 with
    | true => exact ⟨s1, b, _, rfl, l1, leaf 0 0⟩
    | false =>
    rw [cond_false]
    obtain ⟨s2, c2, e2, l2, _⟩ := reader_take_ok s1 b 102 [97, 108, 115, 101]
    rw [show ByteArray.mk #[102, 97, 108, 115, 101] = bl [102, 97, 108, 115, 101] from rfl, e2, bd]
    cases c2 with
    | true => exact ⟨s2, b, _, rfl, by omega, leaf 1 0⟩
    | false =>
    rw [cond_false]
    obtain ⟨s3, c3, e3, l3, _⟩ := reader_take_ok s2 b 116 [114, 117, 101]
    rw [show ByteArray.mk #[116, 114, 117, 101] = bl [116, 114, 117, 101] from rfl, e3, bd]
    cases c3 with
    | true => exact ⟨s3, b, _, rfl, by omega, leaf 1 1⟩
    | false =>
    rw [cond_false]
    dsimp only
    rw [show ByteArray.mk #[34] = bl [34] from rfl, strings_HasPrefix_eq, bd]
    cases ([34] : List UInt8).isPrefixOf s3 with
    | true =>
      obtain ⟨s4, b4, q, e4, l4, m4⟩ := reader_quoted_ok s3 b (by omega)
      rw [cond_true, e4, bd]
      exact ⟨s4, b4, _, rfl, by omega, Jw_leaf 3 0 (by omega)⟩
    | false =>
    rw [cond_false]
    obtain ⟨s4, c4, e4, l4, _⟩ := reader_take_ok s3 b 91 []
    rw [show ByteArray.mk #[91] = bl [91] from rfl, e4, bd]
    cases c4 with
    | true =>
      obtain ⟨s5, b5, j, e5, l5, hj⟩ := parts_tot (impl_reader_value.g k) 4 (d : Int) 93 hself s4 b (by omega)
      rw [cond_true, show ByteArray.mk #[93] = bl [93] from rfl, e5, bd]
      exact ⟨s5, b5, j, rfl, by omega, hj⟩
    | false =>
    rw [cond_false]
    obtain ⟨s5, c5, e5, l5, _⟩ := reader_take_ok s4 b 123 []
    rw [show ByteArray.mk #[123] = bl [123] from rfl, e5, bd]
    cases c5 with
    | true =>
      obtain ⟨s6, b6, j, e6, l6, hj⟩ := parts_tot (impl_reader_value.g k) 5 (d : Int) 125 hself s5 b (by omega)
      rw [cond_true, show ByteArray.mk #[125] = bl [125] from rfl, e6, bd]
      exact ⟨s6, b6, j, rfl, by omega, hj⟩
    | false =>
    rw [cond_false]
    obtain ⟨s6, b6, v, e6, l6⟩ := reader_number_ok s5 b (by omega)
    rw [e6, bd]
    exact ⟨s6, b6, _, rfl, by omega, leaf 2 v⟩
/-- The first byte of a value's text. -/
theorem enc_head {d : Nat} {j : Json} (h : sizeF d j ≤ 400) : ∃ c r, encF d j = c :: r ∧ c ≠ 93 ∧ c ≠ 125 := by
  obtain ⟨d, rfl⟩ := size_pos h
  obtain ⟨ho, _⟩ := size_parts h
  rcases own_cases ho with rfl | ⟨n, hn, rfl⟩ | ⟨n, hn, rfl⟩ | ⟨s, hs, rfl⟩ | ⟨l, rfl⟩ | ⟨l, ns, e, hn, rfl⟩
  · exact ⟨110, _, rfl, by decide, by decide⟩
  · rcases hn with rfl | rfl
    · exact ⟨102, _, rfl, by decide, by decide⟩
    · exact ⟨116, _, rfl, by decide, by decide⟩
  · have hp := itoa_pos n
    cases hi : Lib.itoa n with
    | nil => rw [hi] at hp; simp at hp
    | cons c r =>
      have := itoa_mem (n := n) (c := c) (by rw [hi]; simp)
      refine ⟨c, r, hi, ?_, ?_⟩ <;> rintro rfl <;> revert this <;> decide
  · exact ⟨34, _, rfl, by decide, by decide⟩
  · exact ⟨91, _, rfl, by decide, by decide⟩
  · exact ⟨123, _, rfl, by decide, by decide⟩
/-- What a value's text leads to. -/
theorem val_start (self : reader → Int → Option (reader × Json)) (d : Int) (h1 : 1 ≤ d) (c : UInt8) (r : List UInt8) (n1 : c ≠ 110) (n2 : c ≠ 102) (n3 : c ≠ 116) (n4 : c ≠ 34) : impl_reader_value.b self ⟨bl (c :: r), false⟩ d = ((impl_reader_take.f ⟨bl (c :: r), false⟩ (bl [91])).bind fun r17 =>
    bif r17.2 then (
    (impl_reader_parts.f self r17.1 4 (bl [93]) d).bind fun r19 =>
    some (r19.1, r19.2))
    else (
    (impl_reader_take.f r17.1 (bl [123])).bind fun r20 =>
    bif r20.2 then (
    (impl_reader_parts.f self r20.1 5 (bl [125]) d).bind fun r22 =>
    some (r22.1, r22.2))
    else (
    (impl_reader_number.f r20.1).bind fun r23 =>
    some (r23.1, r23.2)))) := by
  rw [impl_reader_value.b, decide_eq_false (by omega), show bo3 false true false = false from rfl, cond_false, show ByteArray.mk #[110, 117, 108, 108] = bl [110, 117, 108, 108] from rfl, reader_take_no _ r false (fun e => n1 e.symm), bd, cond_false, show ByteArray.mk #[102, 97, 108, 115, 101] = bl [102, 97, 108, 115, 101] from rfl, reader_take_no _ r false (fun e => n2 e.symm), bd, cond_false, show ByteArray.mk #[116, 114, 117, 101] = bl [116, 114, 117, 101] from rfl, reader_take_no _ r false (fun e => n3 e.symm), bd, cond_false]
  dsimp only
  rw [show ByteArray.mk #[34] = bl [34] from rfl, strings_HasPrefix_eq, bd, pre_ne (fun e => n4 e.symm), cond_false]
  rfl
theorem value_right : ∀ (k d : Nat) (j : Json), d ≤ k → d ≤ 100 → sizeF d j ≤ 400 → SelfRight (impl_reader_value.g k) (d : Int) (encF d) j := by
  intro k
  induction k with
  | zero => intro d j h1 h2 h3; have : d = 0 := by omega
            subst this; rw [sizeF] at h3; omega
  | succ k ih =>
    intro d j h1 h2 h3 rest hr hlen
    obtain ⟨d, rfl⟩ := size_pos h3
    obtain ⟨ho, g1, g2, g3⟩ := size_parts h3
    have hl : j.List_.length ≤ 400 := by omega
    have hself : ∀ x ∈ j.List_, SelfRight (impl_reader_value.g k) (w64 (((d + 1 : Nat) : Int) - 1)) (encF d) x := fun x hx => by
      rw [w64_id (by omega), show ((d + 1 : Nat) : Int) - 1 = (d : Int) by omega]
      exact ih d x (by omega) (by omega) (g2 x hx)
    rw [impl_reader_value.g]
    rcases own_cases ho with rfl | ⟨n, hn, rfl⟩ | ⟨n, hn, rfl⟩ | ⟨s, hs, rfl⟩ | ⟨l, rfl⟩ | ⟨l, ns, e, hn, rfl⟩
    · rw [show encF (d + 1) nullJ = [110, 117, 108, 108] from rfl, impl_reader_value.b, decide_eq_false (by omega), show bo3 false true false = false from rfl, cond_false, show ByteArray.mk #[110, 117, 108, 108] = bl [110, 117, 108, 108] from rfl, reader_take_yes, bd]
      rfl
    · rcases hn with rfl | rfl
      · rw [show encF (d + 1) ⟨1, 0, ByteArray.empty, [], []⟩ = [102, 97, 108, 115, 101] from rfl, impl_reader_value.b, decide_eq_false (by omega), show bo3 false true false = false from rfl, cond_false, show ByteArray.mk #[110, 117, 108, 108] = bl [110, 117, 108, 108] from rfl]
        have := reader_take_no [117, 108, 108] ([97, 108, 115, 101] ++ rest) false (show (110 : UInt8) ≠ 102 by decide)
        rw [show (102 : UInt8) :: ([97, 108, 115, 101] ++ rest) = [102, 97, 108, 115, 101] ++ rest from rfl] at this
        rw [this, bd, cond_false, show ByteArray.mk #[102, 97, 108, 115, 101] = bl [102, 97, 108, 115, 101] from rfl, reader_take_yes, bd]
        rfl
      · rw [show encF (d + 1) ⟨1, 1, ByteArray.empty, [], []⟩ = [116, 114, 117, 101] from rfl, impl_reader_value.b, decide_eq_false (by omega), show bo3 false true false = false from rfl, cond_false, show ByteArray.mk #[110, 117, 108, 108] = bl [110, 117, 108, 108] from rfl]
        have t1 := reader_take_no [117, 108, 108] ([114, 117, 101] ++ rest) false (show (110 : UInt8) ≠ 116 by decide)
        have t2 := reader_take_no [97, 108, 115, 101] ([114, 117, 101] ++ rest) false (show (102 : UInt8) ≠ 116 by decide)
        rw [show (116 : UInt8) :: ([114, 117, 101] ++ rest) = [116, 114, 117, 101] ++ rest from rfl] at t1 t2
        rw [t1, bd, cond_false, show ByteArray.mk #[102, 97, 108, 115, 101] = bl [102, 97, 108, 115, 101] from rfl, t2, bd, cond_false, show ByteArray.mk #[116, 114, 117, 101] = bl [116, 114, 117, 101] from rfl, reader_take_yes, bd]
        rfl
    · have e0 : encF (d + 1) ⟨2, n, ByteArray.empty, [], []⟩ = Lib.itoa n := rfl
      rw [e0] at hlen ⊢
      have hp := itoa_pos n
      have hnum := reader_number_right hn rest hr (by omega)
      cases hi : Lib.itoa n with
      | nil => rw [hi] at hp; simp at hp
      | cons c r =>
        have hm := itoa_mem (n := n) (c := c) (by rw [hi]; simp)
        have ne : ∀ x : UInt8, x.toNat ≠ 45 → ¬ (48 ≤ x.toNat ∧ x.toNat ≤ 57) → c ≠ x := by rintro x h h' rfl; rcases hm with hm | hm; exact h hm; exact h' hm
        rw [hi] at hnum
        rw [List.cons_append] at hnum ⊢
        rw [val_start _ _ (by omega) c _ (ne 110 (by decide) (by decide)) (ne 102 (by decide) (by decide)) (ne 116 (by decide) (by decide)) (ne 34 (by decide) (by decide)), reader_take_no [] _ false (fun e => ne 91 (by decide) (by decide) e.symm), bd, cond_false, reader_take_no [] _ false (fun e => ne 123 (by decide) (by decide) e.symm), bd, cond_false, hnum, bd]
    · have e0 : encF (d + 1) ⟨3, 0, s, [], []⟩ = quoteL s.data.toList := rfl
      rw [e0] at hlen ⊢
      have hq := reader_quoted_right s.data.toList rest (by have := txt_len hs; omega)
      have ec : quoteL s.data.toList ++ rest = 34 :: ((s.data.toList.flatMap escC ++ [34]) ++ rest) := rfl
      rw [ec] at hq ⊢
      rw [impl_reader_value.b, decide_eq_false (by omega), show bo3 false true false = false from rfl, cond_false, show ByteArray.mk #[110, 117, 108, 108] = bl [110, 117, 108, 108] from rfl, reader_take_no _ _ false (show (110 : UInt8) ≠ 34 by decide), bd, cond_false, show ByteArray.mk #[102, 97, 108, 115, 101] = bl [102, 97, 108, 115, 101] from rfl, reader_take_no _ _ false (show (102 : UInt8) ≠ 34 by decide), bd, cond_false, show ByteArray.mk #[116, 114, 117, 101] = bl [116, 114, 117, 101] from rfl, reader_take_no _ _ false (show (116 : UInt8) ≠ 34 by decide), bd, cond_false]
      dsimp only
      rw [show ByteArray.mk #[34] = bl [34] from rfl, strings_HasPrefix_eq, bd, show ([34] : List UInt8).isPrefixOf (34 :: ((s.data.toList.flatMap escC ++ [34]) ++ rest)) = true from pre_app [34] _, cond_true, hq, bd, bl_toList]
    · have e0 : encF (d + 1) ⟨4, 0, ByteArray.empty, l, []⟩ ++ rest = 91 :: (Lib.join (l.map (encF d)) [44] ++ 93 :: rest) := by
        show (91 :: (Lib.join (l.map (encF d)) [44] ++ [93])) ++ rest = _
        simp
      rw [e0] at hlen ⊢
      have ht := reader_take_yes [91] (Lib.join (l.map (encF d)) [44] ++ 93 :: rest)
      rw [show ([91] : List UInt8) ++ (Lib.join (l.map (encF d)) [44] ++ 93 :: rest) = 91 :: (Lib.join (l.map (encF d)) [44] ++ 93 :: rest) from rfl] at ht
      rw [val_start _ _ (by omega) 91 _ (by decide) (by decide) (by decide) (by decide), ht, bd, cond_true]
      unfold impl_reader_parts.f
      cases l with
      | nil =>
        have := reader_take_yes [93] rest
        rw [show ([93] : List UInt8) ++ rest = 93 :: rest from rfl] at this
        rw [show Lib.join (([] : List Json).map (encF d)) [44] ++ 93 :: rest = 93 :: rest from rfl, this]
        rfl
      | cons x l =>
        obtain ⟨c, r, ec, hc1, hc2⟩ := enc_head (g2 x (by simp))
        have eh : Lib.join ((x :: l).map (encF d)) [44] ++ 93 :: rest = c :: (r ++ Lib.joinTail [44] (l.map (encF d)) ++ 93 :: rest) := by
          rw [List.map_cons, Lib.join_cons, ec]; simp
        have hlen2 : (Lib.join ((x :: l).map (encF d)) [44] ++ 93 :: rest).length ≤ 1000000 := by simp only [List.length_cons] at hlen; omega
        have hl' : l.length + 1 ≤ 400 := hl
        have hk : l.length + 1 < (bl (Lib.join ((x :: l).map (encF d)) [44] ++ 93 :: rest)).size + 2 := by
          rw [bl_size, List.length_append]
          have : (x :: l).length ≤ (Lib.join ((x :: l).map (encF d)) [44]).length + 1 := by
            rw [List.map_cons, Lib.join_length, List.length_map]
            simp only [List.length_cons, List.length_nil]; omega
          simp only [List.length_cons] at this ⊢; omega
        rw [eh, reader_take_no [] _ false (fun e => hc1 e.symm), ← eh, bd, cond_false]
        dsimp only
        rw [joinK_eq]
        rw [parts_l0_list (impl_reader_value.g k) ((d + 1 : Nat) : Int) (encF d) _ rest l x _ [] [] hself hk (by simp; omega) hlen2]
        have := reader_want_yes [93] rest
        rw [show ([93] : List UInt8) ++ rest = 93 :: rest from rfl] at this
        rw [this]
        rfl
    · have e0 : encF (d + 1) ⟨5, 0, ByteArray.empty, l, ns⟩ ++ rest = 123 :: (Lib.join (objW (encF d) ns l) [44] ++ 125 :: rest) := by
        show (123 :: (Lib.join (objW (encF d) ns l) [44] ++ [125])) ++ rest = _
        simp
      rw [e0] at hlen ⊢
      have ht := reader_take_yes [123] (Lib.join (objW (encF d) ns l) [44] ++ 125 :: rest)
      rw [show ([123] : List UInt8) ++ (Lib.join (objW (encF d) ns l) [44] ++ 125 :: rest) = 123 :: (Lib.join (objW (encF d) ns l) [44] ++ 125 :: rest) from rfl] at ht
      rw [val_start _ _ (by omega) 123 _ (by decide) (by decide) (by decide) (by decide), reader_take_no [] _ false (show (91 : UInt8) ≠ 123 by decide), bd, cond_false, ht, bd, cond_true]
      unfold impl_reader_parts.f
      cases l with
      | nil =>
        have : ns = [] := List.length_eq_zero_iff.1 e
        subst this
        have := reader_take_yes [125] rest
        rw [show ([125] : List UInt8) ++ rest = 125 :: rest from rfl] at this
        rw [show Lib.join (objW (encF d) [] []) [44] ++ 125 :: rest = 125 :: rest from rfl, this]
        rfl
      | cons x l =>
        cases ns with
        | nil => simp at e
        | cons m ms =>
        have hms : ms.length = l.length := by simpa using e
        have eh : Lib.join (objW (encF d) (m :: ms) (x :: l)) [44] ++ 125 :: rest = 34 :: ((m.data.toList.flatMap escC ++ [34]) ++ 58 :: encF d x ++ Lib.joinTail [44] (objW (encF d) ms l) ++ 125 :: rest) := by
          show Lib.join ((quoteL m.data.toList ++ 58 :: encF d x) :: objW (encF d) ms l) [44] ++ _ = _
          rw [Lib.join_cons]; simp [quoteL]
        have hlen2 : (Lib.join (objW (encF d) (m :: ms) (x :: l)) [44] ++ 125 :: rest).length ≤ 1000000 := by simp only [List.length_cons] at hlen; omega
        have hl' : l.length + 1 ≤ 400 := hl
        have hk : l.length + 1 < (bl (Lib.join (objW (encF d) (m :: ms) (x :: l)) [44] ++ 125 :: rest)).size + 2 := by
          rw [bl_size, List.length_append]
          have : (x :: l).length ≤ (Lib.join (objW (encF d) (m :: ms) (x :: l)) [44]).length + 1 := by
            show _ ≤ (Lib.join ((quoteL m.data.toList ++ 58 :: encF d x) :: objW (encF d) ms l) [44]).length + 1
            rw [Lib.join_length, objW_len _ _ _ hms]
            simp only [List.length_cons, List.length_nil]; omega
          simp only [List.length_cons] at this ⊢; omega
        rw [eh, reader_take_no [] _ false (show (125 : UInt8) ≠ 34 by decide), ← eh, bd, cond_false]
        dsimp only
        rw [joinK_eq]
        rw [parts_l0_obj (impl_reader_value.g k) ((d + 1 : Nat) : Int) (encF d) _ rest l ms x m _ [] [] hms hself hk (by simp; omega) rfl (fun n h => txt_len (names_txt hn n h)) hlen2]
        have := reader_want_yes [125] rest
        rw [show ([125] : List UInt8) ++ rest = 125 :: rest from rfl] at this
        rw [this]
        rfl

theorem reader_take_nil (b : Bool) (a : UInt8) (w : List UInt8) : impl_reader_take.f ⟨bl [], b⟩ (bl (a :: w)) = some (⟨bl [], b⟩, false) := by
  rw [reader_take_eq, if_neg (by rw [pre_nil]; simp)]
theorem value_nil (k : Nat) : impl_reader_value.g (k + 1) ⟨bl [], false⟩ 6 = some (⟨bl [], true⟩, ⟨2, 0, ByteArray.empty, [], []⟩) := by
  rw [impl_reader_value.g, impl_reader_value.b, show bo3 (decide ((6 : Int) < 1)) true false = false from rfl, cond_false, show ByteArray.mk #[110, 117, 108, 108] = bl [110, 117, 108, 108] from rfl, reader_take_nil, bd, cond_false, show ByteArray.mk #[102, 97, 108, 115, 101] = bl [102, 97, 108, 115, 101] from rfl, reader_take_nil, bd, cond_false, show ByteArray.mk #[116, 114, 117, 101] = bl [116, 114, 117, 101] from rfl, reader_take_nil, bd, cond_false]
  dsimp only
  rw [show ByteArray.mk #[34] = bl [34] from rfl, strings_HasPrefix_eq, bd, pre_nil, cond_false, show ByteArray.mk #[91] = bl [91] from rfl, reader_take_nil, bd, cond_false, show ByteArray.mk #[123] = bl [123] from rfl, reader_take_nil, bd, cond_false]
  have : impl_reader_number.f ⟨bl [], false⟩ = some (⟨bl [], true⟩, ⟨2, 0, ByteArray.empty, [], []⟩) := by
    unfold impl_reader_number.f
    rw [joinK_eq, sl_bl]
    refine (rn_right [] false (by simp) _ 0 (Nat.le_refl _) (fun i h => by omega) rfl _ 0 (Nat.le_refl _) (by simp)).trans ?_
    have ha : strconv_Atoi.f (Ls.ss (bl []) 0 ((0 : Nat) : Int)) = some (0, false) := by
      rw [show (0 : Int) = ((0 : Nat) : Int) from rfl, ss_bl]
      exact atoiO_bl (by simp)
    have hc : cutS (bl []) 0 ((0 : Nat) : Int) = some () := cutS_bl (Nat.le_refl _) (Nat.le_refl _)
    have hs : Ls.ss (bl []) ((0 : Nat) : Int) (([] : List UInt8).length : Int) = bl [] := by rw [ss_bl]; rfl
    have hc2 : cutS (bl []) ((0 : Nat) : Int) (([] : List UInt8).length : Int) = some () := hc
    rw [hc, bd, ha, bd, hc2, hs]
    rfl
  rw [this, bd]
theorem impl_Decode_eq (t : List UInt8) : impl_Decode.f (bl t) = some (decF t) := by
  unfold impl_Decode.f
  rw [sl_bl]
  by_cases hl : t.length ≤ 6000
  · rw [decide_eq_false (by omega), cond_false]
    unfold impl_reader_value.f
    by_cases h : ∃ j, jsonB j = true ∧ encF 6 j = t ∧ t.length ≤ 6000
    · obtain ⟨j, e, hj, rfl, _⟩ := decF_yes h
      have hsz : sizeF 6 j ≤ 400 := by unfold jsonB at hj; exact of_decide_eq_true hj
      have hv := value_right 20 6 j (by omega) (by omega) hsz [] (fun c hc => by cases hc) (by rw [List.append_nil]; omega)
      rw [List.append_nil] at hv
      rw [show (6 : Int) = ((6 : Nat) : Int) from rfl, hv, bd, e]
      dsimp only
      rw [show bo3 false false true = true from rfl, gd_true, impl_Encode_eq j (jsonB_Jw hj), bd, show encL j = encF 6 j from if_pos ⟨hj, hl⟩, str_ne, decide_eq_true rfl]
      rfl
    · rw [decF_no h]
      by_cases h0 : t = []
      · subst h0
        rw [value_nil 19, bd]
        rfl
      · obtain ⟨s', b', j, e, _, hw⟩ := value_tot 20 6 (by omega) (by omega) t false (by omega)
        rw [show (6 : Int) = ((6 : Nat) : Int) from rfl, e, bd]
        dsimp only
        cases b' with
        | true => rfl
        | false =>
          rw [show bo3 false false true = true from rfl, gd_true, impl_Encode_eq j hw, bd, str_ne, decide_eq_false ?_]
          · rfl
          · unfold encL
            split
            · rename_i hh; exact fun e => h ⟨j, hh.1, e, hl⟩
            · exact fun e => h0 e.symm
  · rw [decide_eq_true (by omega), cond_true, decF_no (fun ⟨j, _, _, h⟩ => hl h)]
    rfl

theorem laws_eqJsonS_self (self : Json → Json → Option Bool) (a b : List Json) (ha : (a.length : Int) ≤ 9223372036854775807) (h : ∀ x ∈ a, ∀ y, self x y = some (decide (x = y))) : laws_eqJsonS.f self a b = some (decide (a = b)) := by
  unfold laws_eqJsonS.f
  by_cases hl : a.length = b.length
  · rw [decide_eq_false (by simp only [lenI_eq]; omega), cond_false]
    refine (loop_eq (f := laws_eqJsonS.l0 a b self) hl (some false) (some true) (fun k i x y hx hy => ?_) (fun k i hi => ?_) _ (by simp only [lenI_eq]; omega)).trans ?_
    · have hi := at_lt hx
      rw [laws_eqJsonS.l0, lenI_eq, decide_eq_true (by omega), cond_true, getO_nat, hx, Option.bind_some, getO_nat, hy, Option.bind_some, h x (List.mem_of_getElem? hx), Option.bind_some, bo3_not, w64_succ (by omega)]
      by_cases c : x = y
      · simp [c]
      · simp [c]
    · rw [laws_eqJsonS.l0, lenI_eq, decide_eq_false (by omega), cond_false]
    · cases decide (a = b) <;> rfl
  · rw [decide_eq_true (by simp only [lenI_eq]; omega), cond_true, decide_eq_false (fun e => hl (by rw [e]))]

theorem laws_eqStringS_eq' (a b : List ByteArray) (ha : (a.length : Int) ≤ 9223372036854775807) : laws_eqStringS.f a b = some (decide (a = b)) := by
  unfold laws_eqStringS.f
  by_cases hl : a.length = b.length
  · rw [decide_eq_false (by simp only [lenI_eq]; omega), cond_false]
    refine (loop_eq (f := laws_eqStringS.l0 a b) hl (some false) (some true) (fun k i x y hx hy => ?_) (fun k i hi => ?_) _ (by simp only [lenI_eq]; omega)).trans ?_
    · have hi := at_lt hx
      rw [laws_eqStringS.l0, lenI_eq, decide_eq_true (by omega), cond_true, getO_nat, hx, Option.bind_some, getO_nat, hy, Option.bind_some, sc_neq', w64_succ (by omega)]
      by_cases c : x = y
      · simp [c]
      · simp [c]
    · rw [laws_eqStringS.l0, lenI_eq, decide_eq_false (by omega), cond_false]
    · cases decide (a = b) <;> rfl
  · rw [decide_eq_true (by simp only [lenI_eq]; omega), cond_true, decide_eq_false (fun e => hl (by rw [e]))]

theorem laws_eqJson_g : ∀ (k : Nat) (a b : Json), dpj a < k → szj a ≤ 9223372036854775807 → laws_eqJson.g k a b = some (decide (a = b)) := by
  intro k
  induction k with
  | zero => intro a b h; omega
  | succ k ih =>
    intro a b hd hs
    rw [szj_eq] at hs
    rw [dpj_eq] at hd
    have l0 := szL_len a.List_
    have l1 := szL_0 a.List_
    rw [laws_eqJson.g, laws_eqJson.b, sc_neq', laws_eqJsonS_self _ _ _ (by omega) (fun x hx y => ih x y (by have := dpL_mem hx; omega) (by have := szL_mem hx; omega)), laws_eqStringS_eq' _ _ (by omega)]
    have key : decide (a = b) = (decide (a.Kind = b.Kind) && (decide (a.N = b.N) && (decide (a.S = b.S) && (decide (a.List_ = b.List_) && decide (a.Names = b.Names))))) := by
      have : a = b ↔ (a.Kind = b.Kind ∧ a.N = b.N ∧ a.S = b.S ∧ a.List_ = b.List_ ∧ a.Names = b.Names) := by
        cases a; cases b; simp
      simp only [this, Bool.decide_and]
    rw [key]
    by_cases c1 : a.Kind = b.Kind <;> by_cases c2 : a.N = b.N <;> by_cases c3 : a.S = b.S <;> by_cases c4 : a.List_ = b.List_ <;> by_cases c5 : a.Names = b.Names <;> simp [c1, c2, c3, c4, c5, bo3]
theorem laws_eqJson_eq (a b : Json) (ha : Json_b a) (hb : Json_b b) : laws_eqJson.f a b = some (decide (a = b)) := by
  obtain ⟨h1, h2⟩ := sz_Json_d (x := a) (by unfold Json_b at ha; omega)
  unfold Json_b at ha
  exact laws_eqJson_g 1000 a b (by omega) (by omega)

theorem sa_size (x y : ByteArray) : (Ls.sa x y).size = x.size + y.size := by show (x ++ y).size = _; simp
theorem markText_l0 : ∀ (k : Nat) (z : Int) (s : ByteArray), 0 ≤ z → z.toNat < k → (s.size : Int) + z ≤ 9223372036854775800 → ∃ r, laws_markText.l0 k z s = some r := by
  intro k
  induction k with
  | zero => intro z s h h'; omega
  | succ k ih =>
    intro z s h0 hk hs
    rw [laws_markText.l0]
    by_cases c : 0 < z
    · rw [decide_eq_true c, cond_true, Option.bind_some, Option.bind_some]
      have hb : (bsO [IntKind.wrap .u8 (w64 (48 + Int.tmod z 10))]).size = 1 := rfl
      have hd : Int.tdiv z 10 = z / 10 := Int.tdiv_eq_ediv_of_nonneg h0
      rw [show smO (bsO [IntKind.wrap .u8 (w64 (48 + Int.tmod z 10))]) s = some () by unfold smO; rw [if_pos (by rw [hb]; omega)], Option.bind_some, hd, w64_id (by omega)]
      exact ih (z / 10) _ (by omega) (by omega) (by rw [sa_size, hb]; omega)
    · have hb : (ByteArray.mk #[109]).size = 1 := rfl
      rw [decide_eq_false c, cond_false, show smO (ByteArray.mk #[109]) s = some () by unfold smO; rw [if_pos (by rw [hb]; omega)], Option.bind_some]
      exact ⟨_, rfl⟩
theorem markText_ok (k : Int) (h : 0 ≤ k ∧ k ≤ 4611686018427387999) : ∃ r, laws_markText.f k = some r := by
  unfold laws_markText.f
  by_cases c : k ≤ 0
  · rw [decide_eq_true c, cond_true]; exact ⟨_, rfl⟩
  · rw [decide_eq_false c, cond_false]
    exact markText_l0 _ k _ (by omega) (by omega) (by show ((0 : Nat) : Int) + k ≤ _; omega)

def Hd_Str (x : ByteArray) (q q' : Int) : Prop := laws_markText.f q = some x ∧ q' = q + 1
theorem mark_StrS (l : List ByteArray) (q : Int) (hq : 0 ≤ q) (hB : q + 16 * (l.length : Int) ≤ 4611686018427387904) : ∃ l' q', laws_markStringS.f l q = some (l', q') ∧ laws_heldStringS.f l' q = some q' ∧ q ≤ q' ∧ q' ≤ q + 16 * (l.length : Int) := by
  have step : ∀ k (i : Nat) (s : List ByteArray) (x : ByteArray) (q : Int), s.length = l.length → s[i]? = some x → 0 ≤ q → q + 16 ≤ 4611686018427387904 → ∃ x' q', laws_markStringS.l0 (k + 1) s q i = laws_markStringS.l0 k (s.set i x') q' ((i + 1 : Nat) : Int) ∧ q ≤ q' ∧ q' ≤ q + 16 ∧ Hd_Str x' q q' := by
    intro k i s x q hn hx hq hB
    have hi := at_lt hx
    obtain ⟨r, hr⟩ := markText_ok q (by omega)
    refine ⟨r, q + 1, ?_, by omega, by omega, hr, rfl⟩
    rw [laws_markStringS.l0, lenI_eq, decide_eq_true (by omega), cond_true, hr, Option.bind_some, getO_nat, hx, Option.bind_some, Option.bind_some, w64_id (by omega), w64_succ (by omega), setI_nat]
  have last : ∀ k (s : List ByteArray) (q : Int) (i : Nat), i = s.length → laws_markStringS.l0 (k + 1) s q i = some (s, q) := by
    intro k s q i hi
    rw [laws_markStringS.l0, lenI_eq, decide_eq_false (by omega), cond_false]
  have es : ∀ m : List ByteArray, (m.map fun _ => (16 : Int)).sum = 16 * (m.length : Int) := fun m => by
    induction m with
    | nil => rfl
    | cons x m ih => rw [List.map_cons, List.sum_cons, ih]; simp only [List.length_cons]; omega
  obtain ⟨l', q', m, hl, _, lo, hi, hd⟩ := loop_mark (fm := laws_markStringS.l0) l.length 4611686018427387904 (fun _ => 16) Hd_Str (fun _ => by omega) step last (((lenI l) - 0).toNat + 1) 0 l q rfl (by omega) (by simp only [lenI_eq]; omega) hq (by rw [List.drop_zero, es]; omega)
  rw [List.drop_zero] at hd hi
  rw [es] at hi
  refine ⟨l', q', m, ?_, lo, hi⟩
  unfold laws_heldStringS.f
  refine loop_held (fh := laws_heldStringS.l0 l') (l := l') Hd_Str (fun x q q' h => by have := h.2; omega) (fun k i x q q' hx hd hq hB => ?_) (fun k q i hi => ?_) _ 0 q q' (by omega) (by simp only [lenI_eq]; omega) hq (by omega) (by rw [List.drop_zero]; exact hd)
  · have hi := at_lt hx
    obtain ⟨h1, rfl⟩ := hd
    rw [laws_heldStringS.l0, lenI_eq, decide_eq_true (by omega), cond_true, getO_nat, hx, Option.bind_some, h1, Option.bind_some, sc_neq', decide_eq_false (by simp), cond_false, w64_id (by omega), w64_succ (by omega)]
  · rw [laws_heldStringS.l0, lenI_eq, decide_eq_false (by omega), cond_false]

def Hd_Json (H : List Json → Int → Option Int) (x : Json) (q q' : Int) : Prop := x.Kind = q ∧ x.N = q + 1 ∧ laws_markText.f (q + 2) = some x.S ∧ ∃ q1, q + 3 ≤ q1 ∧ H x.List_ (q + 3) = some q1 ∧ laws_heldStringS.f x.Names q1 = some q' ∧ q1 ≤ q'
theorem mark_JsonS_g : ∀ (k : Nat) (l : List Json) (q : Int), dpL l < k → 0 ≤ q → q + 16 * szL l ≤ 4611686018427387904 → ∃ l' q', laws_markJsonS.g k l q = some (l', q') ∧ laws_heldJsonS.g k l' q = some q' ∧ q ≤ q' ∧ q' ≤ q + 16 * szL l := by
  intro k
  induction k with
  | zero => intro l q h; omega
  | succ n ih =>
    intro l q hd hq hB
    have hlen := szL_len l
    have step : ∀ k (i : Nat) (s : List Json) (x : Json) (q : Int), s.length = l.length → s[i]? = some x → 0 ≤ q → q + (fun x => 16 * (1 + szj x) + (if dpj x < n + 1 then 0 else 4611686018427387905)) x ≤ 4611686018427387904 → ∃ x' q', laws_markJsonS.l0 (laws_markJsonS.g n) (k + 1) s q i = laws_markJsonS.l0 (laws_markJsonS.g n) k (s.set i x') q' ((i + 1 : Nat) : Int) ∧ q ≤ q' ∧ q' ≤ q + (fun x => 16 * (1 + szj x) + (if dpj x < n + 1 then 0 else 4611686018427387905)) x ∧ Hd_Json (laws_heldJsonS.g n) x' q q' := by
      intro k i s x q hn hx hq hB
      have hi := at_lt hx
      have z0 := szj_0 x
      dsimp only at hB ⊢
      have hdx : dpj x < n + 1 := by
        by_cases c : dpj x < n + 1
        · exact c
        · rw [if_neg c] at hB; omega
      rw [if_pos hdx] at hB ⊢
      rw [dpj_eq] at hdx
      have ze := szj_eq x
      have zl := szL_0 x.List_
      obtain ⟨r, hr⟩ := markText_ok (q + 2) (by omega)
      obtain ⟨l1, q1, m1, d1, a1, b1⟩ := ih x.List_ (q + 3) (by omega) (by omega) (by omega)
      obtain ⟨l2, q2, m2, d2, a2, b2⟩ := mark_StrS x.Names q1 (by omega) (by omega)
      refine ⟨⟨q, q + 1, r, l1, l2⟩, q2, ?_, by omega, by omega, rfl, rfl, hr, q1, a1, d1, d2, a2⟩
      have g0 : getO s i = some x := by rw [getO_nat, hx]
      have w1 : w64 (q + 1) = q + 1 := w64_id (by omega)
      have w2 : w64 (q + 1 + 1) = q + 2 := by rw [w64_id (by omega)]; omega
      have w3 : w64 (q + 2 + 1) = q + 3 := by rw [w64_id (by omega)]; omega
      rw [laws_markJsonS.l0, lenI_eq, decide_eq_true (by omega), cond_true]
      simp only [g0, get_set g0, setI_setI, Option.bind_some, w1, w2, w3, hr, m1, m2]
      rw [w64_succ (by omega), setI_nat]
    have last : ∀ k (s : List Json) (q : Int) (i : Nat), i = s.length → laws_markJsonS.l0 (laws_markJsonS.g n) (k + 1) s q i = some (s, q) := by
      intro k s q i hi
      rw [laws_markJsonS.l0, lenI_eq, decide_eq_false (by omega), cond_false]
    have es : ∀ m : List Json, dpL m < n + 1 → (m.map fun x => 16 * (1 + szj x) + (if dpj x < n + 1 then (0 : Int) else 4611686018427387905)).sum = 16 * szL m := fun m hm => by
      induction m with
      | nil => simp [szL]
      | cons x m ih =>
        rw [dpL] at hm
        rw [List.map_cons, List.sum_cons, ih (by omega), szL, if_pos (by omega)]; omega
    obtain ⟨l', q', m, hl, _, lo, hi, hdd⟩ := loop_mark (fm := laws_markJsonS.l0 (laws_markJsonS.g n)) l.length 4611686018427387904 (fun x => 16 * (1 + szj x) + (if dpj x < n + 1 then 0 else 4611686018427387905)) (Hd_Json (laws_heldJsonS.g n)) (fun x => by have := szj_0 x; split <;> omega) step last (((lenI l) - 0).toNat + 1) 0 l q rfl (by omega) (by simp only [lenI_eq]; omega) hq (by rw [List.drop_zero, es l (by omega)]; omega)
    rw [List.drop_zero] at hdd hi
    rw [es l (by omega)] at hi
    refine ⟨l', q', by rw [laws_markJsonS.g, laws_markJsonS.b]; exact m, ?_, lo, hi⟩
    rw [laws_heldJsonS.g, laws_heldJsonS.b]
    refine loop_held (fh := laws_heldJsonS.l0 l' (laws_heldJsonS.g n)) (l := l') (Hd_Json (laws_heldJsonS.g n)) (fun x q q' h => by obtain ⟨_, _, _, q1, h1, _, _, h2⟩ := h; omega) (fun k i x q q' hx hd hq hB => ?_) (fun k q i hi => ?_) _ 0 q q' (by omega) (by simp only [lenI_eq]; omega) hq (by omega) (by rw [List.drop_zero]; exact hdd)
    · have hi := at_lt hx
      obtain ⟨e1, e2, e3, q1, e4, e5, e6, e7⟩ := hd
      have w1 : w64 (q + 1) = q + 1 := w64_id (by omega)
      have w2 : w64 (q + 1 + 1) = q + 2 := by rw [w64_id (by omega)]; omega
      have w3 : w64 (q + 2 + 1) = q + 3 := by rw [w64_id (by omega)]; omega
      rw [laws_heldJsonS.l0, lenI_eq, decide_eq_true (by omega), cond_true, getO_nat, hx, Option.bind_some, w1, w2, w3, e1, e2, e3]
      rw [decide_eq_false (by simp), cond_false, decide_eq_false (by simp), cond_false, Option.bind_some, sc_neq', decide_eq_false (by simp), cond_false, e5, Option.bind_some, decide_eq_false (by omega), cond_false, e6, Option.bind_some, decide_eq_false (by omega), cond_false, w64_succ (by omega)]
    · rw [laws_heldJsonS.l0, lenI_eq, decide_eq_false (by omega), cond_false]
theorem mark_Json (x : Json) (q : Int) (hq : 0 ≤ q) (hB : q + 16 * sz_Json x ≤ 4611686018427387904) : ∃ s0 s1 q', laws_markJson.f x q = some ((Json.mk x.Kind x.N x.S s0 s1), q') ∧ laws_heldJson.f (Json.mk x.Kind x.N x.S s0 s1) q = some q' ∧ q ≤ q' ∧ q' ≤ q + 16 * sz_Json x := by
  obtain ⟨h1, h2⟩ := sz_Json_d (x := x) (by omega)
  rw [← h2] at hB ⊢
  rw [dpj_eq] at h1
  have ze := szj_eq x
  have zl := szL_0 x.List_
  obtain ⟨l1, q1, m1, d1, a1, b1⟩ := mark_JsonS_g 1000 x.List_ q (by omega) hq (by omega)
  obtain ⟨l2, q2, m2, d2, a2, b2⟩ := mark_StrS x.Names q1 (by omega) (by omega)
  refine ⟨l1, l2, q2, ?_, ?_, by omega, by omega⟩
  · unfold laws_markJson.f laws_markJsonS.f
    rw [m1, Option.bind_some, m2, Option.bind_some]
  · unfold laws_heldJson.f laws_heldJsonS.f
    rw [d1, Option.bind_some, decide_eq_false (by omega), cond_false, d2, Option.bind_some, decide_eq_false (by omega), cond_false]


theorem laws_FnExactDecode_pure (a0 : ByteArray) (b0 : a0.size ≤ 9223372036854775807) : laws_FnExactDecode.f a0 = some true := by
  unfold laws_FnExactDecode.f
  obtain ⟨t, rfl⟩ := bl_ex a0
  rw [sl_bl]
  by_cases ct : 1048576 < (t.length : Int)
  · rw [decide_eq_true ct]; rfl
  rw [decide_eq_false ct, cond_false]
  have hs := spec_Decode_eq t
  have hi := impl_Decode_eq t
  obtain ⟨bv0, zv0⟩ := decF_small t
  generalize decF t = v at *
  obtain ⟨v0, v1⟩ := v
  dsimp only at bv0 zv0
  have ev0 : laws_eqJson.f v0 v0 = some true := by rw [laws_eqJson_eq _ _ bv0 bv0, decide_eq_true rfl]
  have pv0 := sz_Json_0 v0
  obtain ⟨gw0_0, gw0_1, w0, mw0, dw0, low0, hiw0⟩ := mark_Json v0 1 (by omega) (by omega)
  have nw0 : ¬ w0 < 0 := by omega
  simp only [ev0, mw0, dw0, nw0, hs, hi, Option.bind_some, bo3_self, bo3_F, bo3_T, gd_true, cond_false, ne_eq, not_true_eq_false, decide_false]

end Go.Proofs.YtcpekllcbimpmaaDoor.L
