/- What the pure functions give. -/
import Derived.Test.YtkpoiinkmodlnaaPv0
import Derived.Test.YtkpoiinkmodlnaaFxKidPutU
namespace Go.Proofs.Ytkpoiinkmodlnaa.L
open Go
set_option linter.unusedVariables false
set_option linter.unusedSimpArgs false
def Kid_r (x : Kid) : Prop := (-9223372036854775808 ≤ x.Id ∧ x.Id ≤ 9223372036854775807) ∧ (-9223372036854775808 ≤ x.N ∧ x.N ≤ 9223372036854775807)
def sz_KidS (l : List Kid) : Int := l.length
def KidS_b (l : List Kid) : Prop := l.length ≤ 9223372036854775807
theorem sz_KidS_0 (l : List Kid) : 0 ≤ sz_KidS l := by unfold sz_KidS; omega
def KidS_r (l : List Kid) : Prop := ∀ x ∈ l, Kid_r x
theorem laws_szKidS_eq (a : List Kid) (n : Int) (hn : 0 ≤ n ∧ n ≤ 1048576) (hb : KidS_b a) : laws_szKidS.f a n = some (if n < sz_KidS a then -1 else n - sz_KidS a) := by
  unfold laws_szKidS.f sz_KidS
  unfold KidS_b at hb
  rw [lenI_eq, w64_id (by omega)]
  by_cases c : n < (a.length : Int)
  · rw [if_pos c, decide_eq_true (by omega), cond_true]
  · rw [if_neg c, decide_eq_false (by omega), cond_false]
def isKid (id : Int) (k : Kid) : Bool := decide (id ≤ k.Id)
def kidPutF (l : List Kid) (id by_ : Int) : List Kid :=
  match l[l.findIdx (isKid id)]? with
  | some k => if k.Id = id then (if 0 < w64 (k.N + by_) then l.set (l.findIdx (isKid id)) ⟨id, w64 (k.N + by_)⟩ else l.eraseIdx (l.findIdx (isKid id)))
    else (if 0 < by_ then l.take (l.findIdx (isKid id)) ++ [⟨id, by_⟩] ++ l.drop (l.findIdx (isKid id)) else l)
  | none => if 0 < by_ then l ++ [⟨id, by_⟩] else l
def kidMid (l : List Kid) (id by_ : Int) : List Kid :=
  match l[l.findIdx (isKid id)]? with
  | some k => if k.Id = id then (if 0 < w64 (k.N + by_) then l.set (l.findIdx (isKid id)) ⟨id, w64 (k.N + by_)⟩ else l.eraseIdx (l.findIdx (isKid id)))
    else (if 0 < by_ then l.take (l.findIdx (isKid id)) ++ [⟨id, by_⟩] ++ l.drop (l.findIdx (isKid id)) else l)
  | none => l
theorem kid_mid {l : List Kid} {id by_ : Int} (h : l.findIdx (isKid id) < l.length) : kidMid l id by_ = kidPutF l id by_ := by
  unfold kidMid kidPutF
  rw [List.getElem?_eq_getElem h]
theorem kidPut_len (l : List Kid) (id by_ : Int) : (kidPutF l id by_).length ≤ l.length + 1 := by
  unfold kidPutF
  split
  · split
    · split
      · rw [List.length_set]; omega
      · rw [List.length_eraseIdx]; split <;> omega
    · split
      · simp; omega
      · omega
  · split
    · simp
    · omega
theorem findIdx_takeA {α : Type} (p : α → Bool) (l : List α) {i : Nat} {x : α} (hx : l[i]? = some x) (hn : ¬ (l.take i).findIdx p < i) : (p x = true → l.findIdx p = i) ∧ (p x = false → ¬ (l.take (i + 1)).findIdx p < i + 1) := by
  have hi := at_lt hx
  have hl : (l.take i).length = i := by rw [List.length_take]; omega
  constructor
  · intro hp
    have e : l = l.take i ++ x :: l.drop (i + 1) := by
      conv => lhs; rw [← List.take_append_drop i l, List.drop_eq_getElem_cons hi]
      rw [List.getElem?_eq_getElem hi] at hx
      rw [Option.some.inj hx]
    rw [e, List.findIdx_append, hl, if_neg hn, List.findIdx_cons, hp]
    simp
  · intro hp
    rw [take_snoc hx, List.findIdx_append, hl, if_neg hn, List.findIdx_cons, hp]
    simp
    omega

theorem spec_KidPut_2 (l : List Kid) (id by_ : Int) (K : List Kid → Bool → Option (List Kid)) : ∀ (k i : Nat) (acc : List Kid), i ≤ l.length → l.length < i + k → (acc.length : Int) + (l.length - i : Nat) ≤ 1099511627777 → (l.length : Int) ≤ 1099511627776 →
    spec_KidPut.l0 l id by_ K k acc true i = K (acc ++ l.drop i) true := by
  intro k
  induction k with
  | zero => intro i acc h h'; omega
  | succ k ih =>
    intro i acc h h' hz hl
    by_cases hi : i < l.length
    · have hx : l[i]? = some l[i] := List.getElem?_eq_getElem hi
      rw [spec_KidPut.l0, lenI_eq, decide_eq_true (by omega), cond_true, getO_nat, hx, Option.bind_some, bo3_T, bo3_F, cond_false, Option.bind_some, appO_ok (by simp only [List.length_cons, List.length_nil]; omega), Option.bind_some, w64_succ (by omega), ih (i + 1) _ (by omega) (by omega) (by simp only [List.length_append, List.length_cons, List.length_nil]; omega) hl, List.drop_eq_getElem_cons hi]
      simp
    · rw [spec_KidPut.l0, lenI_eq, decide_eq_false (by omega), cond_false, List.drop_eq_nil_of_le (by omega), List.append_nil]
theorem spec_KidPut_3 (l : List Kid) (id by_ : Int) (K : List Kid → Bool → Option (List Kid)) (hl : (l.length : Int) ≤ 1099511627776) (k i : Nat) (x : Kid) (hx : l[i]? = some x) (hp : id ≤ x.Id) (h' : l.length < i + (k + 1)) (hf : l.findIdx (isKid id) = i) :
    spec_KidPut.l0 l id by_ K (k + 1) (l.take i) false i = K (kidMid l id by_) true := by
  have hi := at_lt hx
  have ht : (l.take i).length = i := by rw [List.length_take]; omega
  have hdr : l.drop i = x :: l.drop (i + 1) := by
    rw [List.drop_eq_getElem_cons hi]
    rw [List.getElem?_eq_getElem hi] at hx
    rw [Option.some.inj hx]
  have hm : kidMid l id by_ = if x.Id = id then (if 0 < w64 (x.N + by_) then l.set i ⟨id, w64 (x.N + by_)⟩ else l.eraseIdx i) else (if 0 < by_ then l.take i ++ [⟨id, by_⟩] ++ l.drop i else l) := by
    unfold kidMid
    rw [hf, hx]
  rw [hm, spec_KidPut.l0, lenI_eq, decide_eq_true (by omega), cond_true, getO_nat, hx, Option.bind_some, w64_succ (by omega), decide_eq_true hp, bo3_F, bo3_T, cond_true]
  simp only [joinK]
  by_cases e : x.Id = id
  · rw [if_pos e, decide_eq_true e, cond_true]
    by_cases n0 : 0 < w64 (x.N + by_)
    · rw [if_pos n0, decide_eq_true n0, cond_true, Option.bind_some, appO_ok (by simp only [ht, List.length_cons, List.length_nil]; omega), Option.bind_some, cond_true, spec_KidPut_2 l id by_ _ k (i + 1) _ (by omega) (by omega) (by simp only [List.length_append, ht, List.length_cons, List.length_nil]; omega) hl, List.set_eq_take_append_cons_drop, if_pos hi, List.append_assoc]
      rfl
    · rw [if_neg n0, decide_eq_false n0, cond_false, cond_true, spec_KidPut_2 l id by_ _ k (i + 1) _ (by omega) (by omega) (by simp only [ht]; omega) hl, List.eraseIdx_eq_take_drop_succ]
  · rw [if_neg e, decide_eq_false e, cond_false]
    by_cases n0 : 0 < by_
    · rw [if_pos n0, decide_eq_true n0, cond_true, Option.bind_some, appO_ok (by simp only [ht, List.length_cons, List.length_nil]; omega), Option.bind_some, cond_false, Option.bind_some, appO_ok (by simp only [List.length_append, ht, List.length_cons, List.length_nil]; omega), Option.bind_some, spec_KidPut_2 l id by_ _ k (i + 1) _ (by omega) (by omega) (by simp only [List.length_append, ht, List.length_cons, List.length_nil]; omega) hl, hdr, List.append_assoc]
      rfl
    · rw [if_neg n0, decide_eq_false n0, cond_false, cond_false, Option.bind_some, appO_ok (by simp only [ht, List.length_cons, List.length_nil]; omega), Option.bind_some, spec_KidPut_2 l id by_ _ k (i + 1) _ (by omega) (by omega) (by simp only [List.length_append, ht, List.length_cons, List.length_nil]; omega) hl, List.append_assoc, List.singleton_append, ← hdr, List.take_append_drop]
theorem spec_KidPut_1 (l : List Kid) (id by_ : Int) (K : List Kid → Bool → Option (List Kid)) (hl : (l.length : Int) ≤ 1099511627776) : ∀ (k i : Nat), i ≤ l.length → l.length < i + k → ¬ (l.take i).findIdx (isKid id) < i →
    spec_KidPut.l0 l id by_ K k (l.take i) false i = if l.findIdx (isKid id) < l.length then K (kidMid l id by_) true else K l false := by
  intro k
  induction k with
  | zero => intro i h h'; omega
  | succ k ih =>
    intro i h h' hn
    by_cases hi : i < l.length
    · obtain ⟨x, hx⟩ : ∃ x, l[i]? = some x := ⟨_, List.getElem?_eq_getElem hi⟩
      have ht : (l.take i).length = i := by rw [List.length_take]; omega
      obtain ⟨f1, f2⟩ := findIdx_takeA (isKid id) l hx hn
      by_cases hp : id ≤ x.Id
      · have hf := f1 (decide_eq_true hp)
        rw [if_pos (by omega)]
        exact spec_KidPut_3 l id by_ K hl k i x hx hp h' hf
      · have := f2 (decide_eq_false hp)
        rw [spec_KidPut.l0, lenI_eq, decide_eq_true (by omega), cond_true, getO_nat, hx, Option.bind_some, w64_succ (by omega), decide_eq_false hp, bo3_F, bo3_T, cond_false, Option.bind_some, appO_ok (by simp only [ht, List.length_cons, List.length_nil]; omega), Option.bind_some, ← take_snoc hx]
        exact ih (i + 1) (by omega) (by omega) this
    · rw [List.take_of_length_le (by omega)] at hn ⊢
      rw [spec_KidPut.l0, lenI_eq, decide_eq_false (by omega), cond_false, if_neg (by omega)]
theorem spec_KidPut_eq (l : List Kid) (id by_ : Int) (h : (l.length : Int) ≤ 1099511627776) : spec_KidPut.f l id by_ = some (kidPutF l id by_) := by
  unfold spec_KidPut.f
  simp only [joinK]
  have hle := List.findIdx_le_length (xs := l) (p := isKid id)
  refine (spec_KidPut_1 l id by_ _ h (((lenI l) - 0).toNat + 1) 0 (by omega) (by rw [lenI_eq]; omega) (by omega)).trans ?_
  by_cases c : l.findIdx (isKid id) < l.length
  · rw [if_pos c, kid_mid c]
    rfl
  · rw [if_neg c, bo3_F, bo3_T]
    unfold kidPutF
    rw [List.getElem?_eq_none (by omega)]
    by_cases n0 : 0 < by_
    · rw [decide_eq_true n0, cond_true, Option.bind_some, appO_ok (by simp only [List.length_cons, List.length_nil]; omega), Option.bind_some]
      simp only [if_pos n0]
    · rw [decide_eq_false n0, cond_false]
      simp only [if_neg n0]

theorem laws_toKid_eq (a : Kid) : laws_toKid.f a = some a := rfl
theorem laws_toKidS_eq (a : List Kid) (h : sz_KidS a ≤ 1048576) : laws_toKidS.f a = some a := by
  unfold laws_toKidS.f
  unfold sz_KidS at h
  rw [lenI_eq, mkO_ok (by omega), Option.bind_some]
  refine loop_fill (f := laws_toKidS.l0 a) (l := a) some (fun k i s x y hx hy => ?_) (fun k s i hi => ?_) _ 0 _ (by omega) (by omega) (by rw [List.length_replicate]; omega) (by simp)
  · have hi := at_lt hx
    rw [laws_toKidS.l0, lenI_eq, decide_eq_true (by omega), cond_true, getO_nat, hx, Option.bind_some, laws_toKid_eq x, Option.bind_some, getO_nat, hy, Option.bind_some, Option.bind_some, setI_nat, w64_succ (by omega)]
  · rw [laws_toKidS.l0, lenI_eq, decide_eq_false (by omega), cond_false]




theorem impl_KidPut_l0 (l : List Kid) (id : Int) (K : Int → Option (List Kid)) (hl : (l.length : Int) ≤ 1099511627776) : ∀ (k i : Nat), i ≤ l.length → l.length < i + k → ¬ (l.take i).findIdx (isKid id) < i →
    impl_KidPut.l0 id l K k i = K (l.findIdx (isKid id) : Int) := by
  intro k
  induction k with
  | zero => intro i h h'; omega
  | succ k ih =>
    intro i h h' hn
    by_cases hi : i < l.length
    · have hx : l[i]? = some l[i] := List.getElem?_eq_getElem hi
      obtain ⟨f1, f2⟩ := findIdx_takeA (isKid id) l hx hn
      rw [impl_KidPut.l0, lenI_eq, decide_eq_true (by omega), gd_true, getO_nat, hx, Option.bind_some, bo3_T, w64_succ (by omega)]
      by_cases c : l[i].Id < id
      · rw [decide_eq_true c, cond_true]
        exact ih (i + 1) (by omega) (by omega) (f2 (decide_eq_false (by omega)))
      · rw [decide_eq_false c, cond_false, f1 (decide_eq_true (by omega))]
    · rw [List.take_of_length_le (by omega)] at hn
      have hle := List.findIdx_le_length (xs := l) (p := isKid id)
      rw [impl_KidPut.l0, lenI_eq, decide_eq_false (by omega), gd_false, Option.bind_some, bo3_F, cond_false]
      congr 1
      omega
theorem impl_KidPut_eq (l : List Kid) (id by_ : Int) (h : (l.length : Int) ≤ 1099511627776) : impl_KidPut.f l id by_ = some (kidPutF l id by_) := by
  unfold impl_KidPut.f
  rw [appO_ok (by simp; omega), Option.bind_some, List.nil_append]
  simp only [joinK]
  refine (impl_KidPut_l0 l id _ h (((lenI l) - 0).toNat + 1) 0 (by omega) (by rw [lenI_eq]; omega) (by omega)).trans ?_
  have hle := List.findIdx_le_length (xs := l) (p := isKid id)
  unfold kidPutF
  by_cases c : l.findIdx (isKid id) < l.length
  · have hx : l[l.findIdx (isKid id)]? = some l[l.findIdx (isKid id)] := List.getElem?_eq_getElem c
    rw [lenI_eq, decide_eq_false (by omega), bo3_F, gd_true, getO_nat, hx, Option.bind_some, bo3_F]
    dsimp only
    generalize hk : l[l.findIdx (isKid id)] = x at *
    generalize hn : l.findIdx (isKid id) = n at *
    by_cases e : x.Id = id
    · rw [decide_eq_false (show ¬ x.Id ≠ id from fun h => h e), cond_false, if_pos e, Option.bind_some, Option.bind_some, setI_nat, getO_nat, List.getElem?_set_self c, Option.bind_some, e]
      dsimp only
      by_cases n0 : 0 < w64 (x.N + by_)
      · rw [decide_eq_false (by omega), cond_false, if_pos n0]
      · rw [decide_eq_true (by omega), cond_true, if_neg n0, slices_Delete_impl_Kid.f, delO, w64_succ (by omega), if_pos ⟨by omega, by omega, by rw [List.length_set]; omega⟩, Option.bind_some, Int.toNat_natCast, Int.toNat_natCast, List.eraseIdx_eq_take_drop_succ, List.take_set_of_le (Nat.le_refl _), List.drop_set_of_lt (by omega)]
    · rw [decide_eq_true (show x.Id ≠ id from e), cond_true, if_neg e]
      by_cases n0 : 0 < by_
      · rw [decide_eq_false (by omega), cond_false, if_pos n0, Option.bind_some, slices_Insert_impl_Kid.f, insO, if_pos ⟨rfl, by omega, by omega, by simp; omega, by simp; omega⟩, Option.bind_some, Int.toNat_natCast]
      · rw [decide_eq_true (by omega), cond_true, if_neg n0]
  · have e : l.findIdx (isKid id) = l.length := by omega
    rw [lenI_eq, e, decide_eq_true rfl, bo3_T, gd_false, Option.bind_some, bo3_T, cond_true, List.getElem?_eq_none (by omega)]
    dsimp only
    by_cases n0 : 0 < by_
    · rw [decide_eq_false (by omega), cond_false, if_pos n0, Option.bind_some, slices_Insert_impl_Kid.f, insO, if_pos ⟨rfl, by omega, by omega, by simp; omega, by simp; omega⟩, Option.bind_some, Int.toNat_natCast, List.take_length, List.drop_length, List.append_nil]
    · rw [decide_eq_true (by omega), cond_true, if_neg n0]

theorem laws_eqKid_eq (a b : Kid) : laws_eqKid.f a b = some (decide (a = b)) := by
  unfold laws_eqKid.f
  by_cases c_Id : a.Id = b.Id
  case neg => rw [decide_eq_true c_Id, cond_true, decide_eq_false (fun e => c_Id (by rw [e]))]
  rw [decide_eq_false (fun e => e c_Id), cond_false]
  by_cases c_N : a.N = b.N
  case neg => rw [decide_eq_true c_N, cond_true, decide_eq_false (fun e => c_N (by rw [e]))]
  rw [decide_eq_false (fun e => e c_N), cond_false]
  rw [decide_eq_true (by cases a; cases b; simp_all)]
theorem laws_eqKidS_eq (a b : List Kid) (ha : KidS_b a) (hb : KidS_b b) : laws_eqKidS.f a b = some (decide (a = b)) := by
  unfold KidS_b at ha hb
  unfold laws_eqKidS.f
  by_cases hl : a.length = b.length
  · rw [decide_eq_false (by simp only [lenI_eq]; omega), cond_false]
    refine (loop_eq (f := laws_eqKidS.l0 a b) hl (some false) (some true) (fun k i x y hx hy => ?_) (fun k i hi => ?_) _ (by simp only [lenI_eq]; omega)).trans ?_
    · have hi := at_lt hx
      rw [laws_eqKidS.l0, lenI_eq, decide_eq_true (by omega), cond_true, getO_nat, hx, Option.bind_some, getO_nat, hy, Option.bind_some, laws_eqKid_eq x y, Option.bind_some, bo3_not, w64_succ (by omega)]
      by_cases c : x = y
      · simp [c]
      · simp [c]
    · rw [laws_eqKidS.l0, lenI_eq, decide_eq_false (by omega), cond_false]
    · cases decide (a = b) <;> rfl
  · rw [decide_eq_true (by simp only [lenI_eq]; omega), cond_true, decide_eq_false (fun e => hl (by rw [e]))]
def Hd_Kid (x : Kid) (q q' : Int) : Prop := x.Id = q ∧ x.N = q + 1 ∧ q' = q + 1 + 1
theorem Hd_Kid_mono (x : Kid) (q q' : Int) (h : Hd_Kid x q q') : q ≤ q' := by
  obtain ⟨e0, e1, rfl⟩ := h
  omega
theorem mark_KidS (l : List Kid) (q : Int) (hq : 0 ≤ q) (hB : q + 16 * sz_KidS l ≤ 4611686018427387904) : ∃ l' q', laws_markKidS.f l q = some (l', q') ∧ laws_heldKidS.f l' q = some q' ∧ q ≤ q' ∧ q' ≤ q + 16 * sz_KidS l := by
  unfold sz_KidS at hB
  have hz : (l.length : Int) ≤ 288230376151711744 := by omega
  have step : ∀ k (i : Nat) (s : List Kid) (x : Kid) (q : Int), s.length = l.length → s[i]? = some x → 0 ≤ q → q + (fun _ => 16 * (1 + 0)) x ≤ 4611686018427387904 → ∃ x' q', laws_markKidS.l0 (k + 1) s q i = laws_markKidS.l0 k (s.set i x') q' ((i + 1 : Nat) : Int) ∧ q ≤ q' ∧ q' ≤ q + (fun _ => 16 * (1 + 0)) x ∧ Hd_Kid x' q q' := by
    intro k i s x q hn hx hq hB
    have hi := at_lt hx
    have g0 : getO s i = some x := by rw [getO_nat, hx]
    have hB : q + 16 * (1 + 0) ≤ 4611686018427387904 := hB
    have w0 : w64 (q + 1) = q + 1 := w64_id (by omega)
    have w1 : w64 (q + 1 + 1) = q + 1 + 1 := w64_id (by omega)
    refine ⟨(Kid.mk (q) (q + 1)), q + 1 + 1, ?_, by omega, ?_, ⟨rfl, rfl, rfl⟩⟩
    · rw [laws_markKidS.l0, lenI_eq, decide_eq_true (by omega), cond_true]
      simp only [g0, get_set g0, setI_setI, Option.bind_some, w0, w1]
      rw [w64_succ (by omega), setI_nat]
    · show _ ≤ q + 16 * (1 + 0); omega
  have last : ∀ k (s : List Kid) (q : Int) (i : Nat), i = s.length → laws_markKidS.l0 (k + 1) s q i = some (s, q) := by
    intro k s q i hi
    rw [laws_markKidS.l0, lenI_eq, decide_eq_false (by omega), cond_false]
  obtain ⟨l', q', m, hl, _, lo, hi, hd⟩ := loop_mark (fm := laws_markKidS.l0) l.length 4611686018427387904 (fun _ => 16 * (1 + 0)) Hd_Kid (fun _ => by decide) step last (((lenI l) - 0).toNat + 1) 0 l q rfl (by omega) (by simp only [lenI_eq]; omega) hq (by rw [List.drop_zero, sum_0]; omega)
  refine ⟨l', q', m, ?_, lo, ?_⟩
  · unfold laws_heldKidS.f
    refine loop_held (fh := laws_heldKidS.l0 l') (l := l') Hd_Kid Hd_Kid_mono (fun k i x q q' hx hd hq hB => ?_) (fun k q i hi => ?_) _ 0 q q' (by omega) (by simp only [lenI_eq]; omega) hq (by rw [List.drop_zero, sum_0] at hi; omega) (by rw [List.drop_zero] at hd; exact hd)
    · have hi := at_lt hx
      obtain ⟨e0, e1, rfl⟩ := hd
      have w0 : w64 (q + 1) = q + 1 := w64_id (by omega)
      have w1 : w64 (q + 1 + 1) = q + 1 + 1 := w64_id (by omega)
      rw [laws_heldKidS.l0, lenI_eq, decide_eq_true (by omega), cond_true, getO_nat, hx, Option.bind_some]
      simp only [e0, e1, w0, w1, ne_eq, not_true_eq_false, decide_false, cond_false, Option.bind_some, bo3_self]
      rw [w64_succ (by omega)]
    · rw [laws_heldKidS.l0, lenI_eq, decide_eq_false (by omega), cond_false]
  · rw [List.drop_zero, sum_0] at hi; unfold sz_KidS; omega
theorem KidPut_ok (l : List Kid) (b0 : KidS_b l) (r0 : KidS_r l) (z0 : sz_KidS l ≤ 1048576) (id : Int) (r1 : -9223372036854775808 ≤ id ∧ id ≤ 9223372036854775807) (by_ : Int) (r2 : -9223372036854775808 ≤ by_ ∧ by_ ≤ 9223372036854775807) : ∃ v0, spec_KidPut.f l id by_ = some v0 ∧ impl_KidPut.f l id by_ = some v0 ∧ KidS_b v0 ∧ sz_KidS v0 ≤ 1099511627776 := by
  have h := kidPut_len l id by_
  unfold sz_KidS at z0
  exact ⟨kidPutF l id by_, spec_KidPut_eq l id by_ (by omega), impl_KidPut_eq l id by_ (by omega), by unfold KidS_b; omega, by unfold sz_KidS; omega⟩

theorem laws_FnExactKidPut_pure (a0 : List Kid) (b0 : KidS_b a0) (r0 : KidS_r a0) (a1 : Int) (r1 : (-9223372036854775808 ≤ a1 ∧ a1 ≤ 9223372036854775807)) (a2 : Int) (r2 : (-9223372036854775808 ≤ a2 ∧ a2 ≤ 9223372036854775807)) : laws_FnExactKidPut.f a0 a1 a2 = some true := by
  unfold laws_FnExactKidPut.f
  have p0 := sz_KidS_0 a0
  rw [laws_szKidS_eq _ _ (by omega) b0, Option.bind_some]
  by_cases c0 : 1048576 < sz_KidS a0
  · rw [if_pos c0]; rfl
  rw [if_neg c0, decide_eq_false (by omega), cond_false]
  obtain ⟨v0, hs, hi, bv0, zv0⟩ := KidPut_ok a0 b0 r0 (by omega) a1 r1 a2 r2
  have t0 := laws_toKidS_eq a0 (by omega)
  have e0 : laws_eqKidS.f a0 a0 = some true := by rw [laws_eqKidS_eq _ _ b0 b0, decide_eq_true rfl]
  have ev0 : laws_eqKidS.f v0 v0 = some true := by rw [laws_eqKidS_eq _ _ bv0 bv0, decide_eq_true rfl]
  obtain ⟨g0_0, k0, mk0, dk0, lo0, hi0⟩ := mark_KidS a0 1 (by omega) (by omega)
  have nk : ¬ k0 < 0 := by omega
  have pv0 := sz_KidS_0 v0
  obtain ⟨gw0_0, w0, mw0, dw0, low0, hiw0⟩ := mark_KidS v0 1 (by omega) (by omega)
  have nw0 : ¬ w0 < 0 := by omega
  simp only [t0, e0, ev0, mk0, nk, mw0, dw0, nw0, hs, hi, Option.bind_some, bo3_self, bo3_F, bo3_T, gd_true, cond_false, ne_eq, not_true_eq_false, decide_false]
end Go.Proofs.Ytkpoiinkmodlnaa.L
