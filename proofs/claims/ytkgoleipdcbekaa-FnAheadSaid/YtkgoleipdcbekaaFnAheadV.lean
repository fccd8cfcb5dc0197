/- What the pure functions give. -/
import Derived.Test.YtkgoleipdcbekaaPv0
import Derived.Test.YtkgoleipdcbekaaFnAheadU
namespace Go.Proofs.Ytkgoleipdcbekaa.L
open Go
set_option linter.unusedVariables false
set_option linter.unusedSimpArgs false
def sz_IntS (l : List Int) : Int := l.length
def IntS_b (l : List Int) : Prop := l.length ≤ 9223372036854775807
theorem sz_IntS_0 (l : List Int) : 0 ≤ sz_IntS l := by unfold sz_IntS; omega
def IntS_r (l : List Int) : Prop := ∀ x ∈ l, (-9223372036854775808 ≤ x ∧ x ≤ 9223372036854775807)
/-- A cursor that is right. -/
def CI (b : List Int) (i : Int) : Prop := 0 ≤ i ∧ i ≤ b.length ∧ (b.length : Int) ≤ 1048576
theorem and_le (x : Int) (m : Nat) (hm : m < 9223372036854775808) : 0 ≤ Ls.ar .and .i64 x m ∧ Ls.ar .and .i64 x m ≤ m := by
  show 0 ≤ IntKind.i64.wrap _ ∧ IntKind.i64.wrap _ ≤ _
  have h : (BitVec.ofInt IntKind.i64.bits x &&& BitVec.ofInt IntKind.i64.bits m).toNat ≤ m := by
    rw [BitVec.toNat_and]
    refine Nat.le_trans Nat.and_le_right ?_
    rw [BitVec.toNat_ofInt]
    have : ((m : Int) % (2 ^ IntKind.i64.bits : Nat)).toNat = m := by
      rw [Int.emod_eq_of_lt (by omega) (by show (m : Int) < ((2 ^ 64 : Nat) : Int); omega)]
      omega
    omega
  rw [IntKind.wrap_i64]
  omega
theorem l1Byte_ok {b : List Int} {i : Int} (h : Int) (hc : CI b i) : ∃ i' h' x, spec_l1Byte.f (l1Cur.mk b i h) = some (l1Cur.mk b i' h', x) ∧ CI b i' ∧ 0 ≤ x ∧ x ≤ 255 := by
  obtain ⟨h0, h1, h2⟩ := hc
  unfold spec_l1Byte.f
  dsimp only
  by_cases hi : i < (b.length : Int)
  · rw [lenI_eq, decide_eq_true hi, cond_true, getO_pos h0, List.getElem?_eq_getElem (by omega), Option.bind_some]
    exact ⟨_, _, _, rfl, ⟨by rw [w64_id (by omega)]; omega, by rw [w64_id (by omega)]; omega, h2⟩, and_le _ 255 (by omega)⟩
  · rw [lenI_eq, decide_eq_false hi, cond_false]
    exact ⟨_, _, _, rfl, ⟨h0, h1, h2⟩, and_le _ 255 (by omega)⟩
theorem tmod_lt {x n : Int} (hx : 0 ≤ x) (hn : 0 < n) : 0 ≤ Int.tmod x n ∧ Int.tmod x n < n := ⟨Int.tmod_nonneg _ hx, Int.tmod_lt_of_pos _ hn⟩
theorem l1Below_ok {b : List Int} {i : Int} (h : Int) (n : Int) (hc : CI b i) : ∃ i' h' x, spec_l1Below.f (l1Cur.mk b i h) n = some (l1Cur.mk b i' h', x) ∧ CI b i' ∧ 0 ≤ x ∧ (0 < n → x < n) ∧ (n ≤ 0 → x = 0) := by
  unfold spec_l1Below.f
  by_cases h0 : n ≤ 0
  · rw [decide_eq_true h0, cond_true]
    exact ⟨_, _, _, rfl, hc, by omega, fun _ => by omega, fun _ => rfl⟩
  have hz : nzO n = some () := by unfold nzO; rw [if_pos (by omega)]
  rw [decide_eq_false h0, cond_false]
  obtain ⟨i1, h1, x1, e1, k1, l1, u1⟩ := l1Byte_ok h hc
  by_cases hn : n ≤ 256
  · rw [decide_eq_true hn, cond_true, e1, Option.bind_some, hz, Option.bind_some]
    have := tmod_lt (n := n) l1 (by omega)
    exact ⟨_, _, _, rfl, k1, this.1, fun _ => this.2, fun _ => by omega⟩
  · obtain ⟨i2, h2, x2, e2, k2, l2, u2⟩ := l1Byte_ok h1 k1
    obtain ⟨i3, h3, x3, e3, k3, l3, u3⟩ := l1Byte_ok h2 k2
    obtain ⟨i4, h4, x4, e4, k4, l4, u4⟩ := l1Byte_ok h3 k3
    rw [decide_eq_false hn, cond_false, e1, Option.bind_some]
    dsimp only
    rw [e2, Option.bind_some]
    dsimp only
    rw [e3, Option.bind_some]
    dsimp only
    rw [e4, Option.bind_some, hz, Option.bind_some]
    dsimp only
    rw [w64_id (x := x1 * 16777216) (by omega), w64_id (x := x2 * 65536) (by omega), w64_id (x := x3 * 256) (by omega), w64_id (x := x1 * 16777216 + x2 * 65536) (by omega), w64_id (x := x1 * 16777216 + x2 * 65536 + x3 * 256) (by omega), w64_id (by omega)]
    have := tmod_lt (n := n) (show 0 ≤ x1 * 16777216 + x2 * 65536 + x3 * 256 + x4 by omega) (by omega)
    exact ⟨_, _, _, rfl, k4, this.1, fun _ => this.2, fun _ => by omega⟩
theorem l1New_ok (l : List Int) (hl : (l.length : Int) ≤ 1048576) : ∃ h, spec_l1New.f l = some (l1Cur.mk l 0 h) ∧ CI l 0 := by
  have key : ∀ (k i : Nat) (h : Int), i ≤ l.length → l.length < i + k → ∃ h', spec_l1New.l0 l k h i = some (l1Cur.mk l 0 h') := by
    intro k
    induction k with
    | zero => intro i h h1 h2; omega
    | succ k ih =>
      intro i h h1 h2
      rw [spec_l1New.l0]
      by_cases c : bo3 (decide ((i : Int) < lenI l)) (decide ((i : Int) < 4000)) false = true
      · have hi : i < l.length := by
          rw [bo3_and, Bool.and_eq_true] at c
          have := of_decide_eq_true c.1
          rw [lenI_eq] at this
          omega
        rw [c, cond_true, getO_nat, List.getElem?_eq_getElem hi, Option.bind_some, w64_succ (by omega)]
        exact ih (i + 1) _ (by omega) (by omega)
      · rw [Bool.not_eq_true] at c
        rw [c, cond_false]
        exact ⟨_, rfl⟩
  unfold spec_l1New.f
  obtain ⟨h, e⟩ := key (((lenI l) - 0).toNat + 1) 0 (w64 (17333 + lenI l)) (by omega) (by rw [lenI_eq]; omega)
  exact ⟨h, e, by omega, by omega, hl⟩




theorem l1PickInt_ok {b : List Int} {i : Int} (h : Int) {l : List Int} (hl : l ≠ []) (hc : CI b i) : ∃ i' h' x, spec_l1PickInt.f (l1Cur.mk b i h) l = some (l1Cur.mk b i' h', x) ∧ CI b i' ∧ x ∈ l := by
  unfold spec_l1PickInt.f
  obtain ⟨i1, h1, x1, e1, k1, l1, u1, _⟩ := l1Below_ok h (lenI l) hc
  have hp : 0 < l.length := by cases l with | nil => exact absurd rfl hl | cons x l => simp
  rw [lenI_eq] at u1
  have hx := u1 (by omega)
  have hlt : x1.toNat < l.length := by omega
  rw [e1, Option.bind_some, getO_pos l1, List.getElem?_eq_getElem hlt, Option.bind_some]
  exact ⟨_, _, _, rfl, k1, List.getElem_mem hlt⟩

theorem l1Once_ok {b : List Int} {i : Int} (h : Int) (n : Int) (hc : CI b i) : ∃ i' h' x, spec_l1Once.f (l1Cur.mk b i h) n = some (l1Cur.mk b i' h', x) ∧ CI b i' := by
  unfold spec_l1Once.f
  obtain ⟨i1, h1, x1, e1, k1, _⟩ := l1Below_ok h n hc
  rw [e1, Option.bind_some]
  exact ⟨_, _, _, rfl, k1⟩

theorem spec_l1Max_eq (x y : Int) : spec_l1Max.f x y = some (max x y) := by
  unfold spec_l1Max.f
  by_cases h : y < x
  · rw [decide_eq_true h, cond_true, show max x y = x by omega]
  · rw [decide_eq_false h, cond_false, show max x y = y by omega]

def sz_Schema (x : Schema) : Int := sz_IntS x.Cols
def Schema_b (x : Schema) : Prop := IntS_b x.Cols
theorem sz_Schema_0 (x : Schema) : 0 ≤ sz_Schema x := by unfold sz_Schema; exact by have := sz_IntS_0 x.Cols;  omega
def Schema_r (x : Schema) : Prop := IntS_r x.Cols
def sz_Row (x : Row) : Int := sz_IntS x.Cells
def Row_b (x : Row) : Prop := IntS_b x.Cells
theorem sz_Row_0 (x : Row) : 0 ≤ sz_Row x := by unfold sz_Row; exact by have := sz_IntS_0 x.Cells;  omega
def Row_r (x : Row) : Prop := (-9223372036854775808 ≤ x.Id ∧ x.Id ≤ 9223372036854775807) ∧ IntS_r x.Cells
/-- A schema that is not too great. -/
def SB (s : Schema) : Prop := s.Cols.length ≤ 6 ∧ ∀ x ∈ s.Cols, -1 ≤ x ∧ x ≤ 5
theorem SB.b {s : Schema} (h : SB s) : Schema_b s := by unfold Schema_b IntS_b; have := h.1; omega
theorem snoc_all {α : Type} {p : α → Prop} {l : List α} {x : α} (h : ∀ y ∈ l, p y) (hx : p x) : ∀ y ∈ l ++ [x], p y := fun y hy => by
  rcases List.mem_append.1 hy with hy | hy
  · exact h y hy
  · rw [List.mem_singleton.1 hy]; exact hx

def Cond_r (x : Cond) : Prop := (-9223372036854775808 ≤ x.Col ∧ x.Col ≤ 9223372036854775807) ∧ (-9223372036854775808 ≤ x.Op ∧ x.Op ≤ 9223372036854775807) ∧ (-9223372036854775808 ≤ x.V ∧ x.V ≤ 9223372036854775807)
def sz_CondS (l : List Cond) : Int := l.length
def CondS_b (l : List Cond) : Prop := l.length ≤ 9223372036854775807
theorem sz_CondS_0 (l : List Cond) : 0 ≤ sz_CondS l := by unfold sz_CondS; omega
def CondS_r (l : List Cond) : Prop := ∀ x ∈ l, Cond_r x
def sz_Query (x : Query) : Int := sz_CondS x.Where + sz_IntS x.Show
def Query_b (x : Query) : Prop := CondS_b x.Where ∧ IntS_b x.Show
theorem sz_Query_0 (x : Query) : 0 ≤ sz_Query x := by unfold sz_Query; exact by have := sz_CondS_0 x.Where; have := sz_IntS_0 x.Show;  omega
def Query_r (x : Query) : Prop := (-9223372036854775808 ≤ x.Table ∧ x.Table ≤ 9223372036854775807) ∧ CondS_r x.Where ∧ (-9223372036854775808 ≤ x.Order ∧ x.Order ≤ 9223372036854775807) ∧ (-9223372036854775808 ≤ x.First ∧ x.First ≤ 9223372036854775807) ∧ IntS_r x.Show ∧ (-9223372036854775808 ≤ x.KidTable ∧ x.KidTable ≤ 9223372036854775807) ∧ (-9223372036854775808 ≤ x.KidCol ∧ x.KidCol ≤ 9223372036854775807)
/-- A question that is not too great. -/
def QB (q : Query) : Prop := q.Where.length ≤ 4 ∧ q.Show.length ≤ 6
def Qr3 (q : Query) : Prop := q.Where.length ≤ 3 ∧ q.Show.length ≤ 5
theorem Qr3.qb {q : Query} (h : Qr3 q) : QB q := ⟨by have := h.1; omega, by have := h.2; omega⟩
theorem QB.b {q : Query} (h : QB q) : Query_b q := by
  have h1 := h.1
  have h2 := h.2
  exact ⟨by unfold CondS_b; omega, by unfold IntS_b; omega⟩

theorem l9DrawRight_l0 (a : l1Cur) (y : Int) : ∀ (k i : Nat) (ci h : Int) (l : List Cond), CI a.b ci → l.length = i → i ≤ 2 → 3 ≤ i + k →
    ∃ ci' h' l', (∀ K, spec_l9DrawRight.l0 a y K k ci h l i = K ci' h' l') ∧ CI a.b ci' ∧ l'.length ≤ 3 := by
  intro k
  induction k with
  | zero => intro i ci h l hc hl h1 h2; omega
  | succ k ih =>
    intro i ci h l hc hl h1 h2
    obtain ⟨c1, h1', x1, e1, k1, l1, u1, _⟩ := l1Below_ok h 3 hc
    have hx3 := u1 (by omega)
    by_cases c : (i : Int) < x1
    · obtain ⟨c2, h2', x2, e2, k2, l2, u2, _⟩ := l1Below_ok h1' y k1
      obtain ⟨c3, h3', x3, e3, k3, l3, u3, _⟩ := l1Below_ok h2' 4 k2
      obtain ⟨c4, h4', x4, e4, k4, l4, u4, _⟩ := l1Below_ok h3' 6 k3
      obtain ⟨ci', h', l', q1, q2, q3⟩ := ih (i + 1) c4 h4' (l ++ [Cond.mk x2 (w64 (1 + x3)) x4]) k4 (by simp [hl]) (by omega) (by omega)
      refine ⟨ci', h', l', fun K => ?_, q2, q3⟩
      rw [spec_l9DrawRight.l0, e1, Option.bind_some]
      dsimp only
      rw [decide_eq_true c, cond_true, e2, Option.bind_some]
      dsimp only
      rw [e3, Option.bind_some]
      dsimp only
      rw [e4, Option.bind_some]
      dsimp only
      rw [Option.bind_some, appO_ok (by simp only [List.length_cons, List.length_nil]; omega), Option.bind_some, w64_succ (by omega)]
      exact q1 K
    · refine ⟨c1, h1', l, fun K => ?_, k1, by omega⟩
      rw [spec_l9DrawRight.l0, e1, Option.bind_some]
      dsimp only
      rw [decide_eq_false c, cond_false]
theorem l9DrawRight_l1 (a : l1Cur) (y : Int) (hy : y ≤ 5) (d : Bool) : ∀ (k i : Nat) (ci h : Int) (l : List Int), CI a.b ci → l.length ≤ i → (i : Int) ≤ y ∨ i = 0 → 0 < k → y < i + k →
    ∃ ci' h' l', (∀ K, spec_l9DrawRight.l1 a y K k ci h d l i = K ci' h' d l') ∧ CI a.b ci' ∧ l'.length ≤ 5 := by
  intro k
  induction k with
  | zero => intro i ci h l hc hl h0 h1 h2; omega
  | succ k ih =>
    intro i ci h l hc hl h0 h1 h2
    by_cases c : (i : Int) < y
    · obtain ⟨c2, h2', x2, e2, k2⟩ := l1Once_ok h 2 hc
      cases x2 with
      | true =>
        obtain ⟨ci', h', l', q1, q2, q3⟩ := ih (i + 1) c2 h2' (l ++ [(i : Int)]) k2 (by simp only [List.length_append, List.length_cons, List.length_nil]; omega) (by omega) (by omega) (by omega)
        refine ⟨ci', h', l', fun K => ?_, q2, q3⟩
        rw [spec_l9DrawRight.l1, decide_eq_true c, cond_true, e2, Option.bind_some, w64_succ (by omega)]
        dsimp only
        rw [cond_true, Option.bind_some, appO_ok (by simp only [List.length_cons, List.length_nil]; omega), Option.bind_some]
        exact q1 K
      | false =>
        obtain ⟨ci', h', l', q1, q2, q3⟩ := ih (i + 1) c2 h2' l k2 (by omega) (by omega) (by omega) (by omega)
        refine ⟨ci', h', l', fun K => ?_, q2, q3⟩
        rw [spec_l9DrawRight.l1, decide_eq_true c, cond_true, e2, Option.bind_some, w64_succ (by omega)]
        dsimp only
        rw [cond_false]
        exact q1 K
    · refine ⟨ci, h, l, fun K => ?_, hc, by omega⟩
      rw [spec_l9DrawRight.l1, decide_eq_false c, cond_false]
theorem l9DrawRight_end (a : l1Cur) (s : Schema) (q1 : Int) (w : List Cond) (o f : Int) (hs : SB s) (hw : w.length ≤ 3) : ∀ (ci h : Int) (d : Bool) (l : List Int), CI a.b ci → l.length ≤ 5 →
    ∃ ci' h' q, ((spec_l1Once.f (l1Cur.mk a.b ci h) 2).bind fun r130 =>
      bif r130.2 then (
      (spec_l1Max.f (lenI s.Cols) 1).bind fun r132 =>
      (spec_l1Below.f (l1Cur.mk a.b r130.1.i r130.1.h) r132).bind fun r133 =>
      bif (decide (r133.2 < (lenI s.Cols))) then (
      (getO s.Cols r133.2).bind fun x135 =>
      (spec_l1Max.f x135 1).bind fun r136 =>
      (spec_l1Below.f (l1Cur.mk a.b r133.1.i r133.1.h) r136).bind fun r137 =>
      some ((l1Cur.mk a.b r137.1.i r137.1.h), (Query.mk q1 w o d f l true r133.2 r137.2)))
      else (
      some ((l1Cur.mk a.b r133.1.i r133.1.h), (Query.mk q1 w o d f l true r133.2 0))))
      else (
      some ((l1Cur.mk a.b r130.1.i r130.1.h), (Query.mk q1 w o d f l false 0 0)))) = some (l1Cur.mk a.b ci' h', q) ∧ CI a.b ci' ∧ Qr3 q := by
  intro ci h d l hc hl
  obtain ⟨c2, h2, x2, e2, k2⟩ := l1Once_ok h 2 hc
  rw [e2, Option.bind_some]
  dsimp only
  cases x2 with
  | false => rw [cond_false]; exact ⟨_, _, _, rfl, k2, by dsimp only [Qr3]; omega⟩
  | true =>
    rw [cond_true, spec_l1Max_eq, Option.bind_some]
    obtain ⟨c3, h3, x3, e3, k3, l3, u3, _⟩ := l1Below_ok h2 (max (lenI s.Cols) 1) k2
    rw [e3, Option.bind_some]
    dsimp only
    by_cases c : x3 < lenI s.Cols
    · rw [decide_eq_true c, cond_true, getO_pos l3, List.getElem?_eq_getElem (by rw [lenI_eq] at c; omega), Option.bind_some, spec_l1Max_eq, Option.bind_some]
      obtain ⟨c4, h4, x4, e4, k4, _⟩ := l1Below_ok h3 (max (s.Cols[x3.toNat]'(by rw [lenI_eq] at c; omega)) 1) k3
      rw [e4, Option.bind_some]
      exact ⟨_, _, _, rfl, k4, by dsimp only [Qr3]; omega⟩
    · rw [decide_eq_false c, cond_false]
      exact ⟨_, _, _, rfl, k3, by dsimp only [Qr3]; omega⟩
theorem l9DrawRight_K (a : l1Cur) (s : Schema) (hs : SB s) (q1 : Int) (c0 h0 : Int) (hc : CI a.b c0) (y3 : Int) (hy : 1 ≤ y3 ∧ y3 ≤ 5) : ∃ i' h' q, (joinK (fun (y8 : Int) (y9 : Int) (y10 : List Cond) =>
  (spec_l1Below.f (l1Cur.mk a.b y8 y9) (w64 (y3 + 1))).bind fun r64 =>
  (gd (decide (0 < r64.2)) (spec_l1Once.f (l1Cur.mk a.b r64.1.i r64.1.h) 2)).bind fun r65 =>
  (some [0, 0, 1, 2, 3, 5]).bind fun l70 =>
  (spec_l1PickInt.f (l1Cur.mk a.b (ci3 (decide (0 < r64.2)) r65.1.i r64.1.i) (ci3 (decide (0 < r64.2)) r65.1.h r64.1.h)) l70).bind fun r71 =>
  joinK (fun (y72 : Int) (y73 : Int) (y74 : Bool) (y75 : List Int) =>
  (spec_l1Once.f (l1Cur.mk a.b y72 y73) 2).bind fun r130 =>
  bif r130.2 then (
  (spec_l1Max.f (lenI s.Cols) 1).bind fun r132 =>
  (spec_l1Below.f (l1Cur.mk a.b r130.1.i r130.1.h) r132).bind fun r133 =>
  bif (decide (r133.2 < (lenI s.Cols))) then (
  (getO s.Cols r133.2).bind fun x135 =>
  (spec_l1Max.f x135 1).bind fun r136 =>
  (spec_l1Below.f (l1Cur.mk a.b r133.1.i r133.1.h) r136).bind fun r137 =>
  some ((l1Cur.mk a.b r137.1.i r137.1.h), (Query.mk q1 y10 r64.2 y74 r71.2 y75 true r133.2 r137.2)))
  else (
  some ((l1Cur.mk a.b r133.1.i r133.1.h), (Query.mk q1 y10 r64.2 y74 r71.2 y75 true r133.2 0))))
  else (
  some ((l1Cur.mk a.b r130.1.i r130.1.h), (Query.mk q1 y10 r64.2 y74 r71.2 y75 false 0 0)))) (fun K76 =>
  spec_l9DrawRight.l1 a y3 K76 ((y3 - 0).toNat + 1) r71.1.i r71.1.h (bo3 (decide (0 < r64.2)) r65.2 false) [] 0)) (fun K11 =>
  spec_l9DrawRight.l0 a y3 K11 1000 c0 h0 [] 0)) = some (l1Cur.mk a.b i' h', q) ∧ CI a.b i' ∧ Qr3 q := by
  rw [joinK_eq]
  obtain ⟨c1, h1, w, e1, k1, w1⟩ := l9DrawRight_l0 a y3 1000 0 c0 h0 [] hc rfl (by omega) (by omega)
  rw [show ((0 : Nat) : Int) = 0 from rfl] at e1
  rw [e1]
  obtain ⟨c2, h2, x2, e2, k2, _⟩ := l1Below_ok h1 (w64 (y3 + 1)) k1
  rw [e2, Option.bind_some]
  dsimp only
  have hmid : ∃ c3 h3 d3, (gd (decide (0 < x2)) (spec_l1Once.f (l1Cur.mk a.b c2 h2) 2)).bind (fun r65 => some (ci3 (decide (0 < x2)) r65.1.i c2, ci3 (decide (0 < x2)) r65.1.h h2, bo3 (decide (0 < x2)) r65.2 false)) = some (c3, h3, d3) ∧ CI a.b c3 := by
    by_cases c : 0 < x2
    · obtain ⟨c3, h3, x3, e3, k3⟩ := l1Once_ok h2 2 k2
      rw [decide_eq_true c, gd_true, e3, Option.bind_some]
      exact ⟨_, _, _, rfl, k3⟩
    · rw [decide_eq_false c, gd_false, Option.bind_some]
      exact ⟨_, _, _, rfl, k2⟩
  obtain ⟨c3, h3, d3, e3, k3⟩ := hmid
  have hm2 : ∀ {β : Type} (G : Int → Int → Bool → Option β), (gd (decide (0 < x2)) (spec_l1Once.f (l1Cur.mk a.b c2 h2) 2)).bind (fun r65 => G (ci3 (decide (0 < x2)) r65.1.i c2) (ci3 (decide (0 < x2)) r65.1.h h2) (bo3 (decide (0 < x2)) r65.2 false)) = G c3 h3 d3 := fun G => by
    have := congrArg (fun o => o.bind fun t => G t.1 t.2.1 t.2.2) e3
    simpa only [Option.bind_assoc, Option.bind_some] using this
  obtain ⟨c4, h4, x4, e4, k4, m4⟩ := l1PickInt_ok (l := [0, 0, 1, 2, 3, 5]) h3 (by simp) k3
  simp only [Option.bind_some]
  refine (?_ : ∃ i' h' q, _ = some (l1Cur.mk a.b i' h', q) ∧ CI a.b i' ∧ Qr3 q)
  have hm3 := hm2 (fun ci hh dd => (spec_l1PickInt.f (l1Cur.mk a.b ci hh) [0, 0, 1, 2, 3, 5]).bind fun r71 =>
    joinK (fun (y72 : Int) (y73 : Int) (y74 : Bool) (y75 : List Int) =>
    (spec_l1Once.f (l1Cur.mk a.b y72 y73) 2).bind fun r130 =>
    bif r130.2 then (
    (spec_l1Max.f (lenI s.Cols) 1).bind fun r132 =>
    (spec_l1Below.f (l1Cur.mk a.b r130.1.i r130.1.h) r132).bind fun r133 =>
    bif (decide (r133.2 < (lenI s.Cols))) then (
    (getO s.Cols r133.2).bind fun x135 =>
    (spec_l1Max.f x135 1).bind fun r136 =>
    (spec_l1Below.f (l1Cur.mk a.b r133.1.i r133.1.h) r136).bind fun r137 =>
    some ((l1Cur.mk a.b r137.1.i r137.1.h), (Query.mk q1 w x2 y74 r71.2 y75 true r133.2 r137.2)))
    else (
    some ((l1Cur.mk a.b r133.1.i r133.1.h), (Query.mk q1 w x2 y74 r71.2 y75 true r133.2 0))))
    else (
    some ((l1Cur.mk a.b r130.1.i r130.1.h), (Query.mk q1 w x2 y74 r71.2 y75 false 0 0)))) (fun K76 =>
    spec_l9DrawRight.l1 a y3 K76 ((y3 - 0).toNat + 1) r71.1.i r71.1.h dd [] 0))
  rw [hm3, e4, Option.bind_some, joinK_eq]
  obtain ⟨c5, h5, sh, e5, k5, l5⟩ := l9DrawRight_l1 a y3 hy.2 d3 ((y3 - 0).toNat + 1) 0 c4 h4 [] k4 (by simp) (by omega) (by omega) (by omega)
  rw [show ((0 : Nat) : Int) = 0 from rfl] at e5
  dsimp only at e5 ⊢
  rw [e5]
  exact l9DrawRight_end a s q1 w x2 x4 hs w1 c5 h5 d3 sh k5 l5
theorem l9DrawRight_ok {b : List Int} {i : Int} (h : Int) (s : Schema) (hs : SB s) (hc : CI b i) : ∃ i' h' q, spec_l9DrawRight.f (l1Cur.mk b i h) s = some (l1Cur.mk b i' h', q) ∧ CI b i' ∧ Qr3 q := by
  unfold spec_l9DrawRight.f
  rw [bnd_some (spec_l1Max_eq _ _)]
  obtain ⟨c1, h1, x1, e1, k1, l1, _⟩ := l1Below_ok h (max (lenI s.Cols) 1) hc
  rw [e1, Option.bind_some]
  dsimp only
  rw [joinK_eq]
  by_cases c : x1 < lenI s.Cols
  · have hlt : x1.toNat < s.Cols.length := by rw [lenI_eq] at c; omega
    rw [decide_eq_true c, cond_true, getO_pos l1, List.getElem?_eq_getElem hlt, Option.bind_some, bnd_some (spec_l1Max_eq _ _)]
    have := hs.2 _ (List.getElem_mem hlt)
    have k := l9DrawRight_K (l1Cur.mk b i h) s hs x1 c1 h1 k1 (max s.Cols[x1.toNat] 1) (by omega)
    exact k
  · rw [decide_eq_false c, cond_false]
    exact l9DrawRight_K (l1Cur.mk b i h) s hs x1 c1 h1 k1 1 (by omega)

theorem l9Draw_ok {b : List Int} {i : Int} (h : Int) (s : Schema) (hs : SB s) (hc : CI b i) : ∃ i' h' q, spec_l9Draw.f (l1Cur.mk b i h) s = some (l1Cur.mk b i' h', q) ∧ CI b i' ∧ QB q := by
  unfold spec_l9Draw.f
  obtain ⟨i1, h1, q, e1, k1, q1, q2⟩ := l9DrawRight_ok h s hs hc
  obtain ⟨i2, h2, x2, e2, k2, _⟩ := l1Below_ok h1 25 k1
  rw [bnd_some e1]
  dsimp only
  rw [bnd_some e2]
  dsimp only
  by_cases c0 : x2 = 0
  · obtain ⟨i3, h3, x3, e3, k3, _⟩ := l1Below_ok h2 5 k2
    rw [decide_eq_true c0, cond_true, bnd_some e3]
    exact ⟨_, _, _, rfl, k3, by dsimp only; omega, by dsimp only; omega⟩
  rw [decide_eq_false c0, cond_false]
  by_cases c1 : x2 = 1
  · obtain ⟨i3, h3, x3, e3, k3, _⟩ := l1Below_ok h2 6 k2
    obtain ⟨i4, h4, x4, e4, k4, _⟩ := l1Below_ok h3 6 k3
    obtain ⟨i5, h5, x5, e5, k5, _⟩ := l1PickInt_ok (l := [0, 1000000001]) h4 (by simp) k4
    rw [decide_eq_true c1, cond_true, bnd_some e3]
    dsimp only
    rw [bnd_some e4, Option.bind_some]
    dsimp only
    rw [bnd_some e5, Option.bind_some, appO_ok (by simp only [List.length_cons, List.length_nil]; omega), Option.bind_some]
    exact ⟨_, _, _, rfl, k5, by simp only [List.length_append, List.length_cons, List.length_nil]; omega, by dsimp only; omega⟩
  rw [decide_eq_false c1, cond_false]
  by_cases c2 : x2 = 2
  · obtain ⟨i3, h3, x3, e3, k3, _⟩ := l1Below_ok h2 7 k2
    rw [decide_eq_true c2, cond_true, bnd_some e3]
    exact ⟨_, _, _, rfl, k3, by dsimp only; omega, by dsimp only; omega⟩
  rw [decide_eq_false c2, cond_false]
  by_cases c3 : x2 = 3
  · obtain ⟨i3, h3, x3, e3, k3, _⟩ := l1PickInt_ok (l := [-1, 24, 25]) h2 (by simp) k2
    rw [decide_eq_true c3, cond_true, Option.bind_some, bnd_some e3]
    exact ⟨_, _, _, rfl, k3, by dsimp only; omega, by dsimp only; omega⟩
  rw [decide_eq_false c3, cond_false]
  by_cases c4 : x2 = 4
  · obtain ⟨i3, h3, x3, e3, k3, _⟩ := l1Below_ok h2 5 k2
    rw [decide_eq_true c4, cond_true, bnd_some e3, Option.bind_some, appO_ok (by simp only [List.length_cons, List.length_nil]; omega), Option.bind_some]
    exact ⟨_, _, _, rfl, k3, by dsimp only; omega, by simp only [List.length_append, List.length_cons, List.length_nil]; omega⟩
  rw [decide_eq_false c4, cond_false]
  by_cases c5 : x2 = 5
  · obtain ⟨i3, h3, x3, e3, k3, _⟩ := l1Below_ok h2 6 k2
    rw [decide_eq_true c5, cond_true, bnd_some e3]
    exact ⟨_, _, _, rfl, k3, by dsimp only; omega, by dsimp only; omega⟩
  rw [decide_eq_false c5, cond_false]
  exact ⟨_, _, _, rfl, k2, by omega, by omega⟩

theorem spec_l1In_eq (x y z : Int) : spec_l1In.f x y z = some (decide (y ≤ x ∧ x ≤ z)) := by
  unfold spec_l1In.f
  rw [bo3_and, Bool.decide_and]

theorem l6DrawSchema_l0 (a : l1Cur) : ∀ (k i : Nat) (ci h : Int) (l : List Int), CI a.b ci → l.length = i → i ≤ 3 → 4 ≤ i + k → (∀ x ∈ l, 1 ≤ x ∧ x ≤ 4) →
    ∃ ci' h' l', spec_l6DrawSchema.l0 a k ci h l i = some (l1Cur.mk a.b ci' h', Schema.mk l') ∧ CI a.b ci' ∧ (i < 1 ∨ 1 ≤ i) ∧ l'.length ≤ 3 ∧ i ≤ l'.length ∧ 1 ≤ l'.length ∧ ∀ x ∈ l', 1 ≤ x ∧ x ≤ 4 := by
  intro k
  induction k with
  | zero => intro i ci h l hc hl h1 h2; omega
  | succ k ih =>
    intro i ci h l hc hl h1 h2 hx
    obtain ⟨c1, h1', x1, e1, k1, l1, u1, _⟩ := l1Below_ok h 3 hc
    have hx3 := u1 (by omega)
    rw [spec_l6DrawSchema.l0, e1, Option.bind_some]
    dsimp only
    rw [w64_id (by omega)]
    by_cases c : (i : Int) < 1 + x1
    · obtain ⟨c2, h2', x2, e2, k2, l2, u2, _⟩ := l1Below_ok h1' 4 k1
      have hx4 := u2 (by omega)
      rw [decide_eq_true c, cond_true, e2, Option.bind_some]
      dsimp only
      rw [w64_id (by omega), Option.bind_some, appO_ok (by simp only [List.length_cons, List.length_nil]; omega), Option.bind_some, w64_succ (by omega)]
      obtain ⟨ci', h', l', q1, q2, q3, q4, q5, q6, q7⟩ := ih (i + 1) c2 h2' (l ++ [1 + x2]) k2 (by simp [hl]) (by omega) (by omega) (snoc_all hx (by omega))
      exact ⟨ci', h', l', q1, q2, by omega, q4, by omega, q6, q7⟩
    · rw [decide_eq_false c, cond_false]
      exact ⟨_, _, _, rfl, k1, by omega, by omega, by omega, by omega, hx⟩
theorem l6DrawSchema_ok {b : List Int} {i : Int} (h : Int) (hc : CI b i) : ∃ i' h' s, spec_l6DrawSchema.f (l1Cur.mk b i h) = some (l1Cur.mk b i' h', s) ∧ CI b i' ∧ s.Cols.length ≤ 3 ∧ 1 ≤ s.Cols.length ∧ ∀ x ∈ s.Cols, 1 ≤ x ∧ x ≤ 4 := by
  unfold spec_l6DrawSchema.f
  obtain ⟨ci', h', l', q1, q2, q3, q4, q5, q6, q7⟩ := l6DrawSchema_l0 (l1Cur.mk b i h) 1000 0 i h [] hc rfl (by omega) (by omega) (by simp)
  exact ⟨_, _, _, q1, q2, q4, q6, q7⟩

theorem l6DrawRow_l0 (a : l1Cur) (n : Int) (hn : n ≤ 5) (id : Int) : ∀ (k i : Nat) (ci h : Int) (l : List Int), CI a.b ci → l.length = i → (i : Int) ≤ n ∨ i = 0 → 0 < k → n < i + k → (∀ x ∈ l, 0 ≤ x ∧ x ≤ 5) →
    ∃ ci' h' l', spec_l6DrawRow.l0 a n k ci h id l i = some (l1Cur.mk a.b ci' h', Row.mk id l') ∧ CI a.b ci' ∧ ((l'.length : Int) = n ∨ n < 0 ∧ l'.length = 0) ∧ ∀ x ∈ l', 0 ≤ x ∧ x ≤ 5 := by
  intro k
  induction k with
  | zero => intro i ci h l hc hl h0 h1 h2; omega
  | succ k ih =>
    intro i ci h l hc hl h0 h1 h2 hx
    rw [spec_l6DrawRow.l0]
    by_cases c : (i : Int) < n
    · obtain ⟨c2, h2', x2, e2, k2, l2, u2, _⟩ := l1Below_ok h 6 hc
      have hx4 := u2 (by omega)
      rw [decide_eq_true c, cond_true, e2, Option.bind_some]
      dsimp only
      rw [Option.bind_some, appO_ok (by simp only [List.length_cons, List.length_nil]; omega), Option.bind_some, w64_succ (by omega)]
      exact ih (i + 1) c2 h2' (l ++ [x2]) k2 (by simp [hl]) (by omega) (by omega) (by omega) (snoc_all hx (by omega))
    · rw [decide_eq_false c, cond_false]
      exact ⟨_, _, _, rfl, hc, by omega, hx⟩
theorem l6DrawRow_ok {b : List Int} {i : Int} (h : Int) (n : Int) (hn : n ≤ 5) (hc : CI b i) : ∃ i' h' r, spec_l6DrawRow.f (l1Cur.mk b i h) n = some (l1Cur.mk b i' h', r) ∧ CI b i' ∧ 1 ≤ r.Id ∧ r.Id ≤ 12 ∧ ((r.Cells.length : Int) = n ∨ n < 0 ∧ r.Cells.length = 0) ∧ ∀ x ∈ r.Cells, 0 ≤ x ∧ x ≤ 5 := by
  unfold spec_l6DrawRow.f
  obtain ⟨i1, h1, x1, e1, k1, l1, u1, _⟩ := l1Below_ok h 12 hc
  have := u1 (by omega)
  rw [e1, Option.bind_some]
  dsimp only
  rw [w64_id (by omega)]
  obtain ⟨ci', h', l', q1, q2, q3, q4⟩ := l6DrawRow_l0 (l1Cur.mk b i h) n hn (1 + x1) ((n - 0).toNat + 1) 0 i1 h1 [] k1 rfl (by omega) (by omega) (by omega) (by simp)
  exact ⟨_, _, _, q1, q2, by dsimp only; omega, by dsimp only; omega, q3, q4⟩

theorem l9DrawOne_ok (code : List Int) (hl : (code.length : Int) ≤ 1048576) : ∃ q r t, spec_l9DrawOne.f code = some (q, r, t) ∧ QB q ∧ Row_b r ∧ Row_b t := by
  unfold spec_l9DrawOne.f
  obtain ⟨h0, e0, k0⟩ := l1New_ok code hl
  rw [bnd_some e0]
  obtain ⟨i1, h1, s, e1, k1, s1, s2, s3⟩ := l6DrawSchema_ok h0 k0
  rw [bnd_some e1]
  obtain ⟨i2, h2, q, e2, k2, q2⟩ := l9Draw_ok h1 s ⟨by omega, fun x hx => by have := s3 x hx; omega⟩ k1
  dsimp only
  rw [bnd_some e2]
  dsimp only
  rw [joinK_eq]
  have fin : ∀ y4 : Int, y4 ≤ 5 → 0 ≤ y4 → ∃ q' r t, ((spec_l6DrawRow.f (l1Cur.mk code i2 h2) y4).bind fun r9 => (spec_l6DrawRow.f (l1Cur.mk code r9.1.i r9.1.h) y4).bind fun r10 => some (q, r9.2, r10.2)) = some (q', r, t) ∧ QB q' ∧ Row_b r ∧ Row_b t := by
    intro y4 hy hy0
    obtain ⟨i3, h3, r, e3, k3, _, _, l3, _⟩ := l6DrawRow_ok h2 y4 hy k2
    obtain ⟨i4, h4, t, e4, k4, _, _, l4, _⟩ := l6DrawRow_ok h3 y4 hy k3
    rw [bnd_some e3]
    dsimp only
    rw [bnd_some e4]
    exact ⟨_, _, _, rfl, q2, by unfold Row_b IntS_b; omega, by unfold Row_b IntS_b; dsimp only; omega⟩
  rw [bnd_some (spec_l1In_eq _ _ _), lenI_eq, w64_id (by omega)]
  by_cases c : 0 ≤ q.Table ∧ q.Table ≤ (s.Cols.length : Int) - 1
  · have hlt : q.Table.toNat < s.Cols.length := by omega
    have := s3 _ (List.getElem_mem hlt)
    rw [decide_eq_true c, cond_true, getO_pos c.1, List.getElem?_eq_getElem hlt, Option.bind_some]
    exact fin _ (by omega) (by omega)
  · rw [decide_eq_false c, cond_false]
    exact fin 2 (by omega) (by omega)

theorem DrawAhead_ok (code : List Int) (hl : (code.length : Int) ≤ 1048576) : ∃ q r t, spec_DrawAhead.f code = some (q, r, t) ∧ QB q ∧ Row_b r ∧ Row_b t := by
  unfold spec_DrawAhead.f
  obtain ⟨q, r, t, e, h1, h2, h3⟩ := l9DrawOne_ok code hl
  rw [bnd_some e]
  exact ⟨_, _, _, rfl, h1, h2, h3⟩

theorem impl_within_eq (x y z : Int) : impl_within.f x y z = some (decide (y ≤ x ∧ x ≤ z)) := by
  unfold impl_within.f
  rw [bo3_and, Bool.decide_and]

def cellF (r : Row) (col : Int) : Int := if 0 ≤ col ∧ col ≤ (r.Cells.length : Int) - 1 then r.Cells.getD col.toNat 0 else 0
def aheadB (q : Query) (a b : Row) : Bool :=
  if q.Order = 0 then decide (a.Id < b.Id) else
    let x := cellF a (w64 (q.Order - 1)); let y := cellF b (w64 (q.Order - 1))
    if x = y then decide (a.Id < b.Id) else if q.Down then decide (y < x) else decide (x < y)

theorem impl_cellOf_eq (r : Row) (col : Int) (h : Row_b r) : impl_cellOf.f r col = some (cellF r col) := by
  have hl : r.Cells.length ≤ 9223372036854775807 := h
  unfold impl_cellOf.f cellF
  rw [lenI_eq, w64_id (by omega), impl_within_eq, Option.bind_some, bo3_not]
  by_cases d : 0 ≤ col ∧ col ≤ (r.Cells.length : Int) - 1
  · rw [decide_eq_true d, Bool.not_true, cond_false, getO_Int d, Option.bind_some, if_pos d]
  · rw [decide_eq_false d, Bool.not_false, cond_true, if_neg d]

theorem impl_Ahead_eq (q : Query) (a b : Row) (ha : Row_b a) (hb : Row_b b) : impl_Ahead.f q a b = some (aheadB q a b) := by
  unfold impl_Ahead.f aheadB
  rw [impl_cellOf_eq _ _ ha, impl_cellOf_eq _ _ hb]
  simp only [Option.bind_some, cond_ite, decide_eq_true_eq, some_if, bo3_not, bo3_xor, ne_eq, ite_not]
  all_goals (
    generalize cellF a (w64 (q.Order - 1)) = x
    generalize cellF b (w64 (q.Order - 1)) = y
    by_cases h0 : q.Order = 0
    · simp [h0]
    · by_cases h1 : x = y
      · simp [h0, h1]
      · cases hd : q.Down with
        | true =>
          simp only [h0, h1, if_false, if_true, Option.some.injEq, decide_eq_true_eq]
          by_cases h2 : x < y
          · simp [h2]; try omega
          · simp [h2]; try omega
        | false =>
          simp only [h0, h1, if_false, Option.some.injEq, decide_eq_true_eq]
          by_cases h2 : x < y
          · simp [h2]; try omega
          · simp [h2]; try omega)

theorem spec_l9Cell_eq (r : Row) (col : Int) (h : Row_b r) : spec_l9Cell.f r col = some (cellF r col) := by
  have hl : r.Cells.length ≤ 9223372036854775807 := h
  unfold spec_l9Cell.f cellF
  rw [lenI_eq, w64_id (by omega), spec_l1In_eq, Option.bind_some, bo3_not]
  by_cases d : 0 ≤ col ∧ col ≤ (r.Cells.length : Int) - 1
  · rw [decide_eq_true d, Bool.not_true, cond_false, getO_Int d, Option.bind_some, if_pos d]
  · rw [decide_eq_false d, Bool.not_false, cond_true, if_neg d]

theorem spec_Ahead_eq (q : Query) (a b : Row) (ha : Row_b a) (hb : Row_b b) : spec_Ahead.f q a b = some (aheadB q a b) := by
  unfold spec_Ahead.f aheadB
  rw [spec_l9Cell_eq _ _ ha, spec_l9Cell_eq _ _ hb]
  simp only [Option.bind_some, cond_ite, decide_eq_true_eq, some_if, bo3_not, bo3_xor, ne_eq, ite_not]
  all_goals (
    generalize cellF a (w64 (q.Order - 1)) = x
    generalize cellF b (w64 (q.Order - 1)) = y
    by_cases h0 : q.Order = 0
    · simp [h0]
    · by_cases h1 : x = y
      · simp [h0, h1]
      · cases hd : q.Down with
        | true =>
          simp only [h0, h1, if_false, if_true, Option.some.injEq, decide_eq_true_eq]
          by_cases h2 : x < y
          · simp [h2]; try omega
          · simp [h2]; try omega
        | false =>
          simp only [h0, h1, if_false, Option.some.injEq, decide_eq_true_eq]
          by_cases h2 : x < y
          · simp [h2]; try omega
          · simp [h2]; try omega)

theorem spec_l9Copy_eq (q : Query) (h : sz_Query q ≤ 1099511627776) : spec_l9Copy.f q = some q := by
  have p1 := sz_CondS_0 q.Where
  have p2 := sz_IntS_0 q.Show
  unfold sz_Query at h
  unfold sz_CondS at p1 h
  unfold sz_IntS at p2 h
  unfold spec_l9Copy.f
  rw [appO_ok (by simp only [List.length_nil]; omega), Option.bind_some, appO_ok (by simp only [List.length_nil]; omega), Option.bind_some]
  rfl

theorem DrawQuerySame_ok (code : List Int) (hl : (code.length : Int) ≤ 1048576) : ∃ p q, spec_DrawQuerySame.f code = some (p, q) ∧ QB p ∧ QB q := by
  unfold spec_DrawQuerySame.f
  obtain ⟨h0, e0, k0⟩ := l1New_ok code hl
  rw [bnd_some e0]
  obtain ⟨i1, h1, s, e1, k1, s1, s2, s3⟩ := l6DrawSchema_ok h0 k0
  have sb : SB s := ⟨by omega, fun x hx => by have := s3 x hx; omega⟩
  rw [bnd_some e1]
  obtain ⟨i2, h2, q, e2, k2, q2⟩ := l9Draw_ok h1 s sb k1
  obtain ⟨i3, h3, x3, e3, k3⟩ := l1Once_ok h2 2 k2
  dsimp only
  rw [bnd_some e2]
  dsimp only
  rw [bnd_some e3]
  dsimp only
  cases x3 with
  | true =>
    obtain ⟨i4, h4, x4, e4, k4⟩ := l1Once_ok h3 3 k3
    have hq : sz_Query q ≤ 1099511627776 := by
      have := q2.1
      have := q2.2
      unfold sz_Query sz_CondS sz_IntS
      omega
    rw [cond_true, bnd_some (spec_l9Copy_eq q hq), bnd_some e4]
    dsimp only
    cases x4 with
    | true => exact ⟨_, _, rfl, q2, q2⟩
    | false => exact ⟨_, _, rfl, q2, q2⟩
  | false =>
    obtain ⟨i4, h4, q', e4, k4, q4⟩ := l9Draw_ok h3 s sb k3
    rw [cond_false, bnd_some e4]
    exact ⟨_, _, rfl, q2, q4⟩

theorem bo3_last (c : Bool) : bo3 c true false = c := by cases c <;> rfl

theorem eqc_Cond (x y : Cond) : bo3 (decide (x.Col = y.Col)) (bo3 (decide (x.Op = y.Op)) (bo3 (decide (x.V = y.V)) true false) false) false = decide (x = y) := by
  cases x; cases y
  simp [bo3_and, bo3_last, Bool.decide_and]

theorem slices_Equal_impl_Cond_eq (a b : List Cond) (ha : CondS_b a) (hb : CondS_b b) : slices_Equal_impl_Cond.f a b = some (decide (a = b)) := by
  unfold CondS_b at ha hb
  unfold slices_Equal_impl_Cond.f
  by_cases hl : a.length = b.length
  · rw [decide_eq_false (by simp only [lenI_eq]; omega), cond_false]
    refine (loop_eq (f := slices_Equal_impl_Cond.l0 a b) hl (some false) (some true) (fun k i x y hx hy => ?_) (fun k i hi => ?_) _ (by simp only [lenI_eq]; omega)).trans ?_
    · have hi := at_lt hx
      rw [slices_Equal_impl_Cond.l0, lenI_eq, decide_eq_true (by omega), cond_true, getO_nat, hx, Option.bind_some, getO_nat, hy, Option.bind_some, eqc_Cond, bo3_not, w64_succ (by omega)]
      by_cases c : x = y
      · simp [c]
      · simp [c]
    · rw [slices_Equal_impl_Cond.l0, lenI_eq, decide_eq_false (by omega), cond_false]
    · cases decide (a = b) <;> rfl
  · rw [decide_eq_true (by simp only [lenI_eq]; omega), cond_true, decide_eq_false (fun e => hl (by rw [e]))]

theorem slices_Equal_int_eq (a b : List Int) (ha : IntS_b a) (hb : IntS_b b) : slices_Equal_int.f a b = some (decide (a = b)) := by
  unfold IntS_b at ha hb
  unfold slices_Equal_int.f
  by_cases hl : a.length = b.length
  · rw [decide_eq_false (by simp only [lenI_eq]; omega), cond_false]
    refine (loop_eq (f := slices_Equal_int.l0 a b) hl (some false) (some true) (fun k i x y hx hy => ?_) (fun k i hi => ?_) _ (by simp only [lenI_eq]; omega)).trans ?_
    · have hi := at_lt hx
      rw [slices_Equal_int.l0, lenI_eq, decide_eq_true (by omega), cond_true, getO_nat, hx, Option.bind_some, getO_nat, hy, Option.bind_some, w64_succ (by omega)]
      by_cases c : x = y
      · simp [c]
      · simp [c]
    · rw [slices_Equal_int.l0, lenI_eq, decide_eq_false (by omega), cond_false]
    · cases decide (a = b) <;> rfl
  · rw [decide_eq_true (by simp only [lenI_eq]; omega), cond_true, decide_eq_false (fun e => hl (by rw [e]))]

def qsameB (a b : Query) : Bool := decide (a = b)
theorem query_eq (a b : Query) : decide (a = b) = (decide (a.Table = b.Table) && decide (a.Where = b.Where) && decide (a.Order = b.Order) && (a.Down == b.Down) && decide (a.First = b.First) && decide (a.Show = b.Show) && (a.Kids == b.Kids) && decide (a.KidTable = b.KidTable) && decide (a.KidCol = b.KidCol)) := by
  cases a; cases b
  rw [Bool.eq_iff_iff]
  simp [and_assoc]

theorem impl_QuerySame_eq (a b : Query) (ha : Query_b a) (hb : Query_b b) : impl_QuerySame.f a b = some (decide (a = b)) := by
  unfold impl_QuerySame.f
  simp only [slices_Equal_impl_Cond_eq _ _ ha.1 hb.1, slices_Equal_int_eq _ _ ha.2 hb.2, gd_of, Option.bind_some, query_eq]
  cases decide (a.Table = b.Table) <;> cases decide (a.Order = b.Order) <;> cases decide (a.First = b.First) <;> cases a.Down <;> cases b.Down <;> first | rfl | skip
  all_goals cases decide (a.Where = b.Where) <;> cases decide (a.Show = b.Show) <;> cases a.Kids <;> cases b.Kids <;> cases decide (a.KidTable = b.KidTable) <;> cases decide (a.KidCol = b.KidCol) <;> rfl

/-- Two lists compared as far as both go, then their lengths. -/
theorem loop_eq2 {R α : Type} [DecidableEq α] {f : Nat → Int → Option R} {l m : List α} (c : Bool → R) (h0 : ∀ k (i : Nat) x y, l[i]? = some x → m[i]? = some y → f (k + 1) i = bif decide (x = y) then f k ((i + 1 : Nat) : Int) else some (c false)) (h1 : ∀ k (i : Nat), i ≤ l.length → i ≤ m.length → (i = l.length ∨ i = m.length) → f (k + 1) i = some (c (decide (l.length = m.length)))) :
    ∀ (k i : Nat), i ≤ l.length → i ≤ m.length → l.length < i + k → l.take i = m.take i → f k (i : Int) = some (c (decide (l = m)))
  | 0, i, h, h', h2, _ => by omega
  | k + 1, i, h, h', h2, ht => by
    by_cases hi : i < l.length ∧ i < m.length
    · have hx : l[i]? = some l[i] := List.getElem?_eq_getElem hi.1
      have hy : m[i]? = some m[i] := List.getElem?_eq_getElem hi.2
      rw [h0 k i _ _ hx hy]
      by_cases e : l[i] = m[i]
      · rw [decide_eq_true e, cond_true]
        exact loop_eq2 c h0 h1 k (i + 1) (by omega) (by omega) (by omega) (by rw [List.take_add_one, List.take_add_one, ht, hx, hy, e])
      · rw [decide_eq_false e, cond_false, decide_eq_false (fun h => e (by subst h; rfl))]
    · rw [h1 k i h h' (by omega)]
      congr 2
      rw [decide_eq_decide]
      constructor
      · intro hl
        rw [← List.take_of_length_le (l := l) (i := i) (by omega), ht, List.take_of_length_le (by omega)]
      · intro e; rw [e]

theorem spec_l9Conds_eq (a b : List Cond) (ha : CondS_b a) (hb : CondS_b b) : spec_l9Conds.f a b = some (decide (a = b)) := by
  unfold CondS_b at ha hb
  unfold spec_l9Conds.f
  refine loop_eq2 (f := spec_l9Conds.l0 a b) (l := a) (m := b) id (fun k i x y hx hy => ?_) (fun k i h1 h2 hi => ?_) _ 0 (by omega) (by omega) (by (try simp only [lenI_eq]); omega) rfl
  · have hi := at_lt hx
    have hj := at_lt hy
    rw [spec_l9Conds.l0, lenI_eq, lenI_eq, decide_eq_true (by omega : (i : Int) < a.length), decide_eq_true (by omega : (i : Int) < b.length), show bo3 true true false = true from rfl, cond_true, getO_nat, hx, Option.bind_some, getO_nat, hy, Option.bind_some, eqc_Cond, bo3_not, w64_succ (by omega)]
    by_cases c : x = y
    · simp [c]
    · simp [c]
  · rw [spec_l9Conds.l0, lenI_eq, lenI_eq]
    have : (bo3 (decide ((i : Int) < a.length)) (decide ((i : Int) < b.length)) false) = false := by
      rw [bo3_and, ← Bool.decide_and]
      exact decide_eq_false (by omega)
    rw [this, cond_false]
    simp only [id_eq, Option.some.injEq, decide_eq_decide]; omega

theorem spec_l9Ints_eq (a b : List Int) (ha : IntS_b a) (hb : IntS_b b) : spec_l9Ints.f a b = some (decide (a = b)) := by
  unfold IntS_b at ha hb
  unfold spec_l9Ints.f
  refine loop_eq2 (f := spec_l9Ints.l0 a b) (l := a) (m := b) id (fun k i x y hx hy => ?_) (fun k i h1 h2 hi => ?_) _ 0 (by omega) (by omega) (by (try simp only [lenI_eq]); omega) rfl
  · have hi := at_lt hx
    have hj := at_lt hy
    rw [spec_l9Ints.l0, lenI_eq, lenI_eq, decide_eq_true (by omega : (i : Int) < a.length), decide_eq_true (by omega : (i : Int) < b.length), show bo3 true true false = true from rfl, cond_true, getO_nat, hx, Option.bind_some, getO_nat, hy, Option.bind_some,  w64_succ (by omega)]
    by_cases c : x = y
    · simp [c]
    · simp [c]
  · rw [spec_l9Ints.l0, lenI_eq, lenI_eq]
    have : (bo3 (decide ((i : Int) < a.length)) (decide ((i : Int) < b.length)) false) = false := by
      rw [bo3_and, ← Bool.decide_and]
      exact decide_eq_false (by omega)
    rw [this, cond_false]
    simp only [id_eq, Option.some.injEq, decide_eq_decide]; omega

theorem spec_QuerySame_eq (a b : Query) (ha : Query_b a) (hb : Query_b b) : spec_QuerySame.f a b = some (decide (a = b)) := by
  unfold spec_QuerySame.f
  simp only [spec_l9Conds_eq _ _ ha.1 hb.1, spec_l9Ints_eq _ _ ha.2 hb.2, gd_of, Option.bind_some, query_eq]
  cases decide (a.Table = b.Table) <;> cases decide (a.Where = b.Where) <;> cases decide (a.Order = b.Order) <;> cases decide (a.First = b.First) <;> cases a.Down <;> cases b.Down <;> first | rfl | skip
  all_goals cases decide (a.Show = b.Show) <;> cases a.Kids <;> cases b.Kids <;> cases decide (a.KidTable = b.KidTable) <;> cases decide (a.KidCol = b.KidCol) <;> rfl

theorem laws_big_eq (l : List Int) : laws_big.f l = some (decide (1048576 < (l.length : Int))) := by unfold laws_big.f; rw [lenI_eq]

theorem DrawMatches_ok (code : List Int) (hl : (code.length : Int) ≤ 1048576) : ∃ q r, spec_DrawMatches.f code = some (q, r) ∧ QB q ∧ Row_b r := by
  unfold spec_DrawMatches.f
  obtain ⟨q, r, t, e, h1, h2, h3⟩ := l9DrawOne_ok code hl
  rw [bnd_some e]
  exact ⟨_, _, rfl, h1, h2⟩

def cmpB (op v z : Int) : Bool := if op = 1 then decide (v = z) else if op = 2 then decide (v < z) else if op = 3 then decide (z < v) else if op = 4 then decide (v ≠ z) else false
def holdsB (c : Cond) (r : Row) : Bool := decide (0 ≤ c.Col ∧ c.Col ≤ (r.Cells.length : Int) - 1) && cmpB c.Op (r.Cells.getD c.Col.toNat 0) c.V
def matchesB (q : Query) (r : Row) : Bool := q.Where.all fun c => holdsB c r

theorem impl_holds_eq (c : Cond) (r : Row) (h : Row_b r) : impl_holds.f c r = some (holdsB c r) := by
  have hl : r.Cells.length ≤ 9223372036854775807 := h
  unfold impl_holds.f holdsB
  rw [lenI_eq, w64_id (by omega), impl_within_eq, Option.bind_some, bo3_not]
  by_cases d : 0 ≤ c.Col ∧ c.Col ≤ (r.Cells.length : Int) - 1
  · rw [decide_eq_true d, Bool.not_true, cond_false, getO_Int d, Option.bind_some, Bool.true_and]
    simp only [cond_ite, decide_eq_true_eq, some_if, bo3_and, cmpB]
    all_goals ((repeat' split) <;> simp_all)
  · rw [decide_eq_false d, Bool.not_false, cond_true, Bool.false_and]

theorem impl_Matches_eq (q : Query) (r : Row) (hq : CondS_b q.Where) (h : Row_b r) : impl_Matches.f q r = some (matchesB q r) := by
  have hl : q.Where.length ≤ 9223372036854775807 := hq
  unfold impl_Matches.f
  refine (loop_all (f := impl_Matches.l0 q r) (l := q.Where) (fun _ c => holdsB c r) (some false) (some true) (fun k i x hx => ?_) (fun k i hi => ?_) _ 0 (by omega) (by (try simp only [lenI_eq]); omega)).trans ?_
  · have hi := at_lt hx
    rw [impl_Matches.l0, lenI_eq, decide_eq_true (by omega), cond_true, getO_nat, hx, Option.bind_some, impl_holds_eq _ _ h, Option.bind_some, bo3_not, w64_succ (by omega)]
    cases holdsB x r <;> rfl
  · rw [impl_Matches.l0, lenI_eq, decide_eq_false (by omega), cond_false]
  · rw [allFrom_zero, matchesB]
    cases q.Where.all fun c => holdsB c r <;> rfl

theorem spec_l9Holds_eq (c : Cond) (r : Row) (h : Row_b r) : spec_l9Holds.f c r = some (holdsB c r) := by
  have hl : r.Cells.length ≤ 9223372036854775807 := h
  unfold spec_l9Holds.f holdsB
  rw [lenI_eq, w64_id (by omega), spec_l1In_eq, Option.bind_some, bo3_not]
  by_cases d : 0 ≤ c.Col ∧ c.Col ≤ (r.Cells.length : Int) - 1
  · rw [decide_eq_true d, Bool.not_true, cond_false, getO_Int d, Option.bind_some, Bool.true_and]
    simp only [cond_ite, decide_eq_true_eq, some_if, bo3_and, cmpB]
    all_goals ((repeat' split) <;> simp_all)
  · rw [decide_eq_false d, Bool.not_false, cond_true, Bool.false_and]

theorem spec_Matches_eq (q : Query) (r : Row) (hq : CondS_b q.Where) (h : Row_b r) : spec_Matches.f q r = some (matchesB q r) := by
  have hl : q.Where.length ≤ 9223372036854775807 := hq
  unfold spec_Matches.f
  refine (loop_all (f := spec_Matches.l0 q r) (l := q.Where) (fun _ c => holdsB c r) (some false) (some true) (fun k i x hx => ?_) (fun k i hi => ?_) _ 0 (by omega) (by (try simp only [lenI_eq]); omega)).trans ?_
  · have hi := at_lt hx
    rw [spec_Matches.l0, lenI_eq, decide_eq_true (by omega), cond_true, getO_nat, hx, Option.bind_some, spec_l9Holds_eq _ _ h, Option.bind_some, bo3_not, w64_succ (by omega)]
    cases holdsB x r <;> rfl
  · rw [spec_Matches.l0, lenI_eq, decide_eq_false (by omega), cond_false]
  · rw [allFrom_zero, matchesB]
    cases q.Where.all fun c => holdsB c r <;> rfl

theorem ahead_iff (q : Query) (a b : Row) : aheadB q a b = true ↔ (q.Order = 0 ∧ a.Id < b.Id) ∨ (q.Order ≠ 0 ∧ ((cellF a (w64 (q.Order - 1)) = cellF b (w64 (q.Order - 1)) ∧ a.Id < b.Id) ∨ (q.Down = true ∧ cellF b (w64 (q.Order - 1)) < cellF a (w64 (q.Order - 1))) ∨ (q.Down = false ∧ cellF a (w64 (q.Order - 1)) < cellF b (w64 (q.Order - 1))))) := by
  unfold aheadB
  by_cases h0 : q.Order = 0
  · rw [if_pos h0, decide_eq_true_eq]
    exact ⟨fun h => .inl ⟨h0, h⟩, fun h => h.elim (fun h => h.2) (fun h => absurd h0 h.1)⟩
  · rw [if_neg h0]
    dsimp only
    generalize cellF a (w64 (q.Order - 1)) = x
    generalize cellF b (w64 (q.Order - 1)) = y
    by_cases e : x = y
    · rw [if_pos e, decide_eq_true_eq]
      constructor
      · exact fun h => .inr ⟨h0, .inl ⟨e, h⟩⟩
      · rintro (h | ⟨_, h | h | h⟩)
        · exact absurd h.1 h0
        · exact h.2
        · omega
        · omega
    · rw [if_neg e]
      cases q.Down with
      | true =>
        rw [if_pos rfl, decide_eq_true_eq]
        constructor
        · exact fun h => .inr ⟨h0, .inr (.inl ⟨rfl, h⟩)⟩
        · rintro (h | ⟨_, h | h | h⟩)
          · exact absurd h.1 h0
          · exact absurd h.1 e
          · exact h.2
          · cases h.1
      | false =>
        rw [if_neg (by simp), decide_eq_true_eq]
        constructor
        · exact fun h => .inr ⟨h0, .inr (.inr ⟨rfl, h⟩)⟩
        · rintro (h | ⟨_, h | h | h⟩)
          · exact absurd h.1 h0
          · exact absurd h.1 e
          · cases h.1
          · exact h.2
theorem ahead_irr (q : Query) (a : Row) : aheadB q a a = false := by
  rw [← Bool.not_eq_true, ahead_iff]
  omega
theorem ahead_asym {q : Query} {a b : Row} (h : aheadB q a b = true) : aheadB q b a = false := by
  rw [← Bool.not_eq_true, ahead_iff]
  rw [ahead_iff] at h
  cases hd : q.Down <;> simp only [hd, true_and, false_and, false_or, or_false, Bool.false_eq_true, Bool.true_eq_false] at h ⊢ <;> omega
theorem ahead_total {q : Query} {a b : Row} (hi : a.Id ≠ b.Id) (h : aheadB q a b = false) : aheadB q b a = true := by
  rw [ahead_iff]
  rw [← Bool.not_eq_true, ahead_iff] at h
  cases hd : q.Down <;> simp only [hd, true_and, false_and, false_or, or_false, Bool.false_eq_true, Bool.true_eq_false] at h ⊢ <;> omega
theorem ahead_trans {q : Query} {a b c : Row} (h1 : aheadB q a b = true) (h2 : aheadB q b c = true) : aheadB q a c = true := by
  rw [ahead_iff] at *
  cases hd : q.Down <;> simp only [hd, true_and, false_and, false_or, or_false, Bool.false_eq_true, Bool.true_eq_false] at h1 h2 ⊢ <;> omega

theorem laws_FnAhead_pure (a0 : List Int) (b0 : IntS_b a0) (r0 : ∀ y ∈ a0, 0 ≤ y ∧ y ≤ 255) : laws_FnAhead.f a0 = some true := by
  unfold laws_FnAhead.f
  rw [laws_big_eq, Option.bind_some]
  by_cases hb : 1048576 < (a0.length : Int)
  · rw [decide_eq_true hb]; rfl
  rw [decide_eq_false hb, cond_false]
  obtain ⟨q, a, b, e, hq, ha, hb'⟩ := DrawAhead_ok a0 (by omega)
  obtain ⟨p, c, e2, hp, hc⟩ := DrawMatches_ok a0 (by omega)
  obtain ⟨d, f, e3, hd, hf⟩ := DrawQuerySame_ok a0 (by omega)
  rw [bnd_some e]
  dsimp only
  have key : ∀ (x y d : Bool), (x = true → y = false) → (d = true → x = false → y = true) → (bo3 (bo3 (bo3 false true (bo3 x y false)) true (bo3 (bo3 d (bo3 x false true) false) (bo3 y false true) false)) true (bif bo3 (bo3 (bo3 false true (bo3 x y false)) true (bo3 (bo3 d (bo3 x false true) false) (bo3 y false true) false)) false true then false else default)) = false := by
    intro x y d h1 h2
    cases x <;> cases y <;> cases d <;> simp_all [bo3]
  have t1 : aheadB q a b = true → aheadB q b a = false := ahead_asym
  have t2 : decide (a.Id ≠ b.Id) = true → aheadB q a b = false → aheadB q b a = true := fun h => ahead_total (of_decide_eq_true h)
  rw [bnd_some (impl_Ahead_eq q a b ha hb'), bnd_some (impl_Ahead_eq q b a hb' ha), bnd_some (spec_Ahead_eq q a b ha hb'), impl_Ahead_eq q a a ha ha, ahead_irr, gd_of, Option.bind_some, bo3_self, key _ _ _ t1 t2, cond_false, bnd_some e2]
  dsimp only
  rw [bnd_some (impl_Matches_eq p c hp.b.1 hc), bnd_some (spec_Matches_eq p c hp.b.1 hc), bo3_self, cond_false, bnd_some e3]
  dsimp only
  rw [bnd_some (impl_QuerySame_eq d f hd.b hf.b), bnd_some (spec_QuerySame_eq d f hd.b hf.b), impl_QuerySame_eq f d hf.b hd.b, gd_of, Option.bind_some, impl_QuerySame_eq d d hd.b hd.b, gd_of, Option.bind_some, impl_Ahead_eq q b c hb' hc, gd_of, Option.bind_some, impl_Ahead_eq q a c ha hc, gd_of, Option.bind_some]
  have hsym : decide (f = d) = decide (d = f) := decide_eq_decide.2 ⟨fun h => h.symm, fun h => h.symm⟩
  have t3 : aheadB q a b = true → aheadB q b c = true → aheadB q a c = true := ahead_trans
  rw [hsym, decide_eq_true (rfl : d = d)]
  revert t3
  generalize aheadB q a b = x
  generalize aheadB q b c = z
  generalize aheadB q a c = w
  generalize decide (d = f) = v
  intro t3
  cases x <;> cases z <;> cases w <;> cases v <;> simp_all [bo3]

end Go.Proofs.Ytkgoleipdcbekaa.L
