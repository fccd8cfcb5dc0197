/- What the pure functions give. -/
import Derived.Test.YtgjboegobhafhaaGreatDoorFxEvalPv0
import Derived.Test.YtgjboegobhafhaaGreatDoorFxEvalU
namespace Go.Proofs.YtgjboegobhafhaaGreatDoor.L
open Go
set_option linter.unusedVariables false
set_option linter.unusedSimpArgs false
mutual
def szj : Json → Int
 | ⟨_, _, _, l, ns⟩ => szL l + (ns.length : Int)
def szL : List Json → Int
 | [] => 0
 | x :: l => 1 + szj x + szL l
end
mutual
def dpj : Json → Nat
 | ⟨_, _, _, l, _⟩ => dpL l + 1
def dpL : List Json → Nat
 | [] => 0
 | x :: l => max (dpj x) (dpL l)
end
mutual
theorem szj_0 : ∀ x : Json, 0 ≤ szj x
 | ⟨_, _, _, l, ns⟩ => by have := szL_0 l; rw [szj]; omega
theorem szL_0 : ∀ l : List Json, 0 ≤ szL l
 | [] => by rw [szL]; omega
 | x :: l => by have := szj_0 x; have := szL_0 l; rw [szL]; omega
end
theorem qMU : ∀ l : List Json, szL l = (l.map fun x => 1 + szj x).sum
 | [] => by simp [szL]
 | x :: l => by rw [szL, qMU l, List.map_cons, List.sum_cons]
theorem qTR : ∀ l : List Json, (l.length : Int) ≤ szL l
 | [] => by simp [szL]
 | x :: l => by have := qTR l; have := szj_0 x; rw [szL]; simp only [List.length_cons]; omega
theorem qaW {l : List Json} {x : Json} (h : x ∈ l) : 1 + szj x ≤ szL l := by
 rw [qMU]; exact qeO (s := fun x => 1 + szj x) (fun x => by have := szj_0 x; omega) h
theorem qNU : ∀ {l : List Json} {x : Json}, x ∈ l → dpj x ≤ dpL l
 | y :: l, x, h => by
  rw [dpL]
  rcases List.mem_cons.1 h with rfl | h
  · omega
  · have := qNU h; omega
theorem qGS (x : Json) : szj x = szL x.List_ + (x.Names.length : Int) := by cases x; rw [szj]
theorem qRL (x : Json) : dpj x = dpL x.List_ + 1 := by cases x; rw [dpj]
def qtE (x : Json) : Int := szj x + (if dpj x ≤ 500 then 0 else 4611686018427387904)
def qIK (x : Json) : Prop := qtE x ≤ 1099511627776
theorem qOU (x : Json) : 0 ≤ qtE x := by have := szj_0 x; unfold qtE; split <;> omega
theorem qKQ {x : Json} (h : qtE x ≤ 4611686018427387903) : dpj x ≤ 500 ∧ szj x = qtE x := by
 have := szj_0 x
 unfold qtE at *
 split at h
 · rename_i c; exact ⟨c, by rw [if_pos c]; omega⟩
 · omega
theorem ba_eq {x y : ByteArray} : (x.toList == y.toList) = decide (x = y) := by
 have h : x.toList = y.toList ↔ x = y := by
  constructor
  ·
   intro h
   have : x.data.toList = y.data.toList := by
    have e : ∀ z : ByteArray, z.toList = z.data.toList := fun z => ByteArray.toList_eq z
    rw [← e, ← e]; exact h
   cases x; cases y; simp_all
  · rintro rfl; rfl
 by_cases c : x = y
 · subst c; simp
 ·
  rw [decide_eq_false c]
  simp only [beq_eq_false_iff_ne, ne_eq]
  exact fun e => c (h.1 e)
theorem qaG (x y : ByteArray) : Ls.sc .neq x y = decide (x ≠ y) := by
 show (!(x.toList == y.toList)) = _
 rw [ba_eq]; by_cases c : x = y <;> simp [c]
theorem qbW (x y : ByteArray) : (Ls.sa x y).size = x.size + y.size := by show (x ++ y).size = _; simp
theorem qUR : ∀ (k : Nat) (z : Int) (s : ByteArray), 0 ≤ z → z.toNat < k → (s.size : Int) + z ≤ 9223372036854775800 → ∃ r, qiB.l0 k z s = some r := by
 intro k
 induction k with
 | zero => intro z s h h'; omega
 | succ k ih =>
  intro z s h0 hk hs
  rw [qiB.l0]
  by_cases c : 0 < z
  ·
   rw [decide_eq_true c, cond_true, Option.bind_some, Option.bind_some]
   have hb : (bsO [IntKind.wrap .u8 (w64 (48 + Int.tmod z 10))]).size = 1 := rfl
   have hd : Int.tdiv z 10 = z / 10 := Int.tdiv_eq_ediv_of_nonneg h0
   rw [show smO (bsO [IntKind.wrap .u8 (w64 (48 + Int.tmod z 10))]) s = some () by unfold smO; rw [if_pos (by rw [hb]; omega)], Option.bind_some, hd, qJB (by omega)]
   exact ih (z / 10) _ (by omega) (by omega) (by rw [qbW, hb]; omega)
  ·
   have hb : (ByteArray.mk #[109]).size = 1 := rfl
   rw [decide_eq_false c, cond_false, show smO (ByteArray.mk #[109]) s = some () by unfold smO; rw [if_pos (by rw [hb]; omega)], Option.bind_some]
   exact ⟨_, rfl⟩
theorem qSL (k : Int) (h : 0 ≤ k ∧ k ≤ 4611686018427387999) : ∃ r, qiB.f k = some r := by
 unfold qiB.f
 by_cases c : k ≤ 0
 · rw [decide_eq_true c, cond_true]; exact ⟨_, rfl⟩
 ·
  rw [decide_eq_false c, cond_false]
  exact qUR _ k _ (by omega) (by omega) (by show ((0 : Nat) : Int) + k ≤ _; omega)
def qPU (x : ByteArray) (q q' : Int) : Prop := qiB.f q = some x ∧ q' = q + 1
theorem qLQ (l : List ByteArray) (q : Int) (hq : 0 ≤ q) (hB : q + 16 * (l.length : Int) ≤ 4611686018427387904) : ∃ l' q', qVB.f l q = some (l', q') ∧ qbB.f l' q = some q' ∧ q ≤ q' ∧ q' ≤ q + 16 * (l.length : Int) := by
 have step : ∀ k (i : Nat) (s : List ByteArray) (x : ByteArray) (q : Int), s.length = l.length → s[i]? = some x → 0 ≤ q → q + 16 ≤ 4611686018427387904 → ∃ x' q', qVB.l0 (k + 1) s q i = qVB.l0 k (s.set i x') q' ((i + 1 : Nat) : Int) ∧ q ≤ q' ∧ q' ≤ q + 16 ∧ qPU x' q q' := by
  intro k i s x q hn hx hq hB
  have hi := at_lt hx
  obtain ⟨r, hr⟩ := qSL q (by omega)
  refine ⟨r, q + 1, ?_, by omega, by omega, hr, rfl⟩
  rw [qVB.l0, qG, decide_eq_true (by omega), cond_true, hr, Option.bind_some, qg, hx, Option.bind_some, Option.bind_some, qJB (by omega), qw (by omega), qlE]
 have last : ∀ k (s : List ByteArray) (q : Int) (i : Nat), i = s.length → qVB.l0 (k + 1) s q i = some (s, q) := by
  intro k s q i hi
  rw [qVB.l0, qG, decide_eq_false (by omega), cond_false]
 have es : ∀ m : List ByteArray, (m.map fun _ => (16 : Int)).sum = 16 * (m.length : Int) := fun m => by
  induction m with
  | nil => rfl
  | cons x m ih => rw [List.map_cons, List.sum_cons, ih]; simp only [List.length_cons]; omega
 obtain ⟨l', q', m, hl, _, lo, hi, hd⟩ := qqF (fm := qVB.l0) l.length 4611686018427387904 (fun _ => 16) qPU (fun _ => by omega) step last (((lenI l) - 0).toNat + 1) 0 l q rfl (by omega) (by simp only [qG]; omega) hq (by rw [List.drop_zero, es]; omega)
 rw [List.drop_zero] at hd hi
 rw [es] at hi
 refine ⟨l', q', m, ?_, lo, hi⟩
 unfold qbB.f
 refine qQL (fh := qbB.l0 l') (l := l') qPU (fun x q q' h => by have := h.2; omega) (fun k i x q q' hx hd hq hB => ?_) (fun k q i hi => ?_) _ 0 q q' (by omega) (by simp only [qG]; omega) hq (by omega) (by rw [List.drop_zero]; exact hd)
 ·
  have hi := at_lt hx
  obtain ⟨h1, rfl⟩ := hd
  rw [qbB.l0, qG, decide_eq_true (by omega), cond_true, qg, hx, Option.bind_some, h1, Option.bind_some, qaG, decide_eq_false (by simp), cond_false, qJB (by omega), qw (by omega)]
 · rw [qbB.l0, qG, decide_eq_false (by omega), cond_false]
def qVR (H : List Json → Int → Option Int) (x : Json) (q q' : Int) : Prop := x.Kind = q ∧ x.N = q + 1 ∧ qiB.f (q + 2) = some x.S ∧ ∃ q1, q + 3 ≤ q1 ∧ H x.List_ (q + 3) = some q1 ∧ qbB.f x.Names q1 = some q' ∧ q1 ≤ q'
theorem qMQ : ∀ (k : Nat) (l : List Json) (q : Int), dpL l < k → 0 ≤ q → q + 16 * szL l ≤ 4611686018427387904 → ∃ l' q', qt.g k l q = some (l', q') ∧ qBB.g k l' q = some q' ∧ q ≤ q' ∧ q' ≤ q + 16 * szL l := by
 intro k
 induction k with
 | zero => intro l q h; omega
 | succ n ih =>
  intro l q hd hq hB
  have hlen := qTR l
  have step : ∀ k (i : Nat) (s : List Json) (x : Json) (q : Int), s.length = l.length → s[i]? = some x → 0 ≤ q → q + (fun x => 16 * (1 + szj x) + (if dpj x < n + 1 then 0 else 4611686018427387905)) x ≤ 4611686018427387904 → ∃ x' q', qt.l0 (qt.g n) (k + 1) s q i = qt.l0 (qt.g n) k (s.set i x') q' ((i + 1 : Nat) : Int) ∧ q ≤ q' ∧ q' ≤ q + (fun x => 16 * (1 + szj x) + (if dpj x < n + 1 then 0 else 4611686018427387905)) x ∧ qVR (qBB.g n) x' q q' := by
   intro k i s x q hn hx hq hB
   have hi := at_lt hx
   have z0 := szj_0 x
   dsimp only at hB ⊢
   have hdx : dpj x < n + 1 := by
    by_cases c : dpj x < n + 1
    · exact c
    · rw [if_neg c] at hB; omega
   rw [if_pos hdx] at hB ⊢
   rw [qRL] at hdx
   have ze := qGS x
   have zl := szL_0 x.List_
   obtain ⟨r, hr⟩ := qSL (q + 2) (by omega)
   obtain ⟨l1, q1, m1, d1, a1, b1⟩ := ih x.List_ (q + 3) (by omega) (by omega) (by omega)
   obtain ⟨l2, q2, m2, d2, a2, b2⟩ := qLQ x.Names q1 (by omega) (by omega)
   refine ⟨⟨q, q + 1, r, l1, l2⟩, q2, ?_, by omega, by omega, rfl, rfl, hr, q1, a1, d1, d2, a2⟩
   have g0 : getO s i = some x := by rw [qg, hx]
   have w1 : w64 (q + 1) = q + 1 := qJB (by omega)
   have w2 : w64 (q + 1 + 1) = q + 2 := by rw [qJB (by omega)]; omega
   have w3 : w64 (q + 2 + 1) = q + 3 := by rw [qJB (by omega)]; omega
   rw [qt.l0, qG, decide_eq_true (by omega), cond_true]
   simp only [g0, qJL g0, qpH, Option.bind_some, w1, w2, w3, hr, m1, m2]
   rw [qw (by omega), qlE]
  have last : ∀ k (s : List Json) (q : Int) (i : Nat), i = s.length → qt.l0 (qt.g n) (k + 1) s q i = some (s, q) := by
   intro k s q i hi
   rw [qt.l0, qG, decide_eq_false (by omega), cond_false]
  have es : ∀ m : List Json, dpL m < n + 1 → (m.map fun x => 16 * (1 + szj x) + (if dpj x < n + 1 then (0 : Int) else 4611686018427387905)).sum = 16 * szL m := fun m hm => by
   induction m with
   | nil => simp [szL]
   | cons x m ih =>
    rw [dpL] at hm
    rw [List.map_cons, List.sum_cons, ih (by omega), szL, if_pos (by omega)]; omega
  obtain ⟨l', q', m, hl, _, lo, hi, hdd⟩ := qqF (fm := qt.l0 (qt.g n)) l.length 4611686018427387904 (fun x => 16 * (1 + szj x) + (if dpj x < n + 1 then 0 else 4611686018427387905)) (qVR (qBB.g n)) (fun x => by have := szj_0 x; split <;> omega) step last (((lenI l) - 0).toNat + 1) 0 l q rfl (by omega) (by simp only [qG]; omega) hq (by rw [List.drop_zero, es l (by omega)]; omega)
  rw [List.drop_zero] at hdd hi
  rw [es l (by omega)] at hi
  refine ⟨l', q', by rw [qt.g, qt.b]; exact m, ?_, lo, hi⟩
  rw [qBB.g, qBB.b]
  refine qQL (fh := qBB.l0 l' (qBB.g n)) (l := l') (qVR (qBB.g n)) (fun x q q' h => by obtain ⟨_, _, _, q1, h1, _, _, h2⟩ := h; omega) (fun k i x q q' hx hd hq hB => ?_) (fun k q i hi => ?_) _ 0 q q' (by omega) (by simp only [qG]; omega) hq (by omega) (by rw [List.drop_zero]; exact hdd)
  ·
   have hi := at_lt hx
   obtain ⟨e1, e2, e3, q1, e4, e5, e6, e7⟩ := hd
   have w1 : w64 (q + 1) = q + 1 := qJB (by omega)
   have w2 : w64 (q + 1 + 1) = q + 2 := by rw [qJB (by omega)]; omega
   have w3 : w64 (q + 2 + 1) = q + 3 := by rw [qJB (by omega)]; omega
   rw [qBB.l0, qG, decide_eq_true (by omega), cond_true, qg, hx, Option.bind_some, w1, w2, w3, e1, e2, e3]
   rw [decide_eq_false (by simp), cond_false, decide_eq_false (by simp), cond_false, Option.bind_some, qaG, decide_eq_false (by simp), cond_false, e5, Option.bind_some, decide_eq_false (by omega), cond_false, e6, Option.bind_some, decide_eq_false (by omega), cond_false, qw (by omega)]
  · rw [qBB.l0, qG, decide_eq_false (by omega), cond_false]
theorem qQU (x : Json) (q : Int) (hq : 0 ≤ q) (hB : q + 16 * qtE x ≤ 4611686018427387904) : ∃ s0 s1 q', qnE.f x q = some ((Json.mk x.Kind x.N x.S s0 s1), q') ∧ qEE.f (Json.mk x.Kind x.N x.S s0 s1) q = some q' ∧ q ≤ q' ∧ q' ≤ q + 16 * qtE x := by
 obtain ⟨h1, h2⟩ := qKQ (x := x) (by omega)
 rw [← h2] at hB ⊢
 rw [qRL] at h1
 have ze := qGS x
 have zl := szL_0 x.List_
 obtain ⟨l1, q1, m1, d1, a1, b1⟩ := qMQ 1000 x.List_ q (by omega) hq (by omega)
 obtain ⟨l2, q2, m2, d2, a2, b2⟩ := qLQ x.Names q1 (by omega) (by omega)
 refine ⟨l1, l2, q2, ?_, ?_, by omega, by omega⟩
 ·
  unfold qnE.f qt.f
  rw [m1, Option.bind_some, m2, Option.bind_some]
 ·
  unfold qEE.f qBB.f
  rw [d1, Option.bind_some, decide_eq_false (by omega), cond_false, d2, Option.bind_some, decide_eq_false (by omega), cond_false]
def qAD (l : List Int) : Int := l.length
def qqH (l : List Int) : Prop := l.length ≤ 9223372036854775807
theorem qjD (l : List Int) : 0 ≤ qAD l := by unfold qAD; omega
def qRU (l : List Int) : Prop := ∀ x ∈ l, (-9223372036854775808 ≤ x ∧ x ≤ 9223372036854775807)
theorem qbG (a : List Int) (n : Int) (hn : 0 ≤ n ∧ n ≤ 1048576) (hb : qqH a) : qXE.f a n = some (if n < qAD a then -1 else n - qAD a) := by
 unfold qXE.f qAD
 unfold qqH at hb
 rw [qG, qJB (by omega)]
 by_cases c : n < (a.length : Int)
 · rw [if_pos c, decide_eq_true (by omega), cond_true]
 · rw [if_neg c, decide_eq_false (by omega), cond_false]
def qWD (x : Schema) : Int := qAD x.Cols
def qqD (x : Schema) : Prop := qqH x.Cols
theorem qSH (x : Schema) : 0 ≤ qWD x := by unfold qWD; exact by have := qjD x.Cols;  omega
def qcV (x : Schema) : Prop := qRU x.Cols
theorem qMK (a : Schema) (n : Int) (hn : 0 ≤ n ∧ n ≤ 1048576) (hb : qqD a) : qoE.f a n = some (if n < qWD a then -1 else n - qWD a) := by
 unfold qoE.f qWD
 have h0 := hb
 have p_Cols := qjD a.Cols
 rw [qbG _ _ (by omega) h0, Option.bind_some]
 by_cases c0 : n < qAD a.Cols
 · rw [if_pos c0]; rfl
 · rw [if_neg c0, decide_eq_false (by omega), cond_false]
def qKC (x : Row) : Int := qAD x.Cells
def Row_b (x : Row) : Prop := qqH x.Cells
theorem qTG (x : Row) : 0 ≤ qKC x := by unfold qKC; exact by have := qjD x.Cells;  omega
def Row_r (x : Row) : Prop := (-9223372036854775808 ≤ x.Id ∧ x.Id ≤ 9223372036854775807) ∧ qRU x.Cells
theorem qgO (a : Row) (n : Int) (hn : 0 ≤ n ∧ n ≤ 1048576) (hb : Row_b a) : qtG.f a n = some (if n < qKC a then -1 else n - qKC a) := by
 unfold qtG.f qKC
 have h0 := hb
 have p_Cells := qjD a.Cells
 rw [qbG _ _ (by omega) h0, Option.bind_some]
 by_cases c0 : n < qAD a.Cells
 · rw [if_pos c0]; rfl
 · rw [if_neg c0, decide_eq_false (by omega), cond_false]
def qrB (l : List Row) : Int := l.length + (l.map qKC).sum
def RowS_b (l : List Row) : Prop := l.length ≤ 9223372036854775807 ∧ ∀ x ∈ l, Row_b x
theorem quE (l : List Row) : 0 ≤ qrB l := by have := qID qTG l; unfold qrB; omega
def RowS_r (l : List Row) : Prop := ∀ x ∈ l, Row_r x
theorem qnM (a : List Row) (n : Int) (hn : 0 ≤ n ∧ n ≤ 1048576) (hb : RowS_b a) : qkC.f a n = some (if n < qrB a then -1 else n - qrB a) := by
 unfold qkC.f qrB
 obtain ⟨h1, h2⟩ := hb
 have p := qID qTG a
 rw [qG, qJB (by omega)]
 by_cases c : n < (a.length : Int)
 · rw [if_pos (by omega), decide_eq_true (by omega), cond_true]
 ·
  rw [decide_eq_false (by omega), cond_false]
  have key := qSR (f := qkC.l0 a) (l := a) qKC qTG (fun k i acc x hx h0 h0' => by
   have hi := at_lt hx
   rw [qkC.l0, qG, decide_eq_true (by omega), cond_true, qg, hx, Option.bind_some, qgO x acc ⟨h0, h0'⟩ (h2 x (List.mem_of_getElem? hx)), Option.bind_some, qw (by omega)]
   by_cases d : acc < qKC x
   · rw [if_pos d, if_pos d, decide_eq_true (by omega), cond_true]
   · rw [if_neg d, if_neg d, decide_eq_false (by omega), cond_false]) (fun k acc i hi => by
   rw [qkC.l0, qG, decide_eq_false (by omega), cond_false]) (((a.length : Int) - 0).toNat + 1) 0 (n - a.length) (by omega) (by omega) (by omega) (by omega)
  rw [List.drop_zero] at key
  refine Eq.trans key ?_
  congr 1
  by_cases d : n - a.length < (a.map qKC).sum
  · rw [if_pos d, if_pos (by omega)]
  · rw [if_neg d, if_neg (by omega)]; omega
def qFE (l : List (List Row)) : Int := l.length + (l.map qrB).sum
def qhO (l : List (List Row)) : Prop := l.length ≤ 9223372036854775807 ∧ ∀ x ∈ l, RowS_b x
theorem qGI (l : List (List Row)) : 0 ≤ qFE l := by have := qID quE l; unfold qFE; omega
def qcW (l : List (List Row)) : Prop := ∀ x ∈ l, RowS_r x
theorem qTL (a : List (List Row)) (n : Int) (hn : 0 ≤ n ∧ n ≤ 1048576) (hb : qhO a) : qQC.f a n = some (if n < qFE a then -1 else n - qFE a) := by
 unfold qQC.f qFE
 obtain ⟨h1, h2⟩ := hb
 have p := qID quE a
 rw [qG, qJB (by omega)]
 by_cases c : n < (a.length : Int)
 · rw [if_pos (by omega), decide_eq_true (by omega), cond_true]
 ·
  rw [decide_eq_false (by omega), cond_false]
  have key := qSR (f := qQC.l0 a) (l := a) qrB quE (fun k i acc x hx h0 h0' => by
   have hi := at_lt hx
   rw [qQC.l0, qG, decide_eq_true (by omega), cond_true, qg, hx, Option.bind_some, qnM x acc ⟨h0, h0'⟩ (h2 x (List.mem_of_getElem? hx)), Option.bind_some, qw (by omega)]
   by_cases d : acc < qrB x
   · rw [if_pos d, if_pos d, decide_eq_true (by omega), cond_true]
   · rw [if_neg d, if_neg d, decide_eq_false (by omega), cond_false]) (fun k acc i hi => by
   rw [qQC.l0, qG, decide_eq_false (by omega), cond_false]) (((a.length : Int) - 0).toNat + 1) 0 (n - a.length) (by omega) (by omega) (by omega) (by omega)
  rw [List.drop_zero] at key
  refine Eq.trans key ?_
  congr 1
  by_cases d : n - a.length < (a.map qrB).sum
  · rw [if_pos d, if_pos (by omega)]
  · rw [if_neg d, if_neg (by omega)]; omega
def qGE (x : Store) : Int := qWD x.Schema + qFE x.Tables
def Store_b (x : Store) : Prop := qqD x.Schema ∧ qhO x.Tables
theorem qqS (x : Store) : 0 ≤ qGE x := by unfold qGE; exact by have := qSH x.Schema; have := qGI x.Tables;  omega
def Store_r (x : Store) : Prop := qcV x.Schema ∧ (-9223372036854775808 ≤ x.Version ∧ x.Version ≤ 9223372036854775807) ∧ qcW x.Tables
theorem qUL (a : Store) (n : Int) (hn : 0 ≤ n ∧ n ≤ 1048576) (hb : Store_b a) : qPF.f a n = some (if n < qGE a then -1 else n - qGE a) := by
 unfold qPF.f qGE
 obtain ⟨h0, h1⟩ := hb
 have p_Schema := qSH a.Schema
 have p_Tables := qGI a.Tables
 rw [qMK _ _ (by omega) h0, Option.bind_some]
 by_cases c0 : n < qWD a.Schema
 · rw [if_pos c0, if_pos (by omega)]; rfl
 ·
  rw [if_neg c0, decide_eq_false (by omega), cond_false]
  rw [qTL _ _ (by omega) h1, Option.bind_some]
  by_cases c1 : n - qWD a.Schema < qFE a.Tables
  · rw [if_pos c1, if_pos (by omega)]; rfl
  ·
   rw [if_neg c1, decide_eq_false (by omega), cond_false]
   rw [if_neg (by omega)]
   congr 1; omega
def Cond_r (x : Cond) : Prop := (-9223372036854775808 ≤ x.Col ∧ x.Col ≤ 9223372036854775807) ∧ (-9223372036854775808 ≤ x.Op ∧ x.Op ≤ 9223372036854775807) ∧ (-9223372036854775808 ≤ x.V ∧ x.V ≤ 9223372036854775807)
def qrD (l : List Cond) : Int := l.length
def qcG (l : List Cond) : Prop := l.length ≤ 9223372036854775807
theorem qCH (l : List Cond) : 0 ≤ qrD l := by unfold qrD; omega
def qdW (l : List Cond) : Prop := ∀ x ∈ l, Cond_r x
theorem qVL (a : List Cond) (n : Int) (hn : 0 ≤ n ∧ n ≤ 1048576) (hb : qcG a) : qQF.f a n = some (if n < qrD a then -1 else n - qrD a) := by
 unfold qQF.f qrD
 unfold qcG at hb
 rw [qG, qJB (by omega)]
 by_cases c : n < (a.length : Int)
 · rw [if_pos c, decide_eq_true (by omega), cond_true]
 · rw [if_neg c, decide_eq_false (by omega), cond_false]
def qHE (x : Query) : Int := qrD x.Where + qAD x.Show
def Query_b (x : Query) : Prop := qcG x.Where ∧ qqH x.Show
theorem qrS (x : Query) : 0 ≤ qHE x := by unfold qHE; exact by have := qCH x.Where; have := qjD x.Show;  omega
def Query_r (x : Query) : Prop := (-9223372036854775808 ≤ x.Table ∧ x.Table ≤ 9223372036854775807) ∧ qdW x.Where ∧ (-9223372036854775808 ≤ x.Order ∧ x.Order ≤ 9223372036854775807) ∧ (-9223372036854775808 ≤ x.First ∧ x.First ≤ 9223372036854775807) ∧ qRU x.Show ∧ (-9223372036854775808 ≤ x.KidTable ∧ x.KidTable ≤ 9223372036854775807) ∧ (-9223372036854775808 ≤ x.KidCol ∧ x.KidCol ≤ 9223372036854775807)
theorem qWL (a : Query) (n : Int) (hn : 0 ≤ n ∧ n ≤ 1048576) (hb : Query_b a) : qRF.f a n = some (if n < qHE a then -1 else n - qHE a) := by
 unfold qRF.f qHE
 obtain ⟨h0, h1⟩ := hb
 have p_Where := qCH a.Where
 have p_Show := qjD a.Show
 rw [qVL _ _ (by omega) h0, Option.bind_some]
 by_cases c0 : n < qrD a.Where
 · rw [if_pos c0, if_pos (by omega)]; rfl
 ·
  rw [if_neg c0, decide_eq_false (by omega), cond_false]
  rw [qbG _ _ (by omega) h1, Option.bind_some]
  by_cases c1 : n - qrD a.Where < qAD a.Show
  · rw [if_pos c1, if_pos (by omega)]; rfl
  ·
   rw [if_neg c1, decide_eq_false (by omega), cond_false]
   rw [if_neg (by omega)]
   congr 1; omega
theorem qiO (x y : Int) : quG.f x y = some (max x y) := by
 unfold quG.f
 by_cases h : y < x
 · rw [decide_eq_true h, cond_true, show max x y = x by omega]
 · rw [decide_eq_false h, cond_false, show max x y = y by omega]
theorem qjO (a b : Int) : qvG.f a b = some (if a < b then a else b) := by
 unfold qvG.f
 by_cases c : a < b
 · rw [decide_eq_true c, cond_true, if_pos c]
 · rw [decide_eq_false c, cond_false, if_neg c]
def txtB (s : ByteArray) : Bool := (s.data.toList.all fun b => decide (32 ≤ b.toNat ∧ b.toNat ≤ 126)) && decide (s.size ≤ 60)
def namesB (l : List ByteArray) : Bool := allFrom (fun i x => txtB x && !(decide (0 < i) && Ls.sc .geq (l.getD (i - 1) default) x)) l 0
theorem sx_at {s : ByteArray} {i : Nat} {b : UInt8} (h : s.data.toList[i]? = some b) : Ls.sx s (i : Int) = (b.toNat : Int) := by
 show ((s.data.toList.getD (i : Int).toNat 0).toNat : Int) = _
 rw [Int.toNat_natCast, List.getD_eq_getElem?_getD, h]; rfl
theorem qHS (s : ByteArray) : Ls.sl s = (s.data.toList.length : Int) := by
 show (s.size : Int) = _
 rw [Array.length_toList]; rfl
theorem qAJ (s : ByteArray) : s.size = s.data.toList.length := by rw [Array.length_toList]; rfl
theorem qzV {s : ByteArray} {i : Nat} (h : i < s.data.toList.length) : inS s (i : Int) = some () := by
 unfold inS; rw [if_pos]; rw [qAJ]; omega
def ownB (j : Json) : Bool :=
 bif (decide (0 < j.List_.length) && decide (j.Kind ≠ 4) && decide (j.Kind ≠ 5)) || (decide (0 < j.Names.length) && decide (j.Kind ≠ 5)) then false else
 bif (decide (j.N ≠ 0) && decide (j.Kind ≠ 1) && decide (j.Kind ≠ 2)) || (decide (j.S ≠ ByteArray.mk #[]) && decide (j.Kind ≠ 3)) then false else
 if j.Kind = 1 then decide (0 ≤ j.N ∧ j.N ≤ 1) else if j.Kind = 2 then decide (-1000000000 ≤ j.N ∧ j.N ≤ 1000000000) else if j.Kind = 3 then txtB j.S else
 if j.Kind = 5 then decide (j.Names.length = j.List_.length) && namesB j.Names else decide (j.Kind = 0) || decide (j.Kind = 4)
def capL (f : Json → Int) : Int → List Json → Int
 | n, [] => n
 | n, x :: l => if 400 < n + f x then 401 else capL f (n + f x) l
def sizeF : Nat → Json → Int
 | 0, _ => 401
 | d + 1, j => if ownB j = true then capL (sizeF d) 1 j.List_ else 401
theorem qsN {f : Json → Int} (hf : ∀ x, 1 ≤ f x ∧ f x ≤ 401) : ∀ (l : List Json) (n : Int), 1 ≤ n → n ≤ 401 → 1 ≤ capL f n l ∧ capL f n l ≤ 401
 | [], n, h, h' => ⟨h, h'⟩
 | x :: l, n, h, h' => by
  rw [capL]
  have := hf x
  split
  · omega
  · exact qsN hf l _ (by omega) (by omega)
theorem qDF : ∀ (d : Nat) (j : Json), 1 ≤ sizeF d j ∧ sizeF d j ≤ 401
 | 0, j => by rw [sizeF]; omega
 | d + 1, j => by
  rw [sizeF]
  split
  · exact qsN (qDF d) _ _ (by omega) (by omega)
  · omega
def jsonB (j : Json) : Bool := decide (sizeF 6 j ≤ 400)
mutual
def Jw : Json → Prop
 | ⟨_, _, s, l, ns⟩ => (s.size : Int) ≤ 4611686018427387904 ∧ (∀ x ∈ ns, (x.size : Int) ≤ 4611686018427387904) ∧ (ns.length : Int) ≤ 4611686018427387904 ∧ (l.length : Int) ≤ 4611686018427387904 ∧ JwL l
def JwL : List Json → Prop
 | [] => True
 | x :: l => Jw x ∧ JwL l
end
theorem qSU : ∀ {l : List Json}, JwL l → ∀ {x}, x ∈ l → Jw x
 | y :: l, h, x, hx => by
  rw [JwL] at h
  rcases List.mem_cons.1 hx with rfl | hx
  · exact h.1
  · exact qSU h.2 hx
theorem qAW : ∀ {l : List Json}, (∀ x ∈ l, Jw x) → JwL l
 | [], _ => by rw [JwL]; trivial
 | y :: l, h => by rw [JwL]; exact ⟨h y (by simp), qAW fun x hx => h x (by simp [hx])⟩
theorem Jw_eq (j : Json) : Jw j ↔ (j.S.size : Int) ≤ 4611686018427387904 ∧ (∀ x ∈ j.Names, (x.size : Int) ≤ 4611686018427387904) ∧ (j.Names.length : Int) ≤ 4611686018427387904 ∧ (j.List_.length : Int) ≤ 4611686018427387904 ∧ ∀ x ∈ j.List_, Jw x := by
 cases j
 rw [Jw]
 exact ⟨fun ⟨a, b, c, d, e⟩ => ⟨a, b, c, d, fun x hx => qSU e hx⟩, fun ⟨a, b, c, d, e⟩ => ⟨a, b, c, d, qAW e⟩⟩
def k3B (j : Json) : Bool := (decide (j.Kind ≠ 3) && decide (j.S ≠ ByteArray.mk #[])) || ((decide (j.Kind = 3) || decide (4 ≤ j.Kind)) && decide (j.N ≠ 0)) || (decide (j.Kind < 4) && decide (0 < j.List_.length)) ||
 !(if j.Kind = 5 then namesB j.Names && decide (j.Names.length = j.List_.length) else decide (j.Names.length = 0))
def preB (j : Json) : Bool := if j.Kind = 0 then decide (j.N = 0) else if j.Kind = 1 then decide (0 ≤ j.N ∧ j.N ≤ 1) else if j.Kind = 2 then decide (-1000000000 ≤ j.N ∧ j.N ≤ 1000000000) else if j.Kind = 3 then txtB j.S else decide (j.Kind = 4) || decide (j.Kind = 5)
theorem qIS (j : Json) : ownB j = (preB j && !k3B j) := by
 unfold ownB preB k3B
 have e2 : decide (j.Names.length = 0) = !decide (0 < j.Names.length) := by
  cases j.Names <;> simp
 have e7 : decide (j.N ≠ 0) = !decide (j.N = 0) := by by_cases c : j.N = 0 <;> simp [c]
 rw [e2, e7]
 generalize decide (0 < j.List_.length) = b1
 generalize decide (0 < j.Names.length) = b2
 generalize decide (j.S ≠ ByteArray.mk #[]) = b3
 generalize decide (j.Names.length = j.List_.length) = b4
 generalize namesB j.Names = b5
 generalize txtB j.S = b6
 generalize decide (0 ≤ j.N ∧ j.N ≤ 1) = b8
 generalize decide (-1000000000 ≤ j.N ∧ j.N ≤ 1000000000) = b9
 generalize decide (j.N = 0) = b7
 by_cases k0 : j.Kind = 0
 · simp [k0]; cases b1 <;> cases b2 <;> cases b3 <;> cases b7 <;> simp
 ·
  by_cases k1 : j.Kind = 1
  · simp [k1]; cases b1 <;> cases b2 <;> cases b3 <;> cases b8 <;> simp
  ·
   by_cases k2 : j.Kind = 2
   · simp [k2]; cases b1 <;> cases b2 <;> cases b3 <;> cases b9 <;> simp
   ·
    by_cases k3 : j.Kind = 3
    · simp [k3]; cases b1 <;> cases b2 <;> cases b6 <;> cases b7 <;> simp
    ·
     by_cases k4 : j.Kind = 4
     · simp [k4]; cases b1 <;> cases b2 <;> cases b3 <;> cases b7 <;> simp
     ·
      by_cases k5 : j.Kind = 5
      · simp [k5]; cases b3 <;> cases b7 <;> cases b4 <;> cases b5 <;> simp
      · simp [k0, k1, k2, k3, k4, k5]
def bl (l : List UInt8) : ByteArray := ⟨l.toArray⟩
theorem bl_sa (a b : List UInt8) : Ls.sa (bl a) (bl b) = bl (a ++ b) := by
 show (bl a ++ bl b) = _
 apply ByteArray.ext
 simp [bl]
theorem qWJ (a : List UInt8) : (bl a).size = a.length := rfl
theorem qTU (n : Nat) (h : n < 256) : bsO [(n : Int)] = bl [UInt8.ofNat n] := rfl
def digs (u : Nat) : List UInt8 := if u = 0 then [] else Lib.decDigits u
theorem qWF {u : Nat} (h : 0 < u) : digs u = digs (u / 10) ++ [UInt8.ofNat (48 + u % 10)] := by
 unfold digs
 rw [if_neg (by omega), Lib.decDigits]
 split
 ·
  rename_i c
  rw [if_pos (by omega)]
  have : u % 10 = u := by omega
  rw [this]; rfl
 · rw [if_neg (by omega)]
theorem wrap8 {n : Nat} (h : n < 256) : IntKind.wrap .u8 (n : Int) = n := by simp [IntKind.wrap, IntKind.signed, IntKind.bits]; omega
theorem qUU {x y : ByteArray} (h : (x.size + y.size : Int) ≤ 9223372036854775807) : smO x y = some () := by unfold smO; rw [if_pos h]
theorem qBJ : ∀ (k u : Nat), u < 10 ^ k → (digs u).length ≤ k := by
  intro k
  induction k with
  | zero => intro u h; have : u = 0 := by simpa using h
            subst this; simp [digs]
  | succ k ih =>
    intro u h
    by_cases h0 : u = 0
    · subst h0; simp [digs]
    · rw [qWF (by omega)]
      have := ih (u / 10) (by rw [Nat.pow_succ] at h; omega)
      simp only [List.length_append, List.length_cons, List.length_nil]; omega
section
variable {α : Type}
theorem qTH {A B : List α} {x : α} {i : Int} (h : i = A.length) : getO (A ++ x :: B) i = some x := by
 subst h; rw [qg, List.getElem?_append_right (Nat.le_refl _), Nat.sub_self]; rfl
theorem qiK {A B : List α} {x y : α} {i : Int} (h : i = A.length) : setI (A ++ x :: B) i y = A ++ y :: B := by
 subst h; rw [qlE, List.set_append_right _ _ (Nat.le_refl _), Nat.sub_self]; rfl
theorem qNQ (A B C : List α) (x y : α) : A ++ x :: (B ++ y :: C) = (A ++ x :: B) ++ y :: C := by simp
theorem qjK {A B C : List α} {x y : α} {j : Int} (h : j = A.length + 1 + B.length) : getO (A ++ x :: (B ++ y :: C)) j = some y := by
 rw [qNQ]; exact qTH (by simp; omega)
theorem swapA {A B C : List α} {x y : α} {i j : Int} (hi : i = A.length) (hj : j = A.length + 1 + B.length) : setI (setI (A ++ x :: (B ++ y :: C)) i y) j x = A ++ y :: (B ++ x :: C) := by
 rw [qiK hi, qNQ, qiK (by simp; omega), ← qNQ]
theorem swapB {A B C : List α} {x y : α} {i j : Int} (hi : i = A.length) (hj : j = A.length + 1 + B.length) : setI (setI (A ++ x :: (B ++ y :: C)) j x) i y = A ++ y :: (B ++ x :: C) := by
 rw [qNQ, qiK (by simp; omega), ← qNQ, qiK hi]
theorem qJS {i j : Int} (h : i ≠ j) : neO i j = some () := by unfold neO; rw [if_neg h]
theorem qkK {A B C : List α} {c : Nat} (h1 : A.length ≤ c) (h2 : c < A.length + B.length) : getO (A ++ (B ++ C)) (c : Int) = B[c - A.length]? := by
 rw [qg, List.getElem?_append_right h1, List.getElem?_append_left (by omega)]
theorem bsearch {R : Type} {f : Nat → Int → Int → R} {K : Int → R} (B : Nat → Bool) (lo hi : Nat) (mono : ∀ c c', lo ≤ c → c ≤ c' → c' < hi → B c = false → B c' = false)
  (hstep : ∀ k (i j : Nat), lo ≤ i → i < j → j ≤ hi → f (k + 1) i j = if B ((i + j) / 2) = true then f k (((i + j) / 2 + 1 : Nat) : Int) j else f k i (((i + j) / 2 : Nat) : Int)) (hend : ∀ k (i : Nat), f (k + 1) i i = K i) :
  ∀ (k i j : Nat), lo ≤ i → i ≤ j → j ≤ hi → j - i < k → ∃ t : Nat, i ≤ t ∧ t ≤ j ∧ f k i j = K t ∧ (∀ c, i ≤ c → c < t → B c = true) ∧ (∀ c, t ≤ c → c < j → B c = false) := by
 intro k
 induction k with
 | zero => intro i j _ _ _ h; omega
 | succ k ih =>
  intro i j h1 h2 h3 h4
  by_cases hij : i < j
  ·
   rw [hstep k i j h1 hij h3]
   cases hb : B ((i + j) / 2) with
   | true =>
    rw [if_pos rfl]
    obtain ⟨t, t1, t2, t3, t4, t5⟩ := ih ((i + j) / 2 + 1) j (by omega) (by omega) h3 (by omega)
    refine ⟨t, by omega, t2, t3, fun c c1 c2 => ?_, t5⟩
    by_cases hc : (i + j) / 2 + 1 ≤ c
    · exact t4 c hc c2
    ·
     cases hx : B c with
     | true => rfl
     | false => rw [mono c ((i + j) / 2) (by omega) (by omega) (by omega) hx] at hb; cases hb
   | false =>
    rw [if_neg (by simp)]
    obtain ⟨t, t1, t2, t3, t4, t5⟩ := ih i ((i + j) / 2) h1 (by omega) (by omega) (by omega)
    refine ⟨t, t1, by omega, t3, t4, fun c c1 c2 => ?_⟩
    by_cases hc : c < (i + j) / 2
    · exact t5 c c1 hc
    · exact mono _ c (by omega) (by omega) (by omega) hb
  ·
   obtain rfl : i = j := by omega
   exact ⟨i, Nat.le_refl _, Nat.le_refl _, hend k i, fun c c1 c2 => by omega, fun c c1 c2 => by omega⟩
theorem qXL {x : Int} {n : Nat} (h : x = n) (hn : n ≤ 9223372036854775807) : w64 (Ls.ar .shr .u64 (IntKind.wrap .u64 (w64 x)) 1) = ((n / 2 : Nat) : Int) := by
 subst h
 have e0 : w64 (n : Int) = n := qJB (by omega)
 have e : IntKind.wrap .u64 (n : Int) = n := by simp [IntKind.wrap, IntKind.signed, IntKind.bits]; omega
 rw [e0, e]
 have e2 : Ls.ar .shr .u64 (n : Int) 1 = (n : Int) / 2 := by
  show Int.fdiv (n : Int) (2 ^ min (1 : Int).toNat IntKind.u64.bits) = _
  have : (2 : Int) ^ min (1 : Int).toNat IntKind.u64.bits = 2 := by decide
  rw [this, Int.fdiv_eq_ediv_of_nonneg _ (by omega)]
 rw [e2, qJB (by omega)]
 omega
end
theorem qKS : ∀ x : List UInt8, Op.bytesLess x x = false
 | [] => rfl
 | a :: x => by
  rw [Op.bytesLess, qKS x]
  have : ¬ a < a := by rw [UInt8.lt_iff_toNat_lt]; omega
  simp [this]
theorem qtN : ∀ {x y z : List UInt8}, Op.bytesLess x y = true → Op.bytesLess y z = true → Op.bytesLess x z = true
 | [], _, [], _, h => by cases ‹List UInt8› <;> simp [Op.bytesLess] at h
 | [], _, c :: z, _, _ => rfl
 | a :: x, [], z, h, _ => by simp [Op.bytesLess] at h
 | a :: x, b :: y, [], _, h => by simp [Op.bytesLess] at h
 | a :: x, b :: y, c :: z, h, h' => by
  simp only [Op.bytesLess, Bool.or_eq_true, decide_eq_true_eq, Bool.and_eq_true, beq_iff_eq, UInt8.lt_iff_toNat_lt] at *
  rcases h with h | ⟨rfl, h⟩
  ·
   rcases h' with h' | ⟨rfl, h'⟩
   · left; omega
   · left; exact h
  ·
   rcases h' with h' | ⟨rfl, h'⟩
   · left; exact h'
   · right; exact ⟨rfl, qtN h h'⟩
theorem qLS : ∀ {x y : List UInt8}, x ≠ y → Op.bytesLess x y = false → Op.bytesLess y x = true
 | [], [], h, _ => absurd rfl h
 | [], b :: y, _, h => by simp [Op.bytesLess] at h
 | a :: x, [], _, _ => rfl
 | a :: x, b :: y, hne, h => by
  simp only [Op.bytesLess, Bool.or_eq_false_iff, Bool.and_eq_false_iff, decide_eq_false_iff_not, Bool.or_eq_true, decide_eq_true_eq, Bool.and_eq_true, beq_iff_eq, UInt8.lt_iff_toNat_lt] at *
  obtain ⟨h1, h2⟩ := h
  by_cases e : a = b
  ·
   subst e
   right
   refine ⟨rfl, qLS (fun e => hne (by rw [e])) ?_⟩
   rcases h2 with h2 | h2
   · simp at h2
   · exact h2
  ·
   left
   have : a.toNat ≠ b.toNat := fun e' => e (UInt8.toNat_inj.1 e')
   omega
def nlt (x y : ByteArray) : Bool := Ls.sc .lss x y
theorem qXJ (x : ByteArray) : nlt x x = false := qKS x.toList
theorem qCJ {x y z : ByteArray} (h : nlt x y = true) (h' : nlt y z = true) : nlt x z = true := qtN h h'
theorem toList_inj {x y : ByteArray} (h : x.toList = y.toList) : x = y := by
 have : (x.toList == y.toList) = true := by rw [h]; simp
 rw [ba_eq] at this
 exact of_decide_eq_true this
theorem qWR {x y : ByteArray} (hne : x ≠ y) (h : nlt x y = false) : nlt y x = true := qLS (fun e => hne (toList_inj e)) h
theorem qlK {x y : ByteArray} (h : nlt x y = true) : nlt y x = false := by
 cases h' : nlt y x with
 | false => rfl
 | true => have := qCJ h h'; rw [qXJ] at this; cases this
theorem qSX (x y : ByteArray) : Ls.sc .geq x y = !nlt x y := rfl
abbrev NV := ByteArray × Int
def numJ (n : Int) : Json := ⟨2, n, ByteArray.empty, [], []⟩
def objJ (P : List NV) : Json := ⟨5, 0, ByteArray.empty, P.map fun p => numJ p.2, P.map (·.1)⟩
def Sn (P : List NV) : Prop := P.Pairwise fun a b => nlt a.1 b.1 = true
def putP (P : List NV) (p : NV) : List NV := (P.filter fun x => nlt x.1 p.1) ++ p :: (P.filter fun x => nlt p.1 x.1)
theorem qMS {P : List NV} {p x : NV} : x ∈ putP P p ↔ x = p ∨ (x ∈ P ∧ x.1 ≠ p.1) := by
 unfold putP
 rw [List.mem_append, List.mem_cons, List.mem_filter, List.mem_filter]
 constructor
 ·
  rintro (⟨h, h'⟩ | h | ⟨h, h'⟩)
  · exact .inr ⟨h, fun e => by rw [e, qXJ] at h'; cases h'⟩
  · exact .inl h
  · exact .inr ⟨h, fun e => by rw [e, qXJ] at h'; cases h'⟩
 ·
  rintro (h | ⟨h, h'⟩)
  · exact .inr (.inl h)
  ·
   cases c : nlt x.1 p.1 with
   | true => exact .inl ⟨h, rfl⟩
   | false => exact .inr (.inr ⟨h, qWR h' c⟩)
theorem qeW {P : List NV} {p : NV} (h : Sn P) : Sn (putP P p) := by
 unfold putP
 refine List.pairwise_append.2 ⟨h.filter _, List.pairwise_cons.2 ⟨fun x hx => (List.mem_filter.1 hx).2, h.filter _⟩, fun a ha b hb => ?_⟩
 have h1 := (List.mem_filter.1 ha).2
 rcases List.mem_cons.1 hb with rfl | hb
 · exact h1
 · exact qCJ h1 (List.mem_filter.1 hb).2
theorem qdV (P : List NV) (p : NV) : (putP P p).length ≤ P.length + 1 := by
 unfold putP
 rw [List.length_append, List.length_cons]
 have h1 : (P.filter fun x => nlt x.1 p.1).length + (P.filter fun x => nlt p.1 x.1).length ≤ P.length := by
  induction P with
  | nil => simp
  | cons a P ih =>
   simp only [List.filter_cons, List.length_cons]
   cases c1 : nlt a.1 p.1 with
   | true => rw [qlK c1]; simp; omega
   | false =>
    cases c2 : nlt p.1 a.1 <;> simp <;> omega
 omega
def foldP (P : List NV) : List NV := P.foldl putP []
theorem qDH (P : List NV) (p : NV) : foldP (P ++ [p]) = putP (foldP P) p := by unfold foldP; rw [List.foldl_append]; rfl
theorem qrH (P : List NV) : (foldP P).length ≤ P.length := by
 have : ∀ (P acc : List NV), (P.foldl putP acc).length ≤ P.length + acc.length := by
  intro P
  induction P with
  | nil => intro acc; simp
  | cons p P ih => intro acc; have := ih (putP acc p); have := qdV acc p; simp only [List.foldl_cons, List.length_cons]; omega
 simpa [foldP] using this P []
theorem qHI (P : List NV) : Sn (foldP P) := by
 have : ∀ (P acc : List NV), Sn acc → Sn (P.foldl putP acc) := by
  intro P
  induction P with
  | nil => intro acc h; exact h
  | cons p P ih => intro acc h; exact ih _ (qeW h)
 exact this P [] List.Pairwise.nil
def Fn1 (P : List NV) : Prop := ∀ x ∈ P, ∀ y ∈ P, x.1 = y.1 → x = y
theorem qYL : ∀ (P : List NV), Fn1 P → ∀ x, x ∈ foldP P ↔ x ∈ P := by
 have : ∀ (n : Nat) (P : List NV), P.length = n → Fn1 P → ∀ x, x ∈ foldP P ↔ x ∈ P := by
  intro n
  induction n with
  | zero => intro P h _ x; rw [List.length_eq_zero_iff.1 h]; exact Iff.rfl
  | succ n ih =>
   intro P h hf x
   obtain ⟨Q, p, rfl⟩ : ∃ Q p, P = Q ++ [p] := ⟨P.dropLast, P.getLast (by rintro rfl; simp at h), (List.dropLast_concat_getLast _).symm⟩
   have ihq := ih Q (by simpa using h) (fun a ha b hb => hf a (by simp [ha]) b (by simp [hb]))
   rw [qDH, qMS, ihq x, List.mem_append, List.mem_singleton]
   constructor
   ·
    rintro (h | h)
    · exact .inr h
    · exact .inl h.1
   ·
    rintro (h | h)
    ·
     by_cases e : x.1 = p.1
     · exact .inl (hf x (by simp [h]) p (by simp) e)
     · exact .inr ⟨h, e⟩
    · exact .inl h
 exact fun P => this P.length P rfl
theorem Sn.unique {P Q : List NV} (h : Sn P) (h' : Sn Q) (e : ∀ x, x ∈ P ↔ x ∈ Q) : P = Q := by
 have nd : ∀ {R : List NV}, Sn R → R.Nodup := fun h => List.nodup_iff_pairwise_ne.2 (h.imp fun h e => by rw [e, qXJ] at h; cases h)
 exact List.Perm.eq_of_pairwise (fun a b _ _ h1 h2 => by rw [qlK h1] at h2; cases h2) h h' ((List.perm_ext_iff_of_nodup (nd h) (nd h')).2 e)
theorem qsS {P Q : List NV} (h : Fn1 P) (h' : Fn1 Q) (e : ∀ x, x ∈ P ↔ x ∈ Q) : foldP P = foldP Q :=
 (qHI P).unique (qHI Q) fun x => by rw [qYL P h, qYL Q h']; exact e x
def cellF (r : Row) (col : Int) : Int := if 0 ≤ col ∧ col ≤ (r.Cells.length : Int) - 1 then r.Cells.getD col.toNat 0 else 0
def aheadB (q : Query) (a b : Row) : Bool :=
 if q.Order = 0 then decide (a.Id < b.Id) else
  let x := cellF a (w64 (q.Order - 1)); let y := cellF b (w64 (q.Order - 1))
  if x = y then decide (a.Id < b.Id) else if q.Down then decide (y < x) else decide (x < y)
theorem qfB (x y z : Int) : qlB.f x y z = some (decide (y ≤ x ∧ x ≤ z)) := by
 unfold qlB.f
 rw [quD, Bool.decide_and]
theorem qoM (s : ByteArray) (hs : (s.data.toList.length : Int) ≤ 4611686018427387904) : ∀ (k i : Nat), i ≤ s.data.toList.length → s.data.toList.length < i + k → qoC.l0 s k (s.data.toList.length : Int) i = some (((s.data.toList.drop i).all fun b => decide (32 ≤ b.toNat ∧ b.toNat ≤ 126)) && decide (s.size ≤ 60)) := by
 intro k
 induction k with
 | zero => intro i h h'; omega
 | succ k ih =>
  intro i h h'
  rw [qoC.l0]
  by_cases hi : i < s.data.toList.length
  ·
   have hx := List.getElem?_eq_getElem hi
   have hb : (s.data.toList[i]).toNat < 256 := UInt8.toNat_lt _
   rw [decide_eq_true (by omega), cond_true, qzV hi, Option.bind_some, sx_at hx, qJB (by omega), qfB, Option.bind_some, List.drop_eq_getElem_cons hi, List.all_cons, qw (by omega), ih (i + 1) (by omega) (by omega), qzB]
   by_cases c : 32 ≤ (s.data.toList[i]).toNat ∧ (s.data.toList[i]).toNat ≤ 126
   · rw [decide_eq_true (by omega), decide_eq_true c]; simp
   · rw [decide_eq_false (by omega), decide_eq_false c]; simp
  ·
   rw [decide_eq_false (by omega), cond_false, List.drop_eq_nil_of_le (by omega), qHS, qAJ]
   simp
   omega
theorem qSI (s : ByteArray) (hs : (s.size : Int) ≤ 4611686018427387904) : qoC.f s = some (txtB s) := by
 unfold qoC.f txtB
 rw [qAJ] at hs
 rw [qHS]
 exact qoM s hs _ 0 (by omega) (by omega)
theorem quN (l : List ByteArray) (i : Nat) (x : ByteArray) (r : Bool) (hx : l[i]? = some x) (hl : (l.length : Int) ≤ 4611686018427387904) : (gd (bo3 (bo3 (bo3 r false true) false true) (decide (0 < (i : Int))) false) (getO l (w64 ((i : Int) - 1)))) = some (bif (r && decide (0 < i)) then l.getD (i - 1) default else default) := by
 have hi := at_lt hx
 cases r with
 | false => rfl
 | true =>
  by_cases c : 0 < i
  ·
   rw [decide_eq_true (by omega), decide_eq_true c, show bo3 (bo3 (bo3 true false true) false true) true false = true from rfl, qdC, qJB (by omega), show (i : Int) - 1 = ((i - 1 : Nat) : Int) by omega, qg, List.getD_eq_getElem?_getD, List.getElem?_eq_getElem (by omega)]
   rfl
  · rw [decide_eq_false (by omega), decide_eq_false c]; rfl
theorem qZL (l : List ByteArray) (hl : (l.length : Int) ≤ 4611686018427387904) (hs : ∀ x ∈ l, (x.size : Int) ≤ 4611686018427387904) : qWC.f l = some (namesB l) := by
 unfold qWC.f namesB
 refine (qGD (f := qWC.l0 l) (l := l) (fun i x => txtB x && !(decide (0 < i) && Ls.sc .geq (l.getD (i - 1) default) x)) (some false) (some true) (fun k i x hx => ?_) (fun k i hi => ?_) _ 0 (by omega) (by rw [qG]; omega)).trans ?_
 ·
  have hi := at_lt hx
  rw [qWC.l0, qG, decide_eq_true (by omega), cond_true, qg, hx, Option.bind_some, qSI x (hs x (List.mem_of_getElem? hx)), Option.bind_some, quN l i x _ hx hl, Option.bind_some, qw (by omega)]
  cases txtB x with
  | false => rfl
  | true =>
   by_cases c : 0 < i
   ·
    have c' : 0 < (i : Int) := by omega
    rw [decide_eq_true c, decide_eq_true c']
    cases hg : Ls.sc .geq (l.getD (i - 1) default) x <;> simp [bo3, hg] <;> simp_all
   ·
    have c' : ¬ 0 < (i : Int) := by omega
    rw [decide_eq_false c, decide_eq_false c']
    simp [bo3]
 · rw [qWC.l0, qG, decide_eq_false (by omega), cond_false]
 · cases allFrom (fun i x => txtB x && !(decide (0 < i) && Ls.sc .geq (l.getD (i - 1) default) x)) l 0 <;> rfl
theorem qUH (n : Int) : qBF.f n = some (decide (-1000000000 ≤ n ∧ n ≤ 1000000000)) := by
 unfold qBF.f
 rw [qfB, Option.bind_some]
theorem qkO (j : Json) (h : Jw j) : qyG.f j = some (ownB j) := by
 obtain ⟨h1, h2, h3, h4, _⟩ := (Jw_eq j).1 h
 unfold qyG.f ownB
 rw [qSI _ h1, qZL _ h3 h2, qfB, qUH, qG, qG, qaG]
 have e1 : decide (0 < (j.List_.length : Int)) = decide (0 < j.List_.length) := decide_eq_decide.2 (by omega)
 have e2 : decide (0 < (j.Names.length : Int)) = decide (0 < j.Names.length) := decide_eq_decide.2 (by omega)
 have e3 : decide ((j.Names.length : Int) = j.List_.length) = decide (j.Names.length = j.List_.length) := decide_eq_decide.2 (by omega)
 rw [e1, e2, e3]
 simp only [quD, qHQ]
 generalize decide (0 < j.List_.length) = b1
 generalize decide (0 < j.Names.length) = b2
 generalize decide (j.S ≠ ByteArray.mk #[]) = b3
 generalize decide (j.Names.length = j.List_.length) = b4
 generalize namesB j.Names = b5
 generalize txtB j.S = b6
 by_cases k1 : j.Kind = 1
 ·
  simp [k1]
  cases b1 <;> cases b2 <;> cases b3 <;> simp
 ·
  by_cases k2 : j.Kind = 2
  ·
   simp [k2]
   cases b1 <;> cases b2 <;> cases b3 <;> simp
  ·
   by_cases k3 : j.Kind = 3
   ·
    simp [k3]
    cases b1 <;> cases b2 <;> cases decide (j.N = 0) <;> simp
   ·
    by_cases k5 : j.Kind = 5
    ·
     simp [k5]
     cases b4 <;> cases b3 <;> cases decide (j.N = 0) <;> simp [gd]
    ·
     simp only [k1, k2, k3, k5, if_false, decide_false, cond_false, ne_eq, not_false_eq_true, decide_true, Bool.and_true, bo3]
     have e9 : (decide ¬j.Kind = 4) = !decide (j.Kind = 4) := by by_cases c : j.Kind = 4 <;> simp [c]
     have e7 : (decide ¬j.N = 0) = !decide (j.N = 0) := by by_cases c : j.N = 0 <;> simp [c]
     rw [e9, e7]
     generalize decide (j.N = 0) = b7'
     generalize decide (j.Kind = 0) = b8
     generalize decide (j.Kind = 4) = b9'
     cases b1 <;> cases b2 <;> cases b3 <;> cases b7' <;> cases b8 <;> cases b9' <;> simp
theorem qpM (j : Json) (d : Int) (self : Json → Int → Option Int) (f : Json → Int) (hf : ∀ x, 1 ≤ f x ∧ f x ≤ 401) (hl : (j.List_.length : Int) ≤ 4611686018427387904) (hs : ∀ x ∈ j.List_, self x (w64 (d - 1)) = some (f x)) :
  ∀ (k i : Nat) (n : Int), i ≤ j.List_.length → j.List_.length < i + k → 1 ≤ n → n ≤ 401 → qhB.l0 j d self k n i = some (capL f n (j.List_.drop i)) := by
 intro k
 induction k with
 | zero => intro i n h h'; omega
 | succ k ih =>
  intro i n h h' hn hn'
  rw [qhB.l0, qG]
  by_cases hi : i < j.List_.length
  ·
   have := hf j.List_[i]
   rw [decide_eq_true (by omega), cond_true, qg, List.getElem?_eq_getElem hi, Option.bind_some, hs _ (List.getElem_mem hi), Option.bind_some, qJB (by omega), List.drop_eq_getElem_cons hi, capL, qw (by omega)]
   by_cases c : 400 < n + f j.List_[i]
   · rw [decide_eq_true c, cond_true, if_pos c]
   ·
    rw [decide_eq_false c, cond_false, if_neg c]
    exact ih (i + 1) _ (by omega) (by omega) (by omega) (by omega)
  · rw [decide_eq_false (by omega), cond_false, List.drop_eq_nil_of_le (by omega), capL]
theorem qlO : ∀ (k d : Nat) (j : Json), d < k → d ≤ 1000 → Jw j → qhB.g k j d = some (sizeF d j) := by
 intro k
 induction k with
 | zero => intro d j h; omega
 | succ k ih =>
  intro d j h hd hj
  obtain ⟨h1, h2, h3, h4, h5⟩ := (Jw_eq j).1 hj
  rw [qhB.g, qhB.b, qkO j hj]
  cases d with
  | zero => rw [decide_eq_true (by omega), sizeF]; rfl
  | succ d =>
   rw [decide_eq_false (by omega), sizeF]
   cases ho : ownB j with
   | false => rfl
   | true =>
    rw [if_pos rfl]
    simp only [qzB, Bool.not_false, qdC, Option.bind_some, bo3_F, Bool.not_true, cond_false]
    exact qpM j ((d + 1 : Nat) : Int) (qhB.g k) (sizeF d) (qDF d) h4 (fun x hx => by
     rw [qJB (by omega), show ((d + 1 : Nat) : Int) - 1 = (d : Int) by omega]
     exact ih d x (by omega) (by omega) (h5 x hx)) (((lenI j.List_) - 0).toNat + 1) 0 1 (by omega) (by rw [qG]; omega) (by omega) (by omega)
theorem qqM (j : Json) (h : Jw j) : qtF.f j = some (jsonB j) := by
 unfold qtF.f qhB.f
 have := qlO 20 6 j (by omega) (by omega) h
 rw [show (6 : Int) = ((6 : Nat) : Int) from rfl, this, Option.bind_some]
 rfl
def nullJ : Json := ⟨0, 0, ByteArray.empty, [], []⟩
def orJ (j : Json) : Json := if jsonB j = true then j else nullJ
theorem qTI (j : Json) (h : Jw j) : qbE.f j = some (orJ j) := by
 unfold qbE.f orJ
 rw [qqM j h, Option.bind_some, qzB]
 cases jsonB j <;> rfl
def colN (c : Int) : ByteArray := Ls.sa (ByteArray.mk #[99]) (bl (Lib.itoa c))
def colP (r : Row) (c : Int) : NV := (colN c, cellF r c)
def idP (r : Row) : NV := (ByteArray.mk #[105, 100], r.Id)
def kidsP (n : Int) : NV := (ByteArray.mk #[107, 105, 100, 115], n)
def kidsL (q : Query) (n : Int) : List NV := if q.Kids = true then [kidsP n] else []
def rowObj (q : Query) (r : Row) (n : Int) : Json := objJ (foldP (q.Show.map (colP r) ++ [idP r] ++ kidsL q n))
theorem qfI (c : Int) : colN c = bl (99 :: Lib.itoa c) := by
 unfold colN
 rw [show ByteArray.mk #[99] = bl [99] from rfl, bl_sa]; rfl
theorem qOQ {a b : List UInt8} (h : bl a = bl b) : a = b := by
 have : (bl a).data.toList = (bl b).data.toList := by rw [h]
 simpa [bl] using this
theorem qeV : ∀ (k u v : Nat), u < 10 ^ k → v < 10 ^ k → digs u = digs v → u = v := by
 intro k
 induction k with
 | zero => intro u v h h' _; simp at h h'; omega
 | succ k ih =>
  intro u v h h' e
  rw [Nat.pow_succ] at h h'
  by_cases hu : u = 0
  ·
   by_cases hv : v = 0
   · omega
   ·
    rw [qWF (u := v) (by omega)] at e
    subst hu
    simp [digs] at e
  ·
   by_cases hv : v = 0
   ·
    rw [qWF (u := u) (by omega)] at e
    subst hv
    simp [digs] at e
   ·
    rw [qWF (by omega), qWF (u := v) (by omega)] at e
    obtain ⟨e1, e2⟩ := List.append_inj' e rfl
    have h1 := ih _ _ (by omega) (by omega) e1
    simp only [List.cons.injEq, and_true] at e2
    have h2 : (UInt8.ofNat (48 + u % 10)).toNat = (UInt8.ofNat (48 + v % 10)).toNat := by rw [e2]
    simp only [UInt8.toNat_ofNat'] at h2
    omega
theorem qII {u : Nat} (h : 0 < u) : Lib.decDigits u = digs u := by unfold digs; rw [if_neg (by omega)]
theorem qNS : Lib.decDigits 0 = [48] := by rw [Lib.decDigits, dif_pos (by decide)]; rfl
theorem qfW : ∀ (k u : Nat), u < 10 ^ k → ∀ b ∈ digs u, 48 ≤ b.toNat := by
  intro k
  induction k with
  | zero => intro u h b hb; have : u = 0 := by simpa using h
            subst this; simp [digs] at hb
  | succ k ih =>
    intro u h b hb
    by_cases h0 : u = 0
    · subst h0; simp [digs] at hb
    · rw [qWF (by omega)] at hb
      rw [Nat.pow_succ] at h
      rcases List.mem_append.1 hb with hb | hb
      · exact ih _ (by omega) b hb
      · rw [List.mem_singleton.1 hb, UInt8.toNat_ofNat']; omega
theorem qvN {u : Nat} (h : u < 10 ^ 29) : ∀ {l : List UInt8}, digs u = l → ∀ {x y}, l = x :: y → 0 < u → x ≠ 48 := by
 have : ∀ (k u : Nat), u < 10 ^ k → 0 < u → ∃ x y, digs u = x :: y ∧ x ≠ 48 := by
  intro k
  induction k with
  | zero => intro u h h0; simp at h; omega
  | succ k ih =>
   intro u h h0
   rw [Nat.pow_succ] at h
   rw [qWF h0]
   by_cases c : u / 10 = 0
   ·
    rw [c]
    refine ⟨UInt8.ofNat (48 + u % 10), [], by simp [digs], fun e => ?_⟩
    have : (UInt8.ofNat (48 + u % 10)).toNat = 48 := by rw [e]; rfl
    rw [UInt8.toNat_ofNat'] at this
    omega
   ·
    obtain ⟨x, y, e1, e2⟩ := ih (u / 10) (by omega) (by omega)
    exact ⟨x, y ++ [UInt8.ofNat (48 + u % 10)], by rw [e1]; rfl, e2⟩
 intro l hl x y hxy h0
 obtain ⟨x', y', e1, e2⟩ := this 29 u h h0
 rw [hl, hxy] at e1
 simp only [List.cons.injEq] at e1
 rw [e1.1]; exact e2
theorem qOS {a b : Int} (ha : -9223372036854775808 ≤ a ∧ a ≤ 9223372036854775807) (hb : -9223372036854775808 ≤ b ∧ b ≤ 9223372036854775807) (h : Lib.itoa a = Lib.itoa b) : a = b := by
 have key : ∀ u v : Nat, u ≤ 9223372036854775808 → v ≤ 9223372036854775808 → Lib.decDigits u = Lib.decDigits v → u = v := fun u v hu hv e => by
  by_cases u0 : u = 0
  ·
   by_cases v0 : v = 0
   · omega
   ·
    exfalso
    subst u0
    rw [qNS, qII (by omega)] at e
    exact qvN (u := v) (by omega) e.symm rfl (by omega) rfl
  ·
   by_cases v0 : v = 0
   ·
    exfalso
    subst v0
    rw [qNS, qII (by omega)] at e
    exact qvN (u := u) (by omega) e rfl (by omega) rfl
   ·
    rw [qII (by omega), qII (by omega)] at e
    exact qeV 29 u v (by omega) (by omega) e
 have hd : ∀ u : Nat, u ≤ 9223372036854775808 → ∀ x ∈ Lib.decDigits u, 48 ≤ x.toNat := fun u hu x hx => by
  by_cases u0 : u = 0
  · subst u0; rw [qNS] at hx; rw [List.mem_singleton.1 hx]; decide
  · rw [qII (by omega)] at hx; exact qfW 29 u (by omega) x hx
 unfold Lib.itoa at h
 by_cases c1 : a < 0 <;> by_cases c2 : b < 0
 ·
  rw [if_pos c1, if_pos c2] at h
  have := key _ _ (by omega) (by omega) (List.cons.inj h).2
  omega
 ·
  rw [if_pos c1, if_neg c2] at h
  have := hd b.toNat (by omega) 45 (by rw [← h]; simp)
  simp at this
 ·
  rw [if_neg c1, if_pos c2] at h
  have := hd a.toNat (by omega) 45 (by rw [h]; simp)
  simp at this
 ·
  rw [if_neg c1, if_neg c2] at h
  have := key _ _ (by omega) (by omega) h
  omega
theorem qYJ (c : Int) : colN c ≠ ByteArray.mk #[105, 100] := fun e => by
 rw [qfI, show ByteArray.mk #[105, 100] = bl [105, 100] from rfl] at e
 have := qOQ e
 simp at this
theorem qsH (c : Int) : colN c ≠ ByteArray.mk #[107, 105, 100, 115] := fun e => by
 rw [qfI, show ByteArray.mk #[107, 105, 100, 115] = bl [107, 105, 100, 115] from rfl] at e
 have := qOQ e
 simp at this
theorem qZJ : (ByteArray.mk #[105, 100]) ≠ ByteArray.mk #[107, 105, 100, 115] := fun e => by
 rw [show ByteArray.mk #[105, 100] = bl [105, 100] from rfl, show ByteArray.mk #[107, 105, 100, 115] = bl [107, 105, 100, 115] from rfl] at e
 have := qOQ e
 simp at this
def In64 (l : List Int) : Prop := ∀ x ∈ l, -9223372036854775808 ≤ x ∧ x ≤ 9223372036854775807
theorem qBW {r : Row} {n : Int} {q : Query} {P : List NV} {cols : List Int} (hc : In64 cols) (h : ∀ x ∈ P, (∃ c ∈ cols, x = colP r c) ∨ x = idP r ∨ x = kidsP n) : Fn1 P := fun x hx y hy e => by
 rcases h x hx with ⟨c, c1, rfl⟩ | rfl | rfl <;> rcases h y hy with ⟨d, d1, rfl⟩ | rfl | rfl
 ·
  have e : colN c = colN d := e
  rw [qfI, qfI] at e
  rw [qOS (hc c c1) (hc d d1) (List.cons.inj (qOQ e)).2]
 · exact absurd e (qYJ c)
 · exact absurd e (qsH c)
 · exact absurd e.symm (qYJ d)
 · rfl
 · exact absurd e qZJ
 · exact absurd e.symm (qsH d)
 · exact absurd e.symm qZJ
 · rfl
theorem qPS (n : Int) (h : -9223372036854775808 ≤ n ∧ n ≤ 9223372036854775807) : (Lib.itoa n).length ≤ 30 := by
 have hd : ∀ u : Nat, u ≤ 9223372036854775808 → (Lib.decDigits u).length ≤ 29 := fun u hu => by
  by_cases u0 : u = 0
  · subst u0; rw [qNS]; simp
  · rw [qII (by omega)]; exact qBJ 29 u (by omega)
 unfold Lib.itoa
 split
 · have := hd n.natAbs (by omega); simp only [List.length_cons]; omega
 · have := hd n.toNat (by omega); omega
theorem qVU (n : Int) (h : -9223372036854775808 ≤ n ∧ n ≤ 9223372036854775807) : (colN n).size ≤ 31 := by
 rw [qfI, qWJ]
 have := qPS n h
 simp only [List.length_cons]; omega
theorem put_c (n : Int) (h : -9223372036854775808 ≤ n ∧ n ≤ 9223372036854775807) : smO (ByteArray.mk #[99]) (bl (Lib.itoa n)) = some () := qUU (by
 rw [qWJ, show (ByteArray.mk #[99]).size = 1 from rfl]
 have := qPS n h
 omega)
theorem qtS {P : List NV} {x : NV} : x ∈ foldP P → x ∈ P := by
 have : ∀ (P acc : List NV), x ∈ P.foldl putP acc → x ∈ P ∨ x ∈ acc := by
  intro P
  induction P with
  | nil => intro acc h; exact .inr h
  | cons p P ih =>
   intro acc h
   rcases ih _ h with h | h
   · exact .inl (List.mem_cons_of_mem _ h)
   ·
    rcases qMS.1 h with rfl | h
    · exact .inl (List.mem_cons_self ..)
    · exact .inr h.1
 intro h
 exact (this P [] h).elim id (by simp)
theorem qCW (n : Int) : Jw (numJ n) := (Jw_eq _).2 ⟨by show ((0 : Nat) : Int) ≤ _; omega, by simp [numJ], by simp [numJ], by simp [numJ], by simp [numJ]⟩
theorem qTX {P : List NV} (hl : P.length ≤ 4194304) (hs : ∀ x ∈ P, x.1.size ≤ 31) : Jw (objJ P) := (Jw_eq _).2 ⟨by show ((0 : Nat) : Int) ≤ _; omega, fun x hx => by
 obtain ⟨p, hp, rfl⟩ := List.mem_map.1 hx
 have := hs p hp
 omega, by simp only [objJ, List.length_map]; omega, by simp only [objJ, List.length_map]; omega, fun x hx => by
 obtain ⟨p, hp, rfl⟩ := List.mem_map.1 hx
 exact qCW _⟩
theorem qgW (P : List NV) : szj (objJ P) = 2 * (P.length : Int) ∧ dpj (objJ P) ≤ 2 := by
 have h1 : ∀ l : List NV, szL (l.map fun p => numJ p.2) = l.length ∧ dpL (l.map fun p => numJ p.2) ≤ 1 := by
  intro l
  induction l with
  | nil => simp [szL, dpL]
  | cons p l ih =>
   have e1 : szj (numJ p.2) = 0 := by simp [numJ, szj, szL]
   have e2 : dpj (numJ p.2) = 1 := by simp [numJ, dpj, dpL]
   rw [List.map_cons, szL, dpL, e1, e2, ih.1, List.length_cons]
   omega
 have := h1 P
 refine ⟨?_, ?_⟩
 ·
  show szj ⟨5, 0, ByteArray.empty, _, _⟩ = _
  rw [szj, this.1, List.length_map]; omega
 ·
  show dpj ⟨5, 0, ByteArray.empty, _, _⟩ ≤ _
  rw [dpj]; omega
theorem quS {q : Query} {r : Row} {n : Int} (hc : In64 q.Show) : ∀ x ∈ foldP (q.Show.map (colP r) ++ [idP r] ++ kidsL q n), x.1.size ≤ 31 := fun x hx => by
 have := qtS hx
 simp only [List.mem_append, List.mem_map, List.mem_singleton] at this
 rcases this with (⟨c, h1, rfl⟩ | rfl) | h
 · exact qVU c (hc c h1)
 · show (ByteArray.mk #[105, 100]).size ≤ 31; decide
 ·
  unfold kidsL at h
  split at h
  · rw [List.mem_singleton.1 h]; show (ByteArray.mk #[107, 105, 100, 115]).size ≤ 31; decide
  · simp at h
theorem qmO {q : Query} {r : Row} {n : Int} (hc : In64 q.Show) (hl : q.Show.length ≤ 2097152) : Jw (rowObj q r n) ∧ szj (rowObj q r n) ≤ 8388608 ∧ dpj (rowObj q r n) ≤ 2 := by
 have h1 := qrH (q.Show.map (colP r) ++ [idP r] ++ kidsL q n)
 have h2 : (kidsL q n).length ≤ 1 := by unfold kidsL; split <;> simp
 simp only [List.length_append, List.length_map, List.length_singleton] at h1
 have := qgW (foldP (q.Show.map (colP r) ++ [idP r] ++ kidsL q n))
 exact ⟨qTX (by omega) (quS hc), by unfold rowObj; omega, by unfold rowObj; omega⟩
theorem qQS {f : Json → Int} (hf : ∀ x, 1 ≤ f x ∧ f x ≤ 401) : ∀ (l : List Json) (n : Int), 0 ≤ n → n ≤ 400 → capL f n l ≤ 400 → capL f n l = n + (l.map f).sum ∧ ∀ x ∈ l, f x ≤ 400
 | [], n, _, _, _ => by simp [capL]
 | x :: l, n, h0, hn, h => by
  have hfx := hf x
  rw [capL] at h ⊢
  split at h
  · omega
  ·
   rename_i c
   rw [if_neg c]
   obtain ⟨h1, h2⟩ := qQS hf l (n + f x) (by omega) (by omega) h
   refine ⟨by rw [h1, List.map_cons, List.sum_cons]; omega, fun y hy => ?_⟩
   rcases List.mem_cons.1 hy with rfl | hy
   · omega
   · exact h2 y hy
theorem qWU {j : Json} (h : ownB j = true) : j.Names.length ≤ j.List_.length := by
 rw [qIS, Bool.and_eq_true] at h
 have h2 := h.2
 unfold k3B at h2
 simp only [Bool.not_eq_true', Bool.or_eq_false_iff] at h2
 have h3 := h2.2
 by_cases k5 : j.Kind = 5
 ·
  rw [if_pos k5] at h3
  simp only [Bool.not_eq_false', Bool.and_eq_true, decide_eq_true_eq] at h3
  omega
 ·
  rw [if_neg k5] at h3
  simp only [Bool.not_eq_false', decide_eq_true_eq] at h3
  omega
theorem qPQ : ∀ (d : Nat) (j : Json), sizeF d j ≤ 400 → szj j ≤ 2 * sizeF d j - 2 ∧ dpj j ≤ d
 | 0, j, h => by rw [sizeF] at h; omega
 | d + 1, j, h => by
  rw [sizeF] at h ⊢
  split at h
  ·
   rename_i ho
   rw [if_pos ho]
   obtain ⟨h1, h2⟩ := qQS (qDF d) j.List_ 1 (by omega) (by omega) h
   have hn := qWU ho
   rw [h1, qGS, qRL]
   have hL : ∀ l : List Json, (∀ x ∈ l, sizeF d x ≤ 400) → szL l + (l.length : Int) ≤ 2 * (l.map (sizeF d)).sum ∧ dpL l ≤ d := by
    intro l
    induction l with
    | nil => intro _; simp [szL, dpL]
    | cons x l ih =>
     intro hx
     obtain ⟨a1, a2⟩ := ih fun y hy => hx y (by simp [hy])
     obtain ⟨b1, b2⟩ := qPQ d x (hx x (by simp))
     rw [szL, dpL, List.map_cons, List.sum_cons, List.length_cons]
     exact ⟨by omega, by omega⟩
   obtain ⟨c1, c2⟩ := hL j.List_ h2
   exact ⟨by omega, by omega⟩
  · omega
theorem orJ_b (j : Json) : qIK (orJ j) ∧ qtE (orJ j) ≤ 1000 := by
 have key : qtE (orJ j) ≤ 1000 := by
  unfold orJ
  split
  ·
   rename_i h
   unfold jsonB at h
   rw [decide_eq_true_eq] at h
   obtain ⟨h1, h2⟩ := qPQ 6 j h
   unfold qtE; rw [if_pos (by omega)]; omega
  ·
   unfold qtE
   have : dpj nullJ ≤ 500 := by simp [nullJ, dpj, dpL]
   rw [if_pos this]
   simp [nullJ, szj, szL]
 exact ⟨by unfold qIK; omega, key⟩
theorem qwN : ∀ (d e : Nat) (j : Json), dpj j ≤ d → dpj j ≤ e → sizeF d j = sizeF e j
 | 0, e, j, h, _ => by rw [qRL] at h; omega
 | d + 1, 0, j, _, h => by rw [qRL] at h; omega
 | d + 1, e + 1, j, h, h' => by
  rw [qRL] at h h'
  rw [sizeF, sizeF]
  have : ∀ (l : List Json) (n : Int), dpL l ≤ d → dpL l ≤ e → capL (sizeF d) n l = capL (sizeF e) n l := by
   intro l
   induction l with
   | nil => intro n _ _; rfl
   | cons x l ih =>
    intro n h1 h2
    rw [dpL] at h1 h2
    rw [capL, capL, qwN d e x (by omega) (by omega), ih _ (by omega) (by omega)]
  rw [this j.List_ 1 (by omega) (by omega)]
def docsF (q : Query) (kids : List Int) : List Row → Nat → List Json
 | [], _ => []
 | r :: l, i => rowObj q r (kids.getD i 0) :: docsF q kids l (i + 1)
def firstF (q : Query) (n : Nat) : Nat := if q.First = 0 then n else if q.First ≤ 0 then 0 else min n q.First.toNat
def docObj (q : Query) (rows : List Row) (kids : List Int) : Json := ⟨5, 0, ByteArray.empty, [numJ rows.length, ⟨4, 0, ByteArray.empty, docsF q kids (rows.take (firstF q rows.length)) 0, []⟩], [ByteArray.mk #[99, 111, 117, 110, 116], ByteArray.mk #[114, 111, 119, 115]]⟩
def docOfF (q : Query) (rows : List Row) (kids : List Int) : Json := orJ (docObj q rows kids)
theorem qDJ (q : Query) (n : Nat) : firstF q n ≤ n := by unfold firstF; split <;> (try split) <;> omega
theorem qtH (q : Query) (kids : List Int) : ∀ (l : List Row) (i : Nat), (docsF q kids l i).length = l.length
 | [], _ => rfl
 | r :: l, i => by rw [docsF, List.length_cons, List.length_cons, qtH q kids l]
theorem qaJ (q : Query) (kids : List Int) : ∀ (l : List Row) (i : Nat) (r : Row), docsF q kids (l ++ [r]) i = docsF q kids l i ++ [rowObj q r (kids.getD (i + l.length) 0)]
 | [], i, r => rfl
 | x :: l, i, r => by
  rw [List.cons_append, docsF, qaJ q kids l, docsF, List.cons_append, List.length_cons, Nat.add_assoc, Nat.add_comm 1]
theorem qEJ {q : Query} {kids : List Int} : ∀ {l : List Row} {i : Nat} {x : Json}, x ∈ docsF q kids l i → ∃ r n, x = rowObj q r n
 | r :: l, i, x, h => by
  rw [docsF] at h
  rcases List.mem_cons.1 h with rfl | h
  · exact ⟨_, _, rfl⟩
  · exact qEJ h
theorem qRS {q : Query} {rows : List Row} {kids : List Int} (hc : In64 q.Show) (hl : q.Show.length ≤ 2097152) (hr : rows.length ≤ 2097152) : Jw (docObj q rows kids) := by
 refine (Jw_eq _).2 ⟨by show ((0 : Nat) : Int) ≤ _; omega, fun x hx => ?_, by simp [docObj], by simp [docObj], fun x hx => ?_⟩
 ·
  simp only [docObj, List.mem_cons, List.not_mem_nil, or_false] at hx
  rcases hx with rfl | rfl
  · show ((5 : Nat) : Int) ≤ _; omega
  · show ((4 : Nat) : Int) ≤ _; omega
 ·
  simp only [docObj, List.mem_cons, List.not_mem_nil, or_false] at hx
  rcases hx with rfl | rfl
  · exact qCW _
  ·
   refine (Jw_eq _).2 ⟨by show ((0 : Nat) : Int) ≤ _; omega, by simp, by simp, ?_, fun x hx => ?_⟩
   ·
    dsimp only
    rw [qtH, List.length_take]; omega
   ·
    obtain ⟨r, n, rfl⟩ := qEJ hx
    exact (qmO hc hl).1
theorem qvS {q : Query} {rows : List Row} {kids : List Int} (hc : In64 q.Show) (hl : q.Show.length ≤ 2097152) {x : Json} (hx : x ∈ docsF q kids (rows.take (firstF q rows.length)) 0) (hb : jsonB x = false) : jsonB (docObj q rows kids) = false := by
 unfold jsonB at *
 rw [decide_eq_false_iff_not] at *
 intro h
 obtain ⟨r, n, rfl⟩ := qEJ hx
 have hd := (qmO (q := q) (r := r) (n := n) hc hl).2.2
 rw [sizeF] at h
 split at h
 ·
  obtain ⟨_, h2⟩ := qQS (qDF 5) _ 1 (by omega) (by omega) h
  have h3 := h2 ⟨4, 0, ByteArray.empty, docsF q kids (rows.take (firstF q rows.length)) 0, []⟩ (by simp [docObj])
  rw [sizeF] at h3
  split at h3
  ·
   obtain ⟨_, h4⟩ := qQS (qDF 4) _ 1 (by omega) (by omega) h3
   have := h4 _ hx
   rw [qwN 4 6 _ (by omega) (by omega)] at this
   exact hb this
  · omega
 · omega
theorem qNK (q : Query) (n : Nat) : qpE.f q (n : Int) = some (firstF q n : Int) := by
 unfold qpE.f firstF
 by_cases c : q.First = 0
 · rw [decide_eq_true c, cond_true, if_pos c]
 ·
  rw [decide_eq_false c, cond_false, if_neg c, qjO, Option.bind_some, qiO, Option.bind_some]
  congr 1
  split <;> split <;> (try split) <;> omega
theorem qhW (J : Json) (n : ByteArray) (x : Json) (K : List Json → List ByteArray → Bool → Option Json) (pl : List NV) (hN : J.Names = pl.map (·.1)) (hL : J.List_ = pl.map fun p => numJ p.2) (hlen : pl.length ≤ 10000000) :
  ∀ (k i : Nat) (L : List Json) (N : List ByteArray), i ≤ pl.length → pl.length < i + k → L.length ≤ i + 1 → N.length ≤ i + 1 →
  qPC.l0 J n x K k L N true i = K (L ++ ((pl.drop i).filter fun p => decide (p.1 ≠ n)).map fun p => numJ p.2) (N ++ ((pl.drop i).filter fun p => decide (p.1 ≠ n)).map (·.1)) true := by
 intro k
 induction k with
 | zero => intro i L N h h'; omega
 | succ k ih =>
  intro i L N h h' h1 h2
  rw [qPC.l0, hN, hL, qG, List.length_map]
  by_cases hi : i < pl.length
  ·
   rw [decide_eq_true (by omega), cond_true, quB, show bo3 true false true = false from rfl, qmE, Option.bind_some, bo3_F, cond_false, qg, List.getElem?_map, List.getElem?_eq_getElem hi, Option.map_some]
   dsimp only
   rw [Option.bind_some, qaG, List.drop_eq_getElem_cons hi, qw (by omega)]
   by_cases c : (pl[i]).1 ≠ n
   ·
    rw [decide_eq_true c, cond_true, Option.bind_some, qiC (by simp only [List.length_cons, List.length_nil]; omega), Option.bind_some, qg, List.getElem?_map, List.getElem?_eq_getElem hi, Option.map_some, Option.bind_some, Option.bind_some, qiC (by simp only [List.length_cons, List.length_nil]; omega), Option.bind_some, List.filter_cons_of_pos (by simpa using c), ih (i + 1) _ _ (by omega) (by omega) (by simp only [List.length_append, List.length_cons, List.length_nil]; omega) (by simp only [List.length_append, List.length_cons, List.length_nil]; omega)]
    simp
   · rw [decide_eq_false c, cond_false, List.filter_cons_of_neg (by simpa using c), ih (i + 1) _ _ (by omega) (by omega) (by omega) (by omega)]
  ·
   rw [decide_eq_false (by omega), cond_false, List.drop_eq_nil_of_le (by omega)]
   simp
theorem qiW {n : ByteArray} {p : NV} {P : List NV} (h : Sn (p :: P)) (hp : nlt p.1 n = false) : (p :: P).filter (fun x => nlt x.1 n) = [] ∧ (p :: P).filter (fun x => nlt n x.1) = (p :: P).filter (fun x => decide (x.1 ≠ n)) := by
 have hP := List.pairwise_cons.1 h
 have hge : ∀ x ∈ p :: P, nlt x.1 n = false := fun x hx => by
  rcases List.mem_cons.1 hx with rfl | hx
  · exact hp
  ·
   cases c : nlt x.1 n with
   | false => rfl
   | true => rw [qCJ (hP.1 x hx) c] at hp; cases hp
 refine ⟨List.filter_eq_nil_iff.2 fun x hx => by rw [hge x hx]; simp, List.filter_congr fun x hx => ?_⟩
 by_cases e : x.1 = n
 · rw [e, qXJ, decide_eq_false (by simp)]
 · rw [qWR e (hge x hx), decide_eq_true e]
theorem qjW (J : Json) (p : NV) (pl : List NV) (hs : Sn pl) (hN : J.Names = pl.map (·.1)) (hL : J.List_ = pl.map fun p => numJ p.2) (hlen : pl.length ≤ 10000000) :
    ∀ (k i : Nat), i ≤ pl.length → pl.length < i + k →
    qPC.l0 J p.1 (numJ p.2) (fun (y1 : List Json) (y2 : List ByteArray) (y3 : Bool) =>
  bif (bo3 y3 false true) then (
  (some [p.1]).bind fun l77 =>
  (appO 16 y2 l77).bind fun l78 =>
  (some [numJ p.2]).bind fun l79 =>
  (appO 80 y1 l79).bind fun l80 =>
  some (Json.mk 5 0 ByteArray.empty l80 l78))
  else (
  some (Json.mk 5 0 ByteArray.empty y1 y2))) k ((pl.take i).map fun p => numJ p.2) ((pl.take i).map (·.1)) false i = some (objJ (pl.take i ++ putP (pl.drop i) p)) := by
  intro k
  induction k with
  | zero => intro i h h'; omega
  | succ k ih =>
    intro i h h'
    rw [qPC.l0, hN, hL, qG, List.length_map]
    have ht : (pl.take i).length = i := by rw [List.length_take]; omega
    by_cases hi : i < pl.length
    · have hx : pl[i]? = some pl[i] := List.getElem?_eq_getElem hi
      have hsd : Sn (pl[i] :: pl.drop (i + 1)) := by rw [← List.drop_eq_getElem_cons hi]; exact List.Pairwise.sublist (List.drop_sublist ..) hs
      rw [decide_eq_true (by omega), cond_true, quB, show bo3 false false true = true from rfl, qdC, qg, List.getElem?_map, hx, Option.map_some, Option.bind_some, bo3_T, qSX, List.drop_eq_getElem_cons hi]
      cases c : nlt (pl[i]).1 p.1 with
      | true =>
        have hne : (pl[i]).1 ≠ p.1 := fun e => by rw [e, qXJ] at c; cases c
        rw [Bool.not_true, cond_false]
        dsimp only
        rw [Option.bind_some, qaG, decide_eq_true hne, cond_true, Option.bind_some, qiC (by simp only [List.length_map, ht, List.length_cons, List.length_nil]; omega), Option.bind_some, qg, List.getElem?_map, hx, Option.map_some, Option.bind_some, Option.bind_some, qiC (by simp only [List.length_map, ht, List.length_cons, List.length_nil]; omega), Option.bind_some, qw (by omega)]
        have e1 : ((pl.take i).map fun p => numJ p.2) ++ [numJ (pl[i]).2] = (pl.take (i + 1)).map fun p => numJ p.2 := by rw [qME hx, List.map_append]; rfl
        have e2 : ((pl.take i).map (·.1)) ++ [(pl[i]).1] = (pl.take (i + 1)).map (·.1) := by rw [qME hx, List.map_append]; rfl
        have e3 : putP (pl[i] :: pl.drop (i + 1)) p = pl[i] :: putP (pl.drop (i + 1)) p := by
          unfold putP
          rw [List.filter_cons_of_pos (p := fun x : NV => nlt x.1 p.1) c, List.filter_cons_of_neg (p := fun x : NV => nlt p.1 x.1) (by rw [qlK c]; simp)]; rfl
        rw [e1, e2, ih (i + 1) (by omega) (by omega), e3, qME hx, List.append_assoc]
        rfl
      | false =>
        obtain ⟨f1, f2⟩ := qiW hsd c
        have e3 : putP (pl[i] :: pl.drop (i + 1)) p = p :: ((pl[i] :: pl.drop (i + 1)).filter fun x => decide (x.1 ≠ p.1)) := by
          unfold putP; rw [f1, f2]; rfl
        rw [Bool.not_false, cond_true, Option.bind_some, qiC (by simp only [List.length_map, ht, List.length_cons, List.length_nil]; omega), Option.bind_some, Option.bind_some, qiC (by simp only [List.length_map, ht, List.length_cons, List.length_nil]; omega), Option.bind_some]
        dsimp only
        rw [Option.bind_some, qaG, qw (by omega), e3]
        have A := qhW J p.1 (numJ p.2) (fun (y1 : List Json) (y2 : List ByteArray) (y3 : Bool) =>
  bif (bo3 y3 false true) then (
  (some [p.1]).bind fun l77 =>
  (appO 16 y2 l77).bind fun l78 =>
  (some [numJ p.2]).bind fun l79 =>
  (appO 80 y1 l79).bind fun l80 =>
  some (Json.mk 5 0 ByteArray.empty l80 l78))
  else (
  some (Json.mk 5 0 ByteArray.empty y1 y2))) pl hN hL hlen k (i + 1)
        by_cases e : (pl[i]).1 ≠ p.1
        · rw [decide_eq_true e, cond_true, Option.bind_some, qiC (by simp only [List.length_append, List.length_map, ht, List.length_cons, List.length_nil]; omega), Option.bind_some, qg, List.getElem?_map, hx, Option.map_some, Option.bind_some, Option.bind_some, qiC (by simp only [List.length_append, List.length_map, ht, List.length_cons, List.length_nil]; omega), Option.bind_some, A _ _ (by omega) (by omega) (by simp only [List.length_append, List.length_map, ht, List.length_cons, List.length_nil]; omega) (by simp only [List.length_append, List.length_map, ht, List.length_cons, List.length_nil]; omega), show bo3 true false true = false from rfl, cond_false, List.filter_cons_of_pos (by simpa using e)]
          simp [objJ]
        · rw [decide_eq_false e, cond_false, A _ _ (by omega) (by omega) (by simp only [List.length_append, List.length_map, ht, List.length_cons, List.length_nil]; omega) (by simp only [List.length_append, List.length_map, ht, List.length_cons, List.length_nil]; omega), show bo3 true false true = false from rfl, cond_false, List.filter_cons_of_neg (by simpa using e)]
          simp [objJ]
    · have : i = pl.length := by omega
      subst this
      rw [decide_eq_false (by omega), cond_false, show bo3 false false true = true from rfl, cond_true, Option.bind_some, qiC (by simp only [List.length_map, ht, List.length_cons, List.length_nil]; omega), Option.bind_some, Option.bind_some, qiC (by simp only [List.length_map, ht, List.length_cons, List.length_nil]; omega), Option.bind_some, List.drop_length]
      simp [objJ, putP]
theorem qVH (J : Json) (p : NV) (pl : List NV) (hs : Sn pl) (hN : J.Names = pl.map (·.1)) (hL : J.List_ = pl.map fun p => numJ p.2) (hlen : pl.length ≤ 10000000) : qPC.f J p.1 (numJ p.2) = some (objJ (putP pl p)) := by
 unfold qPC.f
 rw [quB]
 exact qjW J p pl hs hN hL hlen (((lenI J.Names) - 0).toNat + 1) 0 (by omega) (by rw [hN, qG, List.length_map]; omega)
theorem qXR (K : Bool → ByteArray → Option ByteArray) (b : Bool) : ∀ (k u : Nat) (neg : Bool) (l : List UInt8), u < 10 ^ k → u ≤ 9223372036854775808 → l.length + k ≤ 1000 → qxB.l0 K (k + 1) (if neg = true then -(u : Int) else u) b (bl l) = K b (bl (digs u ++ l)) := by
 intro k
 induction k with
 | zero =>
  intro u neg l h _ _
  have : u = 0 := by simpa using h
  subst this
  rw [qxB.l0]
  cases neg <;> simp [digs]
 | succ k ih =>
  intro u neg l h hu hl
  rw [qxB.l0]
  by_cases h0 : u = 0
  ·
   subst h0
   cases neg <;> simp [digs]
  ·
   have hz : (if neg = true then -(u : Int) else u) ≠ 0 := by cases neg <;> simp <;> omega
   have hd : u / 10 < 10 ^ k := by rw [Nat.pow_succ] at h; omega
   have hdiv : w64 (Int.tdiv (if neg = true then -(u : Int) else u) 10) = (if neg = true then -((u / 10 : Nat) : Int) else ((u / 10 : Nat) : Int)) := by
    cases neg with
    | true => simp only [if_true]; rw [Int.neg_tdiv, Int.tdiv_eq_ediv_of_nonneg (by omega), qJB (by omega)]; omega
    | false => simp only [if_false, Bool.false_eq_true]; rw [Int.tdiv_eq_ediv_of_nonneg (by omega), qJB (by omega)]; omega
   have hm : Int.tmod (if neg = true then -(u : Int) else u) 10 = (if neg = true then -((u % 10 : Nat) : Int) else ((u % 10 : Nat) : Int)) := by
    cases neg with
    | true => simp only [if_true]; rw [Int.neg_tmod, Int.tmod_eq_emod_of_nonneg (by omega)]; omega
    | false => simp only [if_false, Bool.false_eq_true]; rw [Int.tmod_eq_emod_of_nonneg (by omega)]; omega
   rw [decide_eq_true hz, cond_true, hdiv, hm, qWF (by omega)]
   have hsm : smO (bl [UInt8.ofNat (48 + u % 10)]) (bl l) = some () := qUU (by rw [qWJ, qWJ]; simp only [List.length_cons, List.length_nil]; omega)
   have fin : qxB.l0 K (k + 1) (if neg = true then -((u / 10 : Nat) : Int) else ((u / 10 : Nat) : Int)) b (Ls.sa (bl [UInt8.ofNat (48 + u % 10)]) (bl l)) = K b (bl (digs (u / 10) ++ [UInt8.ofNat (48 + u % 10)] ++ l)) := by
    rw [bl_sa, ih (u / 10) neg _ hd (by omega) (by simp only [List.length_append, List.length_cons, List.length_nil]; omega)]
    simp
   by_cases hneg : (if neg = true then -((u % 10 : Nat) : Int) else ((u % 10 : Nat) : Int)) < 0
   ·
    have hn : neg = true := by cases neg <;> simp_all <;> omega
    subst hn
    simp only [if_true] at hneg fin ⊢
    rw [decide_eq_true hneg, cond_true, qJB (x := 0 - -((u % 10 : Nat) : Int)) (by omega), qJB (by omega), show (48 : Int) + (0 - -((u % 10 : Nat) : Int)) = ((48 + u % 10 : Nat) : Int) by omega, wrap8 (by omega), Option.bind_some, qTU _ (by omega), Option.bind_some, hsm, Option.bind_some, fin]
   ·
    have hv : (if neg = true then -((u % 10 : Nat) : Int) else ((u % 10 : Nat) : Int)) = ((u % 10 : Nat) : Int) := by cases neg <;> simp at hneg ⊢ <;> omega
    rw [decide_eq_false hneg, cond_false, hv, qJB (by omega), show (48 : Int) + ((u % 10 : Nat) : Int) = ((48 + u % 10 : Nat) : Int) by omega, wrap8 (by omega), Option.bind_some, qTU _ (by omega), Option.bind_some, hsm, Option.bind_some, fin]
theorem qOK (n : Int) (h : -9223372036854775808 ≤ n ∧ n ≤ 9223372036854775807) : qxB.f n = some (bl (Lib.itoa n)) := by
 unfold qxB.f
 by_cases h0 : n = 0
 ·
  subst h0
  rw [decide_eq_true rfl, cond_true, show Lib.itoa 0 = [48] by rw [Lib.itoa, if_neg (by omega), Lib.decDigits, dif_pos (by decide)]; rfl]
  rfl
 ·
  rw [decide_eq_false h0, cond_false, quB]
  have key := qXR (fun (y2 : Bool) (y3 : ByteArray) =>
   bif y2 then (
   (smO (ByteArray.mk #[45]) y3).bind fun u20 =>
   some (Ls.sa (ByteArray.mk #[45]) y3))
   else (
   some y3)) (decide (n < 0)) 29 n.natAbs (decide (n < 0)) [] (by omega) (by omega) (by simp)
  have hn : (if decide (n < 0) = true then -((n.natAbs : Nat) : Int) else (n.natAbs : Nat)) = n := by
   by_cases c : n < 0
   · rw [if_pos (by simpa using c)]; omega
   · rw [if_neg (by simpa using c)]; omega
  rw [hn] at key
  have hlen := qBJ 29 n.natAbs (by omega)
  refine key.trans ?_
  rw [List.append_nil]
  have hdg : digs n.natAbs = Lib.decDigits n.natAbs := by unfold digs; rw [if_neg (by omega)]
  by_cases c : n < 0
  ·
   rw [decide_eq_true c, cond_true, show ByteArray.mk #[45] = bl [45] from rfl, qUU (by rw [qWJ, qWJ]; simp only [List.length_cons, List.length_nil]; omega), Option.bind_some, bl_sa, hdg]
   simp [Lib.itoa, c]
  ·
   rw [decide_eq_false c, cond_false, hdg]
   simp [Lib.itoa, c]
   try congr 2; omega
theorem qaB (x y z : Int) : qsB.f x y z = some (decide (y ≤ x ∧ x ≤ z)) := by
 unfold qsB.f
 rw [quD, Bool.decide_and]
theorem qdG (r : Row) (col : Int) (h : Row_b r) : qYE.f r col = some (cellF r col) := by
 have hl : r.Cells.length ≤ 9223372036854775807 := h
 unfold qYE.f cellF
 rw [qG, qJB (by omega), qaB, Option.bind_some, qzB]
 by_cases d : 0 ≤ col ∧ col ≤ (r.Cells.length : Int) - 1
 · rw [decide_eq_true d, Bool.not_true, cond_false, qPE d, Option.bind_some, if_pos d]
 · rw [decide_eq_false d, Bool.not_false, cond_true, if_neg d]
theorem qXU (q : Query) (r : Row) (hr : Row_b r) (hc : In64 q.Show) (hl : q.Show.length ≤ 2097152) (K : Int → Int → ByteArray → List Json → List ByteArray → Option Json) : ∀ (k i : Nat), i ≤ q.Show.length → q.Show.length < i + k →
  qyC.l0 q r K k 5 0 ByteArray.empty ((foldP ((q.Show.take i).map (colP r))).map fun p => numJ p.2) ((foldP ((q.Show.take i).map (colP r))).map (·.1)) i = K 5 0 ByteArray.empty ((foldP (q.Show.map (colP r))).map fun p => numJ p.2) ((foldP (q.Show.map (colP r))).map (·.1)) := by
 intro k
 induction k with
 | zero => intro i h h'; omega
 | succ k ih =>
  intro i h h'
  rw [qyC.l0, qG]
  by_cases hi : i < q.Show.length
  ·
   have hx : q.Show[i]? = some q.Show[i] := List.getElem?_eq_getElem hi
   have h64 := hc _ (List.getElem_mem hi)
   have hlen := qrH ((q.Show.take i).map (colP r))
   rw [List.length_map, List.length_take] at hlen
   rw [decide_eq_true (by omega), cond_true, qg, hx, Option.bind_some, qOK _ h64, Option.bind_some, put_c _ h64, Option.bind_some, qdG r _ hr, Option.bind_some]
   unfold qdD.f
   rw [Option.bind_some, qw (by omega)]
   have := qVH (Json.mk 5 0 ByteArray.empty ((foldP ((q.Show.take i).map (colP r))).map fun p => numJ p.2) ((foldP ((q.Show.take i).map (colP r))).map (·.1))) (colP r q.Show[i]) _ (qHI _) rfl rfl (by omega)
   refine (congrArg (fun o => Option.bind o _) this).trans ?_
   rw [Option.bind_some]
   have e : putP (foldP ((q.Show.take i).map (colP r))) (colP r q.Show[i]) = foldP ((q.Show.take (i + 1)).map (colP r)) := by
    rw [qME hx, List.map_append, ← qDH]; rfl
   rw [e]
   exact ih (i + 1) (by omega) (by omega)
  ·
   have : i = q.Show.length := by omega
   subst this
   rw [decide_eq_false (by omega), cond_false, List.take_length]
theorem qrM (q : Query) (r : Row) (n : Int) (hr : Row_b r) (hc : In64 q.Show) (hl : q.Show.length ≤ 2097152) : qyC.f q r n = some (rowObj q r n) := by
 unfold qyC.f rowObj
 rw [quB]
 have hlen := qrH (q.Show.map (colP r))
 rw [List.length_map] at hlen
 refine (qXU q r hr hc hl _ (((lenI q.Show) - 0).toNat + 1) 0 (by omega) (by rw [qG]; omega)).trans ?_
 unfold qdD.f
 rw [Option.bind_some]
 have h1 := qVH (Json.mk 5 0 ByteArray.empty ((foldP (q.Show.map (colP r))).map fun p => numJ p.2) ((foldP (q.Show.map (colP r))).map (·.1))) (idP r) _ (qHI _) rfl rfl (by omega)
 refine (congrArg (fun o => Option.bind o _) h1).trans ?_
 rw [Option.bind_some, ← qDH]
 cases hk : q.Kids with
 | false =>
  rw [cond_false]
  simp [kidsL, hk]
 | true =>
  rw [cond_true, Option.bind_some]
  have hlen2 := qrH (q.Show.map (colP r) ++ [idP r])
  rw [List.length_append, List.length_map, List.length_singleton] at hlen2
  have h2 := qVH (objJ (foldP (q.Show.map (colP r) ++ [idP r]))) (kidsP n) _ (qHI _) rfl rfl (by omega)
  refine (congrArg (fun o => Option.bind o _) h2).trans ?_
  rw [Option.bind_some, ← qDH]
  simp [kidsL, hk]
theorem qsM (s : ByteArray) (hs : (s.data.toList.length : Int) ≤ 4611686018427387904) : ∀ (k i : Nat), i ≤ s.data.toList.length → s.data.toList.length < i + k → qlC.l0 s k i = some (((s.data.toList.drop i).all fun b => decide (32 ≤ b.toNat ∧ b.toNat ≤ 126)) && decide (s.size ≤ 60)) := by
 intro k
 induction k with
 | zero => intro i h h'; omega
 | succ k ih =>
  intro i h h'
  rw [qlC.l0, qHS]
  by_cases hi : i < s.data.toList.length
  ·
   have hx := List.getElem?_eq_getElem hi
   have hb : (s.data.toList[i]).toNat < 256 := UInt8.toNat_lt _
   rw [decide_eq_true (by omega), cond_true, qzV hi, Option.bind_some, gd_of, Option.bind_some, sx_at hx, List.drop_eq_getElem_cons hi, List.all_cons, qw (by omega), ih (i + 1) (by omega) (by omega), qHQ]
   by_cases c : 32 ≤ (s.data.toList[i]).toNat ∧ (s.data.toList[i]).toNat ≤ 126
   · rw [decide_eq_false (by omega), decide_eq_false (by omega), decide_eq_true c]; simp
   ·
    rw [decide_eq_false c]
    have : (decide (((s.data.toList[i]).toNat : Int) < 32) || decide (126 < ((s.data.toList[i]).toNat : Int))) = true := by
     generalize (s.data.toList[i]).toNat = b at c
     rw [Bool.or_eq_true, decide_eq_true_eq, decide_eq_true_eq]; omega
    rw [this]; simp
  ·
   rw [decide_eq_false (by omega), cond_false, List.drop_eq_nil_of_le (by omega), qAJ]
   simp
   omega
theorem qUI (s : ByteArray) (hs : (s.size : Int) ≤ 4611686018427387904) : qlC.f s = some (txtB s) := by
 unfold qlC.f txtB
 rw [qAJ] at hs
 rw [qHS]
 exact qsM s hs _ 0 (by omega) (by omega)
theorem qaL (j : Json) (hl : (j.Names.length : Int) ≤ 4611686018427387904) (hs : ∀ x ∈ j.Names, (x.size : Int) ≤ 4611686018427387904) : qRC.f j = some (if j.Kind = 5 then namesB j.Names && decide (j.Names.length = j.List_.length) else decide (j.Names.length = 0)) := by
 unfold qRC.f namesB
 by_cases h5 : j.Kind = 5
 ·
  rw [decide_eq_false (by simp [h5]), cond_false, if_pos h5]
  refine (qGD (f := qRC.l0 j) (l := j.Names) (fun i x => txtB x && !(decide (0 < i) && Ls.sc .geq (j.Names.getD (i - 1) default) x)) (some false) (some (decide (j.Names.length = j.List_.length))) (fun k i x hx => ?_) (fun k i hi => ?_) _ 0 (by omega) (by rw [qG]; omega)).trans ?_
  ·
   have hi := at_lt hx
   rw [qRC.l0, qG, decide_eq_true (by omega), cond_true, qg, hx, Option.bind_some, qUI x (hs x (List.mem_of_getElem? hx)), Option.bind_some, quN _ i x _ hx hl, Option.bind_some, qw (by omega)]
   cases txtB x with
   | false => rfl
   | true =>
    by_cases c : 0 < i
    ·
     have c' : 0 < (i : Int) := by omega
     rw [decide_eq_true c, decide_eq_true c']
     cases hg : Ls.sc .geq (j.Names.getD (i - 1) default) x <;> simp [bo3, hg] <;> simp_all
    ·
     have c' : ¬ 0 < (i : Int) := by omega
     rw [decide_eq_false c, decide_eq_false c']
     simp [bo3]
  ·
   rw [qRC.l0, qG, decide_eq_false (by omega), cond_false, qG]
   congr 1
   rw [decide_eq_decide]; omega
  · cases allFrom (fun i x => txtB x && !(decide (0 < i) && Ls.sc .geq (j.Names.getD (i - 1) default) x)) j.Names 0 <;> rfl
 ·
  rw [decide_eq_true h5, cond_true, if_neg h5, qG]
  congr 1
  rw [decide_eq_decide]; omega
def GrOk (v s : Int) (B : Int) : Prop := 1 ≤ v ∧ v ≤ B ∧ ((s ≤ 400 → v = s) ∧ (400 < s → 400 < v))
theorem qbL (j : Json) (d : Int) (self : Json → Int → Option Int) (f : Json → Int) (B : Int) (hB : B ≤ 1000000) (K : Int → Option Int) (hf : ∀ x, 1 ≤ f x ∧ f x ≤ 401) (hl : (j.List_.length : Int) ≤ 4611686018427387904) (hs : ∀ x ∈ j.List_, ∃ v, self x (w64 (d - 1)) = some v ∧ GrOk v (f x) B) :
  ∀ (k i : Nat) (n s : Int), i ≤ j.List_.length → j.List_.length < i + k → s ≤ 401 → 1 ≤ s → GrOk n s (400 + B) → (400 < n → s = 401) → ∃ v, qPB.l0 j d self K k n i = K v ∧ GrOk v (if 400 < n then 401 else capL f s (j.List_.drop i)) (400 + B) := by
 intro k
 induction k with
 | zero => intro i n s h h'; omega
 | succ k ih =>
  intro i n s h h' hs1 hs0 hn hnn
  obtain ⟨g1, g2, g3, g4⟩ := hn
  rw [qPB.l0, qG]
  by_cases hi : i < j.List_.length
  ·
   by_cases c : n ≤ 400
   ·
    obtain ⟨v, e1, v1, v2, v3, v4⟩ := hs _ (List.getElem_mem hi)
    have hfx := hf j.List_[i]
    have hns : n = s := by
     by_cases c2 : s ≤ 400
     · exact g3 c2
     · have := g4 (by omega); omega
    rw [decide_eq_true (by omega), decide_eq_true c, show bo3 true true false = true from rfl, cond_true, qg, List.getElem?_eq_getElem hi, Option.bind_some, e1, Option.bind_some, qJB (by omega), qw (by omega), List.drop_eq_getElem_cons hi, if_neg (by omega), capL]
    by_cases cc : 400 < s + f j.List_[i]
    ·
     rw [if_pos cc]
     have hv : 400 < n + v := by
      by_cases c3 : f j.List_[i] ≤ 400
      · have := v3 c3; omega
      · have := v4 (by omega); omega
     obtain ⟨w, w1, w2⟩ := ih (i + 1) (n + v) 401 (by omega) (by omega) (by omega) (by omega) ⟨by omega, by omega, fun h => by omega, fun _ => hv⟩ (fun _ => rfl)
     rw [if_pos hv] at w2
     exact ⟨w, w1, w2⟩
    ·
     rw [if_neg cc]
     have hv : v = f j.List_[i] := v3 (by omega)
     obtain ⟨w, w1, w2⟩ := ih (i + 1) (n + v) (s + f j.List_[i]) (by omega) (by omega) (by omega) (by omega) ⟨by omega, by omega, fun h => by omega, fun h => by omega⟩ (fun h => by omega)
     rw [if_neg (by omega)] at w2
     exact ⟨w, w1, w2⟩
   ·
    rw [decide_eq_false c, quD, Bool.and_false, cond_false, if_pos (by omega)]
    exact ⟨n, rfl, g1, g2, fun h => by omega, fun _ => by omega⟩
  ·
   rw [decide_eq_false (by omega), bo3_F, cond_false, List.drop_eq_nil_of_le (by omega), capL]
   refine ⟨n, rfl, ?_⟩
   by_cases c : 400 < n
   · rw [if_pos c]; exact ⟨g1, g2, fun h => by omega, fun _ => c⟩
   · rw [if_neg c]; exact ⟨g1, g2, g3, g4⟩
theorem qtM : ∀ (k d : Nat) (j : Json), d < k → d ≤ 1000 → Jw j → ∃ v, qPB.g k j d = some v ∧ GrOk v (sizeF d j) (401 + 401 * d) := by
 intro k
 induction k with
 | zero => intro d j h; omega
 | succ k ih =>
  intro d j h hd hj
  obtain ⟨h1, h2, h3, h4, h5⟩ := (Jw_eq j).1 hj
  rw [qPB.g, qPB.b]
  cases d with
  | zero =>
   rw [decide_eq_true (by omega), cond_true, sizeF]
   exact ⟨401, rfl, by omega, by omega, fun h => by omega, fun h => by omega⟩
  | succ d =>
   have hbad : GrOk 401 401 (401 + 401 * ((d + 1 : Nat) : Int)) := ⟨by omega, by omega, fun h => by omega, fun h => by omega⟩
   rw [decide_eq_false (by omega), cond_false, quB, qaL j h3 h2, qaG, qG, qUI _ h1, qaB, qaB]
   have e1 : decide (0 < (j.List_.length : Int)) = decide (0 < j.List_.length) := decide_eq_decide.2 (by omega)
   rw [e1]
   generalize hK : (fun (y2 : Int) =>
 (gd (bo3 (bo3 (bo3 (bo3 (decide (j.Kind ≠ 3)) (decide (j.S ≠ ByteArray.mk #[])) false) true (bo3 (bo3 (decide (j.Kind = 3)) true (decide (4 ≤ j.Kind))) (decide (j.N ≠ 0)) false)) true (bo3 (decide (j.Kind < 4)) (decide (0 < j.List_.length)) false)) false true) (some (if j.Kind = 5 then namesB j.Names && decide (j.Names.length = j.List_.length) else decide (j.Names.length = 0)))).bind fun r37 =>
 bif (bo3 (bo3 (bo3 (bo3 (decide (j.Kind ≠ 3)) (decide (j.S ≠ ByteArray.mk #[])) false) true (bo3 (bo3 (decide (j.Kind = 3)) true (decide (4 ≤ j.Kind))) (decide (j.N ≠ 0)) false)) true (bo3 (decide (j.Kind < 4)) (decide (0 < j.List_.length)) false)) true (bo3 r37 false true)) then (
 some (401 : Int))
 else (
 some y2)) = K
   have hKv : ∀ n : Int, K n = some (if k3B j = true then 401 else n) := by
    intro n
    rw [← hK]
    dsimp only
    unfold k3B
    simp only [quD, qHQ, qzB]
    generalize ((decide (j.Kind ≠ 3) && decide (j.S ≠ ByteArray.mk #[])) || ((decide (j.Kind = 3) || decide (4 ≤ j.Kind)) && decide (j.N ≠ 0)) || (decide (j.Kind < 4) && decide (0 < j.List_.length))) = b1
    generalize (if j.Kind = 5 then namesB j.Names && decide (j.Names.length = j.List_.length) else decide (j.Names.length = 0)) = b2
    cases b1 <;> cases b2 <;> rfl
   clear hK
   have hl0 : ¬ 4 ≤ j.Kind → k3B j = false → capL (sizeF d) 1 j.List_ = 1 := fun hk h => by
    unfold k3B at h
    have : j.List_.length = 0 := by
     simp only [Bool.or_eq_false_iff, Bool.and_eq_false_iff, decide_eq_false_iff_not] at h
     omega
    rw [List.length_eq_zero_iff.1 this, capL]
   have flat : ¬ 4 ≤ j.Kind → ∀ b : Bool, preB j = b → ∃ v, (bif (!b) then some 401 else K 1) = some v ∧ GrOk v (if ownB j = true then capL (sizeF d) 1 j.List_ else 401) (401 + 401 * ((d + 1 : Nat) : Int)) := by
    intro hk b hb
    rw [qIS, hb, hKv]
    cases b with
    | false => exact ⟨401, rfl, by simpa using hbad⟩
    | true =>
     cases h3 : k3B j with
     | true => exact ⟨401, rfl, by simpa using hbad⟩
     | false =>
      refine ⟨1, rfl, ?_⟩
      rw [if_pos (by rfl), hl0 hk h3]
      exact ⟨by omega, by omega, fun _ => rfl, fun h => by omega⟩
   have deep : 4 ≤ j.Kind → preB j = true → ∃ v, qPB.l0 j ((d + 1 : Nat) : Int) (qPB.g k) K (((lenI j.List_) - 0).toNat + 1) 1 0 = some v ∧ GrOk v (if ownB j = true then capL (sizeF d) 1 j.List_ else 401) (401 + 401 * ((d + 1 : Nat) : Int)) := by
    intro hk hb
    obtain ⟨v, e, hv⟩ := qbL j ((d + 1 : Nat) : Int) (qPB.g k) (sizeF d) (401 + 401 * d) (by omega) K (qDF d) h4 (fun x hx => by
     rw [qJB (by omega), show ((d + 1 : Nat) : Int) - 1 = (d : Int) by omega]
     exact ih d x (by omega) (by omega) (h5 x hx)) (((lenI j.List_) - 0).toNat + 1) 0 1 1 (by omega) (by rw [qG]; omega) (by omega) (by omega) ⟨by omega, by omega, fun _ => rfl, fun h => by omega⟩ (fun h => by omega)
    rw [if_neg (by omega), List.drop_zero] at hv
    obtain ⟨v1, v2, v3, v4⟩ := hv
    rw [qIS, hb, Bool.true_and]
    refine ⟨_, e.trans (hKv v), ?_⟩
    cases h3 : k3B j with
    | true => rw [if_pos rfl, if_neg (by simp)]; exact hbad
    | false => rw [if_neg (by simp), if_pos (by rfl)]; exact ⟨v1, by omega, v3, v4⟩
   rw [sizeF]
   by_cases k0 : j.Kind = 0
   ·
    rw [decide_eq_true k0, cond_true]
    have := flat (by omega) (decide (j.N = 0)) (by unfold preB; rw [if_pos k0])
    by_cases n0 : j.N = 0
    · rw [decide_eq_false (by simp [n0]), cond_false]; rw [decide_eq_true n0] at this; exact this
    · rw [decide_eq_true n0, cond_true]; rw [decide_eq_false n0] at this; exact this
   ·
    rw [decide_eq_false k0, cond_false]
    by_cases k1 : j.Kind = 1
    ·
     rw [decide_eq_true k1, cond_true, Option.bind_some, qzB]
     exact flat (by omega) _ (by unfold preB; rw [if_neg k0, if_pos k1])
    ·
     rw [decide_eq_false k1, cond_false]
     by_cases k2 : j.Kind = 2
     ·
      rw [decide_eq_true k2, cond_true, Option.bind_some, qzB]
      exact flat (by omega) _ (by unfold preB; rw [if_neg k0, if_neg k1, if_pos k2])
     ·
      rw [decide_eq_false k2, cond_false]
      by_cases k3 : j.Kind = 3
      ·
       rw [decide_eq_true k3, cond_true, Option.bind_some, qzB]
       exact flat (by omega) _ (by unfold preB; rw [if_neg k0, if_neg k1, if_neg k2, if_pos k3])
      ·
       rw [decide_eq_false k3, cond_false, quB]
       by_cases k4 : j.Kind = 4
       ·
        rw [decide_eq_true k4, cond_true]
        exact deep (by omega) (by unfold preB; rw [if_neg k0, if_neg k1, if_neg k2, if_neg k3, decide_eq_true k4]; rfl)
       ·
        rw [decide_eq_false k4, cond_false]
        by_cases k5 : j.Kind = 5
        ·
         rw [decide_eq_true k5]
         exact deep (by omega) (by unfold preB; rw [if_neg k0, if_neg k1, if_neg k2, if_neg k3, decide_eq_true k5]; simp)
        ·
         rw [decide_eq_false k5]
         have hp : preB j = false := by unfold preB; rw [if_neg k0, if_neg k1, if_neg k2, if_neg k3, decide_eq_false k4, decide_eq_false k5]; rfl
         rw [qIS, hp, Bool.false_and, if_neg (by simp)]
         exact ⟨401, rfl, hbad⟩
theorem quM (j : Json) (h : Jw j) : qrF.f j = some (jsonB j) := by
 unfold qrF.f qPB.f jsonB
 obtain ⟨v, e, v1, v2, v3, v4⟩ := qtM 20 6 j (by omega) (by omega) h
 rw [show (6 : Int) = ((6 : Nat) : Int) from rfl, e, Option.bind_some]
 by_cases c : sizeF 6 j ≤ 400
 · rw [v3 c, decide_eq_true c]
 · rw [decide_eq_false c, decide_eq_false (by have := v4 (by omega); omega)]
theorem qFJ (j : Json) (h : Jw j) : qhD.f j = some (orJ j) := by
 unfold qhD.f orJ
 rw [quM j h, Option.bind_some, qzB]
 cases jsonB j <;> rfl
theorem qcL (q : Query) (n : Nat) : qTF.f q (n : Int) = some (firstF q n : Int) := by
 unfold qTF.f firstF
 by_cases c : q.First = 0
 · rw [decide_eq_true c, cond_true, if_pos c]
 ·
  rw [decide_eq_false c, cond_false, if_neg c, Option.bind_some, Option.bind_some]
  congr 1
  unfold minO maxO
  split <;> split <;> (try split) <;> omega
theorem qkW (x y : ByteArray) : qvD.f x y = some (nlt x y) := by
 unfold qvD.f qiD.f
 rw [qaG, decide_eq_false (by simp), Option.bind_some, qmE, Option.bind_some, bo3_F]
 rfl
theorem qQQ (pl : List NV) (n : ByteArray) (hs : Sn pl) (hn : ∀ x ∈ pl, x.1 ≠ n) (hlen : pl.length ≤ 10000000) :
  ∃ (t : Nat) (b : Bool), t ≤ pl.length ∧ qk.f (pl.map (·.1)) n = some ((t : Int), b) ∧ pl.filter (fun x => nlt x.1 n) = pl.take t ∧ pl.filter (fun x => nlt n x.1) = pl.drop t := by
 unfold qk.f
 rw [quB, qG, List.length_map]
 generalize hK : (fun (y1 : Int) =>
 (gd (decide (y1 < (pl.length : Int))) (getO (pl.map (·.1)) y1)).bind fun x14 =>
 (gd (bo3 (decide (y1 < (pl.length : Int))) (bo3 (Ls.sc .eql x14 n) false true) false) (getO (pl.map (·.1)) y1)).bind fun x15 =>
 (gd (bo3 (decide (y1 < (pl.length : Int))) (bo3 (Ls.sc .eql x14 n) false true) false) (qMC.f x15)).bind fun r16 =>
 (gd (bo3 (bo3 (decide (y1 < (pl.length : Int))) (bo3 (Ls.sc .eql x14 n) false true) false) r16 false) (qMC.f n)).bind fun r17 =>
 some (y1, (bo3 (decide (y1 < (pl.length : Int))) (bo3 (Ls.sc .eql x14 n) true (bo3 r16 r17 false)) false))) = K
 have hat : ∀ c, c < pl.length → ∃ x, pl[c]? = some x := fun c h => ⟨pl[c], List.getElem?_eq_getElem h⟩
 have hmono : ∀ (c c' : Nat) (x y : NV), c ≤ c' → pl[c]? = some x → pl[c']? = some y → nlt x.1 n = false → nlt y.1 n = false := fun c c' x y h1 h2 h3 h4 => by
  rcases Nat.lt_or_ge c c' with h | h
  ·
   have : nlt x.1 y.1 = true := by
    obtain ⟨a1, rfl⟩ := List.getElem?_eq_some_iff.1 h2
    obtain ⟨a2, rfl⟩ := List.getElem?_eq_some_iff.1 h3
    exact List.pairwise_iff_getElem.1 hs c c' a1 a2 h
   cases e : nlt y.1 n with
   | false => rfl
   | true => rw [qCJ this e] at h4; cases h4
  ·
   obtain rfl : c = c' := by omega
   rw [h2] at h3; cases h3; exact h4
 obtain ⟨t, t1, t2, t3, t4, t5⟩ := bsearch (f := fun k i j => qk.l0 (pl.map (·.1)) n K k i j) (K := K) (fun c => nlt (pl.getD c default).1 n) 0 pl.length
  (fun c c' h1 h2 h3 h4 => by
   obtain ⟨x, hx⟩ := hat c (by omega)
   obtain ⟨y, hy⟩ := hat c' h3
   rw [List.getD_eq_getElem?_getD, hx, Option.getD_some] at h4
   rw [List.getD_eq_getElem?_getD, hy, Option.getD_some]
   exact hmono c c' x y h2 hx hy h4)
  (fun k i j h1 h2 h3 => by
   obtain ⟨x, hx⟩ := hat ((i + j) / 2) (by omega)
   show qk.l0 _ n K (k + 1) i j = _
   rw [qk.l0, decide_eq_true (by omega), cond_true, qXL (n := i + j) (by omega) (by omega), qg, List.getElem?_map, hx, Option.map_some, Option.bind_some, qkW, Option.bind_some, List.getD_eq_getElem?_getD, hx, Option.getD_some, qw (by omega)]
   cases nlt x.1 n with
   | true => rw [cond_true, if_pos rfl]
   | false => rw [cond_false, if_neg (by simp)])
  (fun k i => by
   show qk.l0 _ n K (k + 1) i i = _
   rw [qk.l0, decide_eq_false (by omega), cond_false])
  (((pl.length : Int) - 0).toNat + 1) 0 pl.length (Nat.le_refl _) (by omega) (Nat.le_refl _) (by omega)
 have hlo : ∀ x ∈ pl.take t, nlt x.1 n = true := fun x hx => by
  obtain ⟨i, hi⟩ := List.getElem?_of_mem hx
  have hl := at_lt hi
  rw [List.length_take] at hl
  rw [List.getElem?_take, if_pos (by omega)] at hi
  have := t4 i (by omega) (by omega)
  rw [List.getD_eq_getElem?_getD, hi, Option.getD_some] at this
  exact this
 have hhi : ∀ x ∈ pl.drop t, nlt x.1 n = false := fun x hx => by
  obtain ⟨i, hi⟩ := List.getElem?_of_mem hx
  rw [List.getElem?_drop] at hi
  have hl := at_lt hi
  have := t5 (t + i) (by omega) (by omega)
  rw [List.getD_eq_getElem?_getD, hi, Option.getD_some] at this
  exact this
 have hKt : ∃ b, K (t : Int) = some ((t : Int), b) := by
  rw [← hK]
  dsimp only
  by_cases c : t < pl.length
  ·
   rw [decide_eq_true (by omega), qdC, qg, List.getElem?_map, List.getElem?_eq_getElem c, Option.map_some, Option.bind_some]
   unfold qMC.f
   rw [gd_of, Option.bind_some, gd_of, Option.bind_some, gd_of, Option.bind_some]
   exact ⟨_, rfl⟩
  ·
   rw [decide_eq_false (by omega)]
   exact ⟨_, rfl⟩
 obtain ⟨b, hb⟩ := hKt
 refine ⟨t, b, t2, t3.trans hb, ?_, ?_⟩
 ·
  conv => lhs; rw [← List.take_append_drop t pl]
  rw [List.filter_append, List.filter_eq_self.2 hlo, List.filter_eq_nil_iff.2 (fun x hx => by rw [hhi x hx]; simp), List.append_nil]
 ·
  conv => lhs; rw [← List.take_append_drop t pl]
  rw [List.filter_append, List.filter_eq_nil_iff.2 (fun x hx => by rw [qlK (hlo x hx)]; simp), List.filter_eq_self.2 (fun x hx => qWR (hn x (List.mem_of_mem_drop hx)) (hhi x hx)), List.nil_append]
theorem qYU {α : Type} {b : Nat} {l m : List α} {i : Nat} {x : α} (hm : m = [x]) (hi : i ≤ l.length) (hb : ((l.length : Int) + 1) * b ≤ 140737488355328 ∧ (l.length : Int) + 1 ≤ 140737488355328) : insO b l (i : Int) m = some (l.take i ++ x :: l.drop i) := by
 subst hm
 unfold insO
 rw [if_pos ⟨rfl, by omega, by omega, by simpa using hb.1, by simpa using hb.2⟩, Int.toNat_natCast]
 simp
theorem qfV (P : List NV) (hd : P.Pairwise fun a b => a.1 ≠ b.1) (hf : Fn1 P) (hlen : P.length ≤ 10000000) : ∀ (k i : Nat), i ≤ P.length → P.length < i + k →
  qwC.l0 (P.map (·.1)) (P.map (·.2)) k ((foldP (P.take i)).map fun p => numJ p.2) ((foldP (P.take i)).map (·.1)) i = some (objJ (foldP P)) := by
 intro k
 induction k with
 | zero => intro i h h'; omega
 | succ k ih =>
  intro i h h'
  rw [qwC.l0, qG, List.length_map]
  by_cases hi : i < P.length
  ·
   have hx : P[i]? = some P[i] := List.getElem?_eq_getElem hi
   have hl := qrH (P.take i)
   have ht : (P.take i).length = i := by rw [List.length_take]; omega
   have hfT : Fn1 (P.take i) := fun a ha b hb => hf a (List.mem_of_mem_take ha) b (List.mem_of_mem_take hb)
   obtain ⟨t, b, t1, t2, t3, t4⟩ := qQQ (foldP (P.take i)) (P[i]).1 (qHI _) (fun x hx' => by
    rw [qYL _ hfT] at hx'
    obtain ⟨m, hm⟩ := List.getElem?_of_mem hx'
    have hml := at_lt hm
    rw [List.getElem?_take, if_pos (by omega)] at hm
    obtain ⟨a1, rfl⟩ := List.getElem?_eq_some_iff.1 hm
    exact List.pairwise_iff_getElem.1 hd m i a1 hi (by omega)) (by omega)
   have e : foldP (P.take (i + 1)) = (foldP (P.take i)).take t ++ P[i] :: (foldP (P.take i)).drop t := by
    rw [qME hx, qDH]; unfold putP; rw [t3, t4]
   rw [decide_eq_true (by omega), cond_true, qg, List.getElem?_map, hx, Option.map_some, Option.bind_some, t2, Option.bind_some, Option.bind_some]
   unfold qSD.f qsC.f
   rw [qYU rfl (by rw [List.length_map]; exact t1) (by rw [List.length_map]; omega), Option.bind_some, qg, List.getElem?_map, hx, Option.map_some, Option.bind_some, Option.bind_some, qYU rfl (by rw [List.length_map]; exact t1) (by rw [List.length_map]; omega), Option.bind_some, qw (by omega), ← ih (i + 1) (by omega) (by omega), e]
   simp only [List.map_append, List.map_cons, List.map_take, List.map_drop]
   rfl
  ·
   have : i = P.length := by omega
   subst this
   rw [decide_eq_false (by omega), cond_false, List.take_length]
   rfl
theorem qnO (P : List NV) (hd : P.Pairwise fun a b => a.1 ≠ b.1) (hf : Fn1 P) (hlen : P.length ≤ 10000000) : qwC.f (P.map (·.1)) (P.map (·.2)) = some (objJ (foldP P)) := by
 unfold qwC.f
 exact qfV P hd hf hlen (((lenI (P.map (·.1))) - 0).toNat + 1) 0 (by omega) (by rw [qG, List.length_map]; omega)
theorem qdL (n : Int) (h : -9223372036854775808 ≤ n ∧ n ≤ 9223372036854775807) : strconv_Itoa.f n = some (bl (Lib.itoa n)) := by
 unfold strconv_Itoa.f itoaO
 rw [if_pos h]; rfl
theorem qvM (n : Int) (h : -9223372036854775808 ≤ n ∧ n ≤ 9223372036854775807) : qsF.f n = some (bl (Lib.itoa n)) := by
 unfold qsF.f
 rw [qdL n h]; rfl
theorem qgI (l : List Int) (x : Int) (hl : l.length ≤ 9223372036854775806) : ∀ (k i : Nat), i ≤ l.length → l.length < i + k → ∃ r : Int, qBC.l0 l x k i = some r ∧ (0 ≤ r ↔ x ∈ l.drop i) := by
 intro k
 induction k with
 | zero => intro i h h'; omega
 | succ k ih =>
  intro i h h'
  rw [qBC.l0, qG]
  by_cases hi : i < l.length
  ·
   rw [decide_eq_true (by omega), cond_true, qg, List.getElem?_eq_getElem hi, Option.bind_some, List.drop_eq_getElem_cons hi, qw (by omega)]
   by_cases c : x = l[i]
   ·
    rw [decide_eq_true c, cond_true]
    exact ⟨i, rfl, ⟨fun _ => by rw [List.mem_cons]; exact .inl c, fun _ => by omega⟩⟩
   ·
    rw [decide_eq_false c, cond_false]
    obtain ⟨r, h1, h2⟩ := ih (i + 1) (by omega) (by omega)
    exact ⟨r, h1, h2.trans ⟨fun h => by rw [List.mem_cons]; exact .inr h, fun h => by rw [List.mem_cons] at h; exact h.elim (fun e => absurd e c) id⟩⟩
  ·
   rw [decide_eq_false (by omega), cond_false, List.drop_eq_nil_of_le (by omega)]
   exact ⟨-1, rfl, by simp⟩
theorem qfH (l : List Int) (x : Int) (hl : l.length ≤ 9223372036854775806) : qzC.f l x = some (decide (x ∈ l)) := by
 unfold qzC.f qBC.f
 obtain ⟨r, h1, h2⟩ := qgI l x hl (((lenI l) - 0).toNat + 1) 0 (by omega) (by rw [qG]; omega)
 refine (congrArg (fun o => Option.bind o _) h1).trans ?_
 rw [Option.bind_some]
 congr 1
 rw [List.drop_zero] at h2
 exact decide_eq_decide.2 h2
theorem qeG (r : Row) (col : Int) (h : Row_b r) : qaE.f r col = some (cellF r col) := by
 have hl : r.Cells.length ≤ 9223372036854775807 := h
 unfold qaE.f cellF
 rw [qG, qJB (by omega), qfB, Option.bind_some, qzB]
 by_cases d : 0 ≤ col ∧ col ≤ (r.Cells.length : Int) - 1
 · rw [decide_eq_true d, Bool.not_true, cond_false, qPE d, Option.bind_some, if_pos d]
 · rw [decide_eq_false d, Bool.not_false, cond_true, if_neg d]
def dd (l : List Int) : Nat → List Int
 | 0 => []
 | i + 1 => if l.getD i 0 ∈ l.take i then dd l i else dd l i ++ [l.getD i 0]
theorem qSS (l : List Int) : ∀ i, (dd l i).length ≤ i
 | 0 => by simp [dd]
 | i + 1 => by have := qSS l i; rw [dd]; split <;> simp <;> omega
theorem qTS (l : List Int) (x : Int) : ∀ i, i ≤ l.length → (x ∈ dd l i ↔ x ∈ l.take i)
 | 0, _ => by simp [dd]
 | i + 1, h => by
  have ih := qTS l x i (by omega)
  have e : l.take (i + 1) = l.take i ++ [l.getD i 0] := by
   rw [qME (x := l[i]'(by omega)) (List.getElem?_eq_getElem (by omega)), List.getD_eq_getElem?_getD, List.getElem?_eq_getElem (by omega)]; rfl
  rw [dd, e]
  split
  ·
   rename_i c
   rw [ih, List.mem_append, List.mem_singleton]
   exact ⟨.inl, fun h => h.elim id fun e => e ▸ c⟩
  · rw [List.mem_append, ih, List.mem_append]
theorem dd_nd (l : List Int) : ∀ i, i ≤ l.length → (dd l i).Pairwise (· ≠ ·)
 | 0, _ => List.Pairwise.nil
 | i + 1, h => by
  have ih := dd_nd l i (by omega)
  rw [dd]
  split
  · exact ih
  ·
   rename_i c
   refine List.pairwise_append.2 ⟨ih, List.pairwise_singleton .., fun a ha b hb => ?_⟩
   rw [List.mem_singleton.1 hb]
   rintro rfl
   exact c ((qTS l _ i (by omega)).1 ha)
def implPs (q : Query) (r : Row) (n : Int) : List NV := [idP r] ++ (dd q.Show q.Show.length).map (colP r) ++ kidsL q n
theorem qwM (q : Query) (r : Row) (hr : Row_b r) (hc : In64 q.Show) (hl : q.Show.length ≤ 2097152) (K : List ByteArray → List Int → Option Json) : ∀ (k i : Nat), i ≤ q.Show.length → q.Show.length < i + k →
  qfC.l0 q r K k (([idP r] ++ (dd q.Show i).map (colP r)).map (·.1)) (([idP r] ++ (dd q.Show i).map (colP r)).map (·.2)) i = K (([idP r] ++ (dd q.Show q.Show.length).map (colP r)).map (·.1)) (([idP r] ++ (dd q.Show q.Show.length).map (colP r)).map (·.2)) := by
 intro k
 induction k with
 | zero => intro i h h'; omega
 | succ k ih =>
  intro i h h'
  rw [qfC.l0, qG]
  by_cases hi : i < q.Show.length
  ·
   have hx : q.Show[i]? = some q.Show[i] := List.getElem?_eq_getElem hi
   have hg : q.Show.getD i 0 = q.Show[i] := by rw [List.getD_eq_getElem?_getD, hx]; rfl
   have h64 := hc _ (List.getElem_mem hi)
   have hdl := qSS q.Show i
   have hcut : cutO q.Show 0 (i : Int) = some (q.Show.take i) := by rw [qKU (by omega)]; simp
   rw [decide_eq_true (by omega), cond_true, qg, hx, Option.bind_some, hcut, Option.bind_some, qfH _ _ (by rw [List.length_take]; omega), Option.bind_some, qw (by omega), ← ih (i + 1) (by omega) (by omega), dd, hg]
   by_cases c : q.Show[i] ∈ q.Show.take i
   · rw [decide_eq_true c, cond_true, if_pos c]
   ·
    rw [decide_eq_false c, cond_false, if_neg c, qvM _ h64, Option.bind_some, put_c _ h64, Option.bind_some, Option.bind_some, qiC (by simp only [List.length_append, List.length_map, List.length_cons, List.length_nil]; omega), Option.bind_some, qeG r _ hr, Option.bind_some, Option.bind_some, qiC (by simp only [List.length_append, List.length_map, List.length_cons, List.length_nil]; omega), Option.bind_some]
    simp only [List.map_append, List.map_cons, List.map_nil, List.append_assoc]
    rfl
  ·
   have : i = q.Show.length := by omega
   subst this
   rw [decide_eq_false (by omega), cond_false]
theorem qZU {q : Query} {r : Row} {n : Int} (hc : In64 q.Show) : (implPs q r n).Pairwise fun a b => a.1 ≠ b.1 := by
 unfold implPs
 have hm : ∀ x ∈ dd q.Show q.Show.length, -9223372036854775808 ≤ x ∧ x ≤ 9223372036854775807 := fun x hx => hc x (by simpa using (qTS q.Show x _ (Nat.le_refl _)).1 hx)
 have hk : ∀ b ∈ kidsL q n, b = kidsP n := fun b hb => by
  unfold kidsL at hb
  split at hb
  · exact List.mem_singleton.1 hb
  · simp at hb
 refine List.pairwise_append.2 ⟨List.pairwise_append.2 ⟨List.pairwise_singleton .., ?_, fun a ha b hb => ?_⟩, ?_, fun a ha b hb => ?_⟩
 ·
  refine List.pairwise_map.2 ?_
  have := dd_nd q.Show q.Show.length (Nat.le_refl _)
  refine List.Pairwise.imp_of_mem (fun {a b} ha hb hne e => ?_) this
  have e : colN a = colN b := e
  rw [qfI, qfI] at e
  exact hne (qOS (hm a ha) (hm b hb) (List.cons.inj (qOQ e)).2)
 ·
  rw [List.mem_singleton.1 ha]
  obtain ⟨c, _, rfl⟩ := List.mem_map.1 hb
  exact fun e => qYJ c e.symm
 ·
  unfold kidsL; split
  · exact List.pairwise_singleton ..
  · exact List.Pairwise.nil
 ·
  rw [hk b hb]
  rcases List.mem_append.1 ha with ha | ha
  · rw [List.mem_singleton.1 ha]; exact qZJ
  ·
   obtain ⟨c, _, rfl⟩ := List.mem_map.1 ha
   exact qsH c
theorem qeL {q : Query} {r : Row} {n : Int} (hc : In64 q.Show) : Fn1 (implPs q r n) ∧ foldP (implPs q r n) = foldP (q.Show.map (colP r) ++ [idP r] ++ kidsL q n) := by
 have hk : ∀ b ∈ kidsL q n, b = kidsP n := fun b hb => by
  unfold kidsL at hb
  split at hb
  · exact List.mem_singleton.1 hb
  · simp at hb
 have hdm : ∀ x, x ∈ dd q.Show q.Show.length ↔ x ∈ q.Show := fun x => by rw [qTS q.Show x _ (Nat.le_refl _), List.take_length]
 have f1 : Fn1 (implPs q r n) := qBW (r := r) (n := n) (q := q) hc fun x hx => by
  unfold implPs at hx
  simp only [List.mem_append, List.mem_map, List.mem_singleton] at hx
  rcases hx with (rfl | ⟨c, h1, rfl⟩) | h
  · exact .inr (.inl rfl)
  · exact .inl ⟨c, (hdm c).1 h1, rfl⟩
  · exact .inr (.inr (hk _ h))
 have f2 : Fn1 (q.Show.map (colP r) ++ [idP r] ++ kidsL q n) := qBW (r := r) (n := n) (q := q) hc fun x hx => by
  simp only [List.mem_append, List.mem_map, List.mem_singleton] at hx
  rcases hx with (⟨c, h1, rfl⟩ | rfl) | h
  · exact .inl ⟨c, h1, rfl⟩
  · exact .inr (.inl rfl)
  · exact .inr (.inr (hk _ h))
 refine ⟨f1, qsS f1 f2 fun x => ?_⟩
 unfold implPs
 simp only [List.mem_append, List.mem_map, List.mem_singleton]
 constructor
 ·
  rintro ((h | ⟨c, h1, h2⟩) | h)
  · exact .inl (.inr h)
  · exact .inl (.inl ⟨c, (hdm c).1 h1, h2⟩)
  · exact .inr h
 ·
  rintro ((⟨c, h1, h2⟩ | h) | h)
  · exact .inl (.inr ⟨c, (hdm c).2 h1, h2⟩)
  · exact .inl (.inl h)
  · exact .inr h
theorem qfL (q : Query) (r : Row) (hr : Row_b r) (hc : In64 q.Show) (hl : q.Show.length ≤ 2097152) (K : List ByteArray → List Int → Option Json) : qfC.l0 q r K (((lenI q.Show) - 0).toNat + 1) [ByteArray.mk #[105, 100]] [r.Id] 0 = K (([idP r] ++ (dd q.Show q.Show.length).map (colP r)).map (·.1)) (([idP r] ++ (dd q.Show q.Show.length).map (colP r)).map (·.2)) := by
 have h := qwM q r hr hc hl K (((lenI q.Show) - 0).toNat + 1) 0 (by omega) (by rw [qG]; omega)
 rw [dd, List.map_nil, List.append_nil] at h
 exact h
theorem qgL (q : Query) (r : Row) (n : Int) (hc : In64 q.Show) (hl : q.Show.length ≤ 2097152) : ((qwC.f ((implPs q r n).map (·.1)) ((implPs q r n).map (·.2))).bind fun r49 => (qbE.f r49).bind fun r50 => some r50) = some (orJ (rowObj q r n)) := by
 have hdl := qSS q.Show q.Show.length
 have hkl : (kidsL q n).length ≤ 1 := by unfold kidsL; split <;> simp
 have hobj : qwC.f ((implPs q r n).map (·.1)) ((implPs q r n).map (·.2)) = some (rowObj q r n) := by
  rw [qnO _ (qZU hc) (qeL hc).1 (by unfold implPs; simp only [List.length_append, List.length_map, List.length_singleton]; omega), (qeL hc).2]; rfl
 rw [hobj, Option.bind_some, qTI _ (qmO hc hl).1]; rfl
theorem qxM (q : Query) (r : Row) (n : Int) (hr : Row_b r) (hc : In64 q.Show) (hl : q.Show.length ≤ 2097152) : qfC.f q r n = some (orJ (rowObj q r n)) := by
 have hdl := qSS q.Show q.Show.length
 have fin := qgL q r n hc hl
 unfold qfC.f
 rw [Option.bind_some, Option.bind_some, quB, qfL q r hr hc hl]
 generalize hN : ([idP r] ++ (dd q.Show q.Show.length).map (colP r)) = N at *
 have hNl : N.length ≤ 2097153 := by rw [← hN]; simp only [List.length_append, List.length_map, List.length_singleton]; omega
 have e : implPs q r n = N ++ kidsL q n := by unfold implPs; rw [hN]
 rw [e] at fin
 clear hN e
 rw [← fin, quB]
 unfold kidsL
 cases hk : q.Kids with
 | false =>
  rw [cond_false, if_neg (by simp), List.append_nil]
 | true =>
  rw [cond_true, Option.bind_some, qiC (by simp only [List.length_map, List.length_cons, List.length_nil]; omega), Option.bind_some, Option.bind_some, qiC (by simp only [List.length_map, List.length_cons, List.length_nil]; omega), Option.bind_some, if_pos rfl, List.map_append, List.map_append]
  rfl
theorem qDW (kids : List Int) (i : Nat) (hk : (kids.length : Int) ≤ 9223372036854775807) {R : Type} (K : Int → Option R) : (bif (decide ((i : Int) < (lenI kids))) then ((getO kids (i : Int)).bind fun x => K x) else K 0) = K (kids.getD i 0) := by
 rw [qG]
 by_cases c : i < kids.length
 · rw [decide_eq_true (by omega), cond_true, qg, List.getElem?_eq_getElem c, Option.bind_some, List.getD_eq_getElem?_getD, List.getElem?_eq_getElem c]; rfl
 · rw [decide_eq_false (by omega), cond_false, List.getD_eq_getElem?_getD, List.getElem?_eq_none (by omega)]; rfl
theorem qhL (q : Query) (kids : List Int) (l : List Row) (hc : In64 q.Show) (hl : q.Show.length ≤ 2097152) (hr : ∀ r ∈ l, Row_b r) (hn : l.length ≤ 2097152) (hk : (kids.length : Int) ≤ 9223372036854775807) : ∀ (k i : Nat), i ≤ l.length → l.length < i + k →
  qjC.l0 q kids l k ((docsF q kids (l.take i) 0).map orJ) i = some ((docsF q kids l 0).map orJ) := by
 intro k
 induction k with
 | zero => intro i h h'; omega
 | succ k ih =>
  intro i h h'
  rw [qjC.l0, qG]
  by_cases hi : i < l.length
  ·
   have hx : l[i]? = some l[i] := List.getElem?_eq_getElem hi
   have ht : (l.take i).length = i := by rw [List.length_take]; omega
   rw [decide_eq_true (by omega), cond_true, qg, hx, Option.bind_some, quB, qDW kids i hk, qxM q _ _ (hr _ (List.getElem_mem hi)) hc hl, Option.bind_some, Option.bind_some, qiC (by simp only [List.length_map, qtH, ht, List.length_cons, List.length_nil]; omega), Option.bind_some, qw (by omega), ← ih (i + 1) (by omega) (by omega), qME hx, qaJ, ht, List.map_append, Nat.zero_add]
   rfl
  ·
   have : i = l.length := by omega
   subst this
   rw [decide_eq_false (by omega), cond_false, List.take_length]
theorem qiL (q : Query) (rows : List Row) (kids : List Int) (hc : In64 q.Show) (hl : q.Show.length ≤ 2097152) (hr : ∀ r ∈ rows, Row_b r) (hn : rows.length ≤ 2097152) (hk : (kids.length : Int) ≤ 9223372036854775807) : qjC.f q rows kids = some ((docsF q kids (rows.take (firstF q rows.length)) 0).map orJ) := by
 unfold qjC.f
 have hf := qDJ q rows.length
 rw [qG, qcL, Option.bind_some, qKU (by omega), Option.bind_some, Int.toNat_natCast]
 have e : (rows.take (firstF q rows.length)).drop (0 : Int).toNat = rows.take (firstF q rows.length) := by simp
 rw [e]
 exact qhL q kids _ hc hl (fun r h => hr r (List.mem_of_mem_take h)) (by rw [List.length_take]; omega) hk (((lenI (rows.take (firstF q rows.length))) - 0).toNat + 1) 0 (by omega) (by rw [qG]; omega)
theorem qoO (q : Query) (kids : List Int) (rows : List Row) (hc : In64 q.Show) (hl : q.Show.length ≤ 2097152) (hr : ∀ r ∈ rows, Row_b r) (hn : rows.length ≤ 2097152) (hk : (kids.length : Int) ≤ 9223372036854775807) (K : List Json → Option Json) : ∀ (k i : Nat), i ≤ firstF q rows.length → firstF q rows.length < i + k →
  qvC.l0 q rows kids K k (docsF q kids (rows.take i) 0) i = K (docsF q kids (rows.take (firstF q rows.length)) 0) := by
 intro k
 have hf := qDJ q rows.length
 induction k with
 | zero => intro i h h'; omega
 | succ k ih =>
  intro i h h'
  rw [qvC.l0, qG, qNK, Option.bind_some]
  by_cases hi : i < firstF q rows.length
  ·
   have hi2 : i < rows.length := by omega
   have hx : rows[i]? = some rows[i] := List.getElem?_eq_getElem hi2
   have ht : (rows.take i).length = i := by rw [List.length_take]; omega
   rw [decide_eq_true (by omega), cond_true, quB, qDW kids i hk, qg, hx, Option.bind_some, qrM q _ _ (hr _ (List.getElem_mem hi2)) hc hl, Option.bind_some, Option.bind_some, qiC (by simp only [qtH, ht, List.length_cons, List.length_nil]; omega), Option.bind_some, qw (by omega), ← ih (i + 1) (by omega) (by omega), qME hx, qaJ, ht, Nat.zero_add]
  ·
   have : i = firstF q rows.length := by omega
   subst this
   rw [decide_eq_false (by omega), cond_false]
theorem qpO (q : Query) (rows : List Row) (kids : List Int) (hc : In64 q.Show) (hl : q.Show.length ≤ 2097152) (hr : ∀ r ∈ rows, Row_b r) (hn : rows.length ≤ 2097152) (hk : (kids.length : Int) ≤ 9223372036854775807) : qvC.f q rows kids = some (docOfF q rows kids) := by
 unfold qvC.f docOfF
 have hf := qDJ q rows.length
 rw [quB]
 refine (qoO q kids rows hc hl hr hn hk _ ((lenI rows).toNat + 1) 0 (by omega) (by rw [qG]; omega)).trans ?_
 unfold qdD.f
 rw [Option.bind_some, Option.bind_some, Option.bind_some, qG]
 have := qFJ (docObj q rows kids) (qRS hc hl hn)
 refine (congrArg (fun o => Option.bind o _) this).trans ?_
 rfl
def schemaB (s : Schema) : Bool := s.Cols.all (fun n => decide (1 ≤ n ∧ n ≤ 4)) && decide (1 ≤ (s.Cols.length : Int) ∧ (s.Cols.length : Int) ≤ 3)
theorem qRE (s : Schema) (h : qqD s) : qpB.f s = some (schemaB s) := by
 have hl : s.Cols.length ≤ 9223372036854775807 := h
 unfold qpB.f joinK
 refine (qGD (f := qpB.l0 s _) (l := s.Cols) (fun _ n => decide (1 ≤ n ∧ n ≤ 4)) (some false) (some (decide (1 ≤ (s.Cols.length : Int) ∧ (s.Cols.length : Int) ≤ 3))) (fun k i x hx => ?_) (fun k i hi => ?_) _ 0 (by omega) (by (try simp only [qG]); omega)).trans ?_
 ·
  have hi := at_lt hx
  rw [qpB.l0, qG, decide_eq_true (by omega), cond_true, qg, hx, Option.bind_some, qaB, Option.bind_some, qzB, qw (by omega)]
  cases decide (1 ≤ x ∧ x ≤ 4) <;> rfl
 · rw [qpB.l0, qG, decide_eq_false (by omega), cond_false, qaB, Option.bind_some]
 ·
  rw [qYD, schemaB]
  cases s.Cols.all fun n => decide (1 ≤ n ∧ n ≤ 4) <;> rfl
def rowB (s : Schema) (t : Int) (r : Row) : Bool :=
 schemaB s && decide (0 ≤ t ∧ t ≤ (s.Cols.length : Int) - 1) && decide (1 ≤ r.Id ∧ r.Id ≤ 999) && decide ((r.Cells.length : Int) = s.Cols.getD t.toNat 0) && r.Cells.all fun n => decide (-1000000000 ≤ n ∧ n ≤ 1000000000)
def rowsB (s : Schema) (t : Int) (rows : List Row) : Bool :=
 allFrom (fun i r => rowB s t r && !(decide (0 < i) && decide (r.Id ≤ (rows.getD (i - 1) default).Id))) rows 0 && (schemaB s && decide (0 ≤ t ∧ t ≤ (s.Cols.length : Int) - 1) && decide (rows.length ≤ 24))
theorem qJI {s : Schema} {t : Int} {rows : List Row} (h : rowsB s t rows = true) {i : Nat} {r : Row} (hr : rows[i]? = some r) : rowB s t r = true := by
 unfold rowsB at h
 rw [Bool.and_eq_true] at h
 have := qQH.1 h.1 i r hr
 rw [Bool.and_eq_true] at this
 exact this.1
theorem qKI {s : Schema} {t : Int} {rows : List Row} (h : rowsB s t rows = true) : rows.length ≤ 24 := by
 unfold rowsB at h
 simp only [Bool.and_eq_true, decide_eq_true_eq] at h
 exact h.2.2
theorem qjL {s : Schema} {t : Int} {r : Row} (h : rowB s t r = true) : (r.Cells.length : Int) = s.Cols.getD t.toNat 0 := by
 unfold rowB at h
 simp only [Bool.and_eq_true, decide_eq_true_eq] at h
 exact h.1.2
theorem qqO (s : Schema) (t : Int) (r : Row) (hs : qqD s) (hr : Row_b r) : qJD.f s t r = some (rowB s t r) := by
 have hl : s.Cols.length ≤ 9223372036854775807 := hs
 have hrl : r.Cells.length ≤ 9223372036854775807 := hr
 unfold qJD.f rowB
 rw [qRE _ hs, Option.bind_some, qG, qJB (by omega), qaB, qaB]
 cases schemaB s with
 | false => rfl
 | true =>
  by_cases d : 0 ≤ t ∧ t ≤ (s.Cols.length : Int) - 1
  case neg => rw [decide_eq_false d]; rfl
  rw [decide_eq_true d, qPE d]
  by_cases d2 : 1 ≤ r.Id ∧ r.Id ≤ 999
  case neg => rw [decide_eq_false d2]; rfl
  rw [decide_eq_true d2]
  simp only [bo3_F, bo3_T, qdC, Option.bind_some, Bool.true_and]
  by_cases d3 : (r.Cells.length : Int) = s.Cols.getD t.toNat 0
  case neg => rw [show decide (lenI r.Cells ≠ s.Cols.getD t.toNat 0) = true from decide_eq_true d3, decide_eq_false d3]; rfl
  rw [show decide (lenI r.Cells ≠ s.Cols.getD t.toNat 0) = false from decide_eq_false (fun h => h d3), decide_eq_true d3, cond_false, Bool.true_and]
  refine (qGD (f := qJD.l0 r) (l := r.Cells) (fun _ n => decide (-1000000000 ≤ n ∧ n ≤ 1000000000)) (some false) (some true) (fun k i x hx => ?_) (fun k i hi => ?_) _ 0 (by omega) (by (try simp only [qG]); omega)).trans ?_
  ·
   have hi := at_lt hx
   rw [qJD.l0, qG, decide_eq_true (by omega), cond_true, qg, hx, Option.bind_some, qaB, Option.bind_some, qzB, qw (by omega)]
   cases decide (-1000000000 ≤ x ∧ x ≤ 1000000000) <;> rfl
  · rw [qJD.l0, qG, decide_eq_false (by omega), cond_false]
  ·
   rw [qYD]
   cases r.Cells.all fun n => decide (-1000000000 ≤ n ∧ n ≤ 1000000000) <;> rfl
theorem qyM (s : Schema) (t : Int) (rows : List Row) (hs : qqD s) (hr : RowS_b rows) : qmC.f s t rows = some (rowsB s t rows) := by
 have hl : s.Cols.length ≤ 9223372036854775807 := hs
 obtain ⟨hrl, hr2⟩ := hr
 unfold qmC.f rowsB
 simp only [joinK]
 refine (qGD (f := qmC.l0 s t rows _) (l := rows) (fun i r => rowB s t r && !(decide (0 < i) && decide (r.Id ≤ (rows.getD (i - 1) default).Id))) (some false) (some (schemaB s && decide (0 ≤ t ∧ t ≤ (s.Cols.length : Int) - 1) && decide (rows.length ≤ 24))) (fun k i x hx => ?_) (fun k i hi => ?_) _ 0 (by omega) (by (try simp only [qG]); omega)).trans ?_
 ·
  have hi := at_lt hx
  rw [qmC.l0, qG, decide_eq_true (by omega), cond_true, qg, hx, Option.bind_some, qqO _ _ _ hs (hr2 x (List.mem_of_getElem? hx)), Option.bind_some, qJQ hx (by omega), Option.bind_some, qw (by omega)]
  rw [show decide (0 < (i : Int)) = decide (0 < i) from by simp]
  cases rowB s t x <;> cases decide (0 < i) <;> (try rfl)
  simp only [bo3_F, bo3_T, Bool.true_and, cond_true]
  by_cases e : x.Id ≤ (rows.getD (i - 1) default).Id
  · simp [e]
  · simp [e]
 ·
  rw [qmC.l0, qG, decide_eq_false (by omega), cond_false, qRE _ hs, Option.bind_some]
  first | rw [qkD _ _ hs] | rw [qG s.Cols, qJB (by omega), qaB]
  have e24 : decide ((rows.length : Int) ≤ 24) = decide (rows.length ≤ 24) := by rw [decide_eq_decide]; omega
  simp only [qG, e24]
  generalize decide (0 ≤ t ∧ t ≤ (s.Cols.length : Int) - 1) = b1
  generalize decide (rows.length ≤ 24) = b2
  cases schemaB s <;> cases b1 <;> cases b2 <;> rfl
 · cases allFrom (fun i r => rowB s t r && !(decide (0 < i) && decide (r.Id ≤ (rows.getD (i - 1) default).Id))) rows 0 <;> rfl
def storeB (s : Store) : Bool :=
 schemaB s.Schema && decide (0 ≤ s.Version ∧ s.Version ≤ 100000) && decide (s.Tables.length = s.Schema.Cols.length) && allFrom (fun i rows => rowsB s.Schema (i : Int) rows) s.Tables 0
theorem qhI {s : Store} (h : storeB s = true) {i : Nat} {rows : List Row} (hr : s.Tables[i]? = some rows) : rowsB s.Schema i rows = true := by
 unfold storeB at h
 rw [Bool.and_eq_true] at h
 exact qQH.1 h.2 i rows hr
theorem quH {s : Store} (h : storeB s = true) : s.Tables.length = s.Schema.Cols.length ∧ schemaB s.Schema = true := by
 unfold storeB at h
 simp only [Bool.and_eq_true, decide_eq_true_eq] at h
 exact ⟨h.1.2, h.1.1.1⟩
theorem qRQ (v : Int) : qsB.f v 0 100000 = some (decide (0 ≤ v ∧ v ≤ 100000)) := qaB _ _ _
theorem qvF (s : Store) (hb : Store_b s) : qIC.f s = some (storeB s) := by
 obtain ⟨hs, ht, ht2⟩ := hb
 have hl : s.Schema.Cols.length ≤ 9223372036854775807 := hs
 unfold qIC.f storeB
 rw [qRE _ hs, Option.bind_some, qRQ]
 cases schemaB s.Schema with
 | false => rfl
 | true =>
  by_cases d : 0 ≤ s.Version ∧ s.Version ≤ 100000
  case neg => rw [decide_eq_false d]; rfl
  rw [decide_eq_true d]
  by_cases d2 : s.Tables.length = s.Schema.Cols.length
  case neg =>
   rw [show decide (lenI s.Tables ≠ lenI s.Schema.Cols) = true from decide_eq_true (by simp only [qG]; omega), decide_eq_false d2]
   rfl
  rw [show decide (lenI s.Tables ≠ lenI s.Schema.Cols) = false from decide_eq_false (by simp only [qG]; omega), decide_eq_true d2]
  simp only [bo3_F, bo3_T, qdC, Option.bind_some, Bool.true_and, cond_false]
  refine (qGD (f := qIC.l0 s) (l := s.Tables) (fun i rows => rowsB s.Schema (i : Int) rows) (some false) (some true) (fun k i x hx => ?_) (fun k i hi => ?_) _ 0 (by omega) (by (try simp only [qG]); omega)).trans ?_
  ·
   have hi := at_lt hx
   rw [qIC.l0, qG, decide_eq_true (by omega), cond_true, qg, hx, Option.bind_some, qyM _ _ _ hs (ht2 x (List.mem_of_getElem? hx)), Option.bind_some, qzB, qw (by omega)]
   cases rowsB s.Schema i x <;> rfl
  · rw [qIC.l0, qG, decide_eq_false (by omega), cond_false]
  · cases allFrom (fun i rows => rowsB s.Schema (i : Int) rows) s.Tables 0 <;> rfl
def kidsB (s : Schema) (q : Query) : Bool :=
 if q.Kids then decide (0 ≤ q.KidTable ∧ q.KidTable ≤ (s.Cols.length : Int) - 1) && decide (0 ≤ q.KidCol ∧ q.KidCol ≤ w64 (s.Cols.getD q.KidTable.toNat 0 - 1)) else decide (q.KidTable = 0) && decide (q.KidCol = 0)
def condB (cols : Int) (c : Cond) : Bool := decide (0 ≤ c.Col ∧ c.Col ≤ w64 (cols - 1)) && decide (1 ≤ c.Op ∧ c.Op ≤ 4) && decide (-1000000000 ≤ c.V ∧ c.V ≤ 1000000000)
def showB (cols : Int) (l : List Int) : Bool := allFrom (fun i x => decide (0 ≤ x ∧ x ≤ w64 (cols - 1)) && !(decide (0 < i) && decide (x ≤ l.getD (i - 1) 0))) l 0
def queryB (s : Schema) (q : Query) : Bool :=
  schemaB s && decide (0 ≤ q.Table ∧ q.Table ≤ (s.Cols.length : Int) - 1) &&
    (let cols := s.Cols.getD q.Table.toNat 0
     q.Where.all (condB cols) && showB cols q.Show && (decide (q.Where.length ≤ 3) && decide (0 ≤ q.Order ∧ q.Order ≤ cols) && (!q.Down || decide (0 < q.Order)) && decide (0 ≤ q.First ∧ q.First ≤ 24) && kidsB s q))
theorem qSQ {r : Bool} {l : List Int} {i : Nat} {x : Int} (hx : l[i]? = some x) (hl : i < 9223372036854775807) : gd (bo3 r (decide (0 < (i : Int))) false) (getO l (w64 ((i : Int) - 1))) = some (bif bo3 r (decide (0 < (i : Int))) false then l.getD (i - 1) 0 else 0) := by
 refine qLU _ fun h => ?_
 have h0 := of_decide_eq_true (bo_r h)
 have hi := at_lt hx
 rw [qJB (by omega), show ((i : Int) - 1) = ((i - 1 : Nat) : Int) by omega, qg, List.getD_eq_getElem?_getD, List.getElem?_eq_getElem (by omega)]
 rfl
theorem qwF (s : Schema) (q : Query) (h : qqD s) (hq : Query_b q) : qYB.f s q = some (queryB s q) := by
 have hcl : s.Cols.length ≤ 9223372036854775807 := h
 obtain ⟨hw, hs⟩ := hq
 have hwl : q.Where.length ≤ 9223372036854775807 := hw
 have hsl : q.Show.length ≤ 9223372036854775807 := hs
 unfold qYB.f queryB
 rw [qRE _ h, Option.bind_some]
 cases schemaB s with
 | false => rfl
 | true =>
  rw [show bo3 (bo3 true false true) false true = true from rfl, qdC, qG, qJB (by omega), qaB, Option.bind_some]
  by_cases d : 0 ≤ q.Table ∧ q.Table ≤ (s.Cols.length : Int) - 1
  case neg => rw [decide_eq_false d]; rfl
  rw [decide_eq_true d, qPE d]
  generalize s.Cols.getD q.Table.toNat 0 = cols
  by_cases d3 : q.Where.length ≤ 3
  case neg =>
   rw [qG, decide_eq_true (by omega), show bo3 (bo3 (bo3 true false true) true (bo3 true false true)) true true = true from rfl, cond_true, decide_eq_false d3]
   simp
  rw [qG, decide_eq_false (by omega), show bo3 (bo3 (bo3 true false true) true (bo3 true false true)) true false = false from rfl, cond_false, decide_eq_true d3, Option.bind_some]
  simp only [joinK, Bool.true_and]
  refine (qGD (f := qYB.l0 q cols _) (l := q.Where) (fun _ c => condB cols c) (some false) (some (showB cols q.Show && (decide (0 ≤ q.Order ∧ q.Order ≤ cols) && (!q.Down || decide (0 < q.Order)) && decide (0 ≤ q.First ∧ q.First ≤ 24) && kidsB s q))) (fun k i x hx => ?_) (fun k i hi => ?_) _ 0 (by omega) (by (try simp only [qG]); omega)).trans ?_
  ·
   have hi := at_lt hx
   rw [qYB.l0, qG, decide_eq_true (by omega), cond_true, qg, hx, Option.bind_some, qaB, Option.bind_some, qaB, qaB, qw (by omega)]
   unfold condB
   cases decide (0 ≤ x.Col ∧ x.Col ≤ w64 (cols - 1)) <;> cases decide (1 ≤ x.Op ∧ x.Op ≤ 4) <;> cases decide (-1000000000 ≤ x.V ∧ x.V ≤ 1000000000) <;> rfl
  ·
   rw [qYB.l0, qG, decide_eq_false (by omega), cond_false]
   refine (qGD (f := qYB.l1 q cols _) (l := q.Show) (fun i x => decide (0 ≤ x ∧ x ≤ w64 (cols - 1)) && !(decide (0 < i) && decide (x ≤ q.Show.getD (i - 1) 0))) (some false) (some (decide (0 ≤ q.Order ∧ q.Order ≤ cols) && (!q.Down || decide (0 < q.Order)) && decide (0 ≤ q.First ∧ q.First ≤ 24) && kidsB s q)) (fun k i x hx => ?_) (fun k i hi => ?_) _ 0 (by omega) (by (try simp only [qG]); omega)).trans ?_
   ·
    have hi := at_lt hx
    rw [qYB.l1, qG, decide_eq_true (by omega), cond_true, qg, hx, Option.bind_some, qaB, Option.bind_some, qSQ hx (by omega), Option.bind_some, qw (by omega)]
    rw [show decide (0 < (i : Int)) = decide (0 < i) from by simp]
    cases decide (0 ≤ x ∧ x ≤ w64 (cols - 1)) <;> cases decide (0 < i) <;> (try rfl)
    simp only [quD, qzB, qHQ, Bool.not_true, Bool.not_false, Bool.true_and, cond_true]
    cases decide (x ≤ q.Show.getD (i - 1) 0) <;> rfl
   ·
    rw [qYB.l1, qG, decide_eq_false (by omega), cond_false, qaB, Option.bind_some, qaB]
    by_cases e0 : 0 ≤ q.Order ∧ q.Order ≤ cols
    case neg => rw [decide_eq_false e0]; rfl
    rw [decide_eq_true e0, show bo3 (bo3 true false true) false true = true from rfl, qdC, Option.bind_some]
    by_cases e1 : 0 ≤ q.First ∧ q.First ≤ 24
    case neg => rw [decide_eq_false e1]; simp [bo3]
    rw [decide_eq_true e1]
    have e2 : (bo3 (decide (q.Order = 0)) q.Down false) = !(!q.Down || decide (0 < q.Order)) := by
     cases q.Down with
     | false => cases decide (q.Order = 0) <;> rfl
     | true =>
      by_cases e3 : q.Order = 0
      · simp [e3, bo3]
      ·
       have : 0 < q.Order := by omega
       simp [e3, bo3, this]
    rw [e2]
    cases hd : (!q.Down || decide (0 < q.Order)) with
    | false => simp [bo3]
    | true =>
     rw [show bo3 (bo3 (bo3 true false true) true (bo3 true false true)) true (!true) = false from rfl, cond_false, qzB]
     unfold kidsB
     cases q.Kids with
     | false => simp [quD]
     | true =>
      rw [Bool.not_true, cond_false, qaB, Option.bind_some, if_pos rfl]
      by_cases d : 0 ≤ q.KidTable ∧ q.KidTable ≤ (s.Cols.length : Int) - 1
      ·
       rw [decide_eq_true d, qdC, qPE d, Option.bind_some, qdC, qaB, Option.bind_some, quD]
       simp
      ·
       rw [decide_eq_false d, qmE, Option.bind_some, qmE, Option.bind_some, quD]
       simp
   ·
    unfold showB
    cases allFrom (fun i x => decide (0 ≤ x ∧ x ≤ w64 (cols - 1)) && !(decide (0 < i) && decide (x ≤ q.Show.getD (i - 1) 0))) q.Show 0 <;> rfl
  ·
   rw [qYD]
   cases q.Where.all fun c => condB cols c <;> simp
def cmpB (op v z : Int) : Bool := if op = 1 then decide (v = z) else if op = 2 then decide (v < z) else if op = 3 then decide (z < v) else if op = 4 then decide (v ≠ z) else false
def holdsB (c : Cond) (r : Row) : Bool := decide (0 ≤ c.Col ∧ c.Col ≤ (r.Cells.length : Int) - 1) && cmpB c.Op (r.Cells.getD c.Col.toNat 0) c.V
def matchesB (q : Query) (r : Row) : Bool := q.Where.all fun c => holdsB c r
theorem qkL (c : Cond) (r : Row) (h : Row_b r) : qSF.f c r = some (holdsB c r) := by
 have hl : r.Cells.length ≤ 9223372036854775807 := h
 unfold qSF.f holdsB
 rw [qG, qJB (by omega), qaB, Option.bind_some, qzB]
 by_cases d : 0 ≤ c.Col ∧ c.Col ≤ (r.Cells.length : Int) - 1
 ·
  rw [decide_eq_true d, Bool.not_true, cond_false, qPE d, Option.bind_some, Bool.true_and]
  simp only [qgK, decide_eq_true_eq, qfO, quD, cmpB]
  all_goals ((repeat' split) <;> simp_all)
 · rw [decide_eq_false d, Bool.not_false, cond_true, Bool.false_and]
theorem qlL (q : Query) (r : Row) (hq : qcG q.Where) (h : Row_b r) : qSC.f q r = some (matchesB q r) := by
 have hl : q.Where.length ≤ 9223372036854775807 := hq
 unfold qSC.f
 refine (qGD (f := qSC.l0 q r) (l := q.Where) (fun _ c => holdsB c r) (some false) (some true) (fun k i x hx => ?_) (fun k i hi => ?_) _ 0 (by omega) (by (try simp only [qG]); omega)).trans ?_
 ·
  have hi := at_lt hx
  rw [qSC.l0, qG, decide_eq_true (by omega), cond_true, qg, hx, Option.bind_some, qkL _ _ h, Option.bind_some, qzB, qw (by omega)]
  cases holdsB x r <;> rfl
 · rw [qSC.l0, qG, decide_eq_false (by omega), cond_false]
 ·
  rw [qYD, matchesB]
  cases q.Where.all fun c => holdsB c r <;> rfl
theorem qrO (q : Query) (a b : Row) (ha : Row_b a) (hb : Row_b b) : qwG.f q a b = some (aheadB q a b) := by
 unfold qwG.f aheadB
 rw [qdG _ _ ha, qdG _ _ hb]
 simp only [Option.bind_some, qgK, decide_eq_true_eq, qfO, qzB, qJU, ne_eq, ite_not]
 all_goals (
  generalize cellF a (w64 (q.Order - 1)) = x
  generalize cellF b (w64 (q.Order - 1)) = y
  by_cases h0 : q.Order = 0
  · simp [h0]
  ·
   by_cases h1 : x = y
   · simp [h0, h1]
   ·
    cases hd : q.Down with
    | true =>
     simp only [h0, h1, if_false, if_true, Option.some.injEq, decide_eq_true_eq]
     by_cases h2 : x < y
     · simp [h2]; try omega
     · simp [h2]; try omega
    | false =>
     simp only [h0, h1, if_false, Option.some.injEq, decide_eq_true_eq]
     by_cases h2 : x < y
     · simp [h2]; try omega
     · simp [h2]; try omega)
theorem qaU {r : Row} {B : Int} (h : qKC r ≤ B) : (r.Cells.length : Int) ≤ B := by unfold qKC qAD at h; exact h
theorem qVI (r : Row) (h : qKC r ≤ 1099511627776) : qZE.f r = some r := by
 have := qaU h
 unfold qZE.f
 rw [qiC (by simp only [List.length_nil]; omega), Option.bind_some, List.nil_append]
def rowAtF : List Row → Int → Int → Int
 | [], _, _ => -1
 | r :: l, id, i => if r.Id = id then i else rowAtF l id (i + 1)
def isId (id : Int) (r : Row) : Bool := decide (r.Id = id)
def isGt (id : Int) (r : Row) : Bool := decide (id < r.Id)
def idxI (p : Row → Bool) (l : List Row) : Int := if l.findIdx p < l.length then (l.findIdx p : Int) else -1
def rowDropF (l : List Row) (id : Int) : List Row := l.eraseIdx (l.findIdx (isId id))
def rowPutF (l : List Row) (r : Row) : List Row := if l.findIdx (isId r.Id) < l.length then l.set (l.findIdx (isId r.Id)) r else l.take (l.findIdx (isGt r.Id)) ++ [r] ++ l.drop (l.findIdx (isGt r.Id))
theorem sum_append {α : Type} (s : α → Int) (a b : List α) : ((a ++ b).map s).sum = (a.map s).sum + (b.map s).sum := by rw [List.map_append, List.sum_append]
theorem qsO {α : Type} (s : α → Int) (l : List α) (k : Nat) : (l.map s).sum = ((l.take k).map s).sum + ((l.drop k).map s).sum := by rw [← sum_append, List.take_append_drop]
theorem qEW {α : Type} {s : α → Int} {B : Int} : ∀ {l : List α}, (∀ x ∈ l, s x ≤ B) → (l.map s).sum ≤ l.length * B
 | [], _ => by simp
 | x :: l, h => by
  have h1 := h x (List.mem_cons_self ..)
  have h2 := qEW (l := l) fun y hy => h y (List.mem_cons_of_mem _ hy)
  simp only [List.map_cons, List.sum_cons, List.length_cons]
  rw [show ((l.length + 1 : Nat) : Int) * B = l.length * B + B by rw [Int.natCast_add, Int.add_mul]; simp]
  omega
theorem qtO {α : Type} (p : α → Bool) (l : List α) {i : Nat} {x : α} (hx : l[i]? = some x) (hn : ¬ (l.take i).findIdx p < i) : (p x = true → l.findIdx p = i) ∧ (p x = false → ¬ (l.take (i + 1)).findIdx p < i + 1) := by
 have hi := at_lt hx
 have hl : (l.take i).length = i := by rw [List.length_take]; omega
 constructor
 ·
  intro hp
  have e : l = l.take i ++ x :: l.drop (i + 1) := by
   conv => lhs; rw [← List.take_append_drop i l, List.drop_eq_getElem_cons hi]
   rw [List.getElem?_eq_getElem hi] at hx
   rw [Option.some.inj hx]
  rw [e, List.findIdx_append, hl, if_neg hn, List.findIdx_cons, hp]
  simp
 ·
  intro hp
  rw [qME hx, List.findIdx_append, hl, if_neg hn, List.findIdx_cons, hp]
  simp
  omega
def putF (q : Query) (l : List Row) (r : Row) : List Row := l.take (l.findIdx (aheadB q r)) ++ [r] ++ l.drop (l.findIdx (aheadB q r))
theorem qYR (q : Query) (l : List Row) (r : Row) : (putF q l r).length = l.length + 1 := by
 have hle := List.findIdx_le_length (xs := l) (p := aheadB q r)
 simp [putF]; omega
theorem qUX (q : Query) (l : List Row) (r : Row) : qrB (putF q l r) = qrB l + 1 + qKC r := by
 have h1 := qYR q l r
 unfold qrB
 have h2 : ((putF q l r).map qKC).sum = (l.map qKC).sum + qKC r := by
  unfold putF
  rw [sum_append, sum_append, qsO qKC l (l.findIdx (aheadB q r))]
  simp
  omega
 omega
theorem qbU {q : Query} {l : List Row} {r x : Row} (h : x ∈ putF q l r) : x = r ∨ x ∈ l := by
 unfold putF at h
 rcases List.mem_append.1 h with h | h
 ·
  rcases List.mem_append.1 h with h | h
  · exact .inr (List.mem_of_mem_take h)
  · exact .inl (List.mem_singleton.1 h)
 · exact .inr (List.mem_of_mem_drop h)
theorem quO (q : Query) (l : List Row) (r : Row) (K : List Row → Bool → Int → Option (List Row)) : ∀ (k i : Nat) (acc : List Row), i ≤ l.length → l.length < i + k → (acc.length : Int) + (l.length - i : Nat) ≤ 1099511627777 → (l.length : Int) ≤ 1099511627776 →
  qHC.l0 q l r K k acc true i = K (acc ++ l.drop i) true l.length := by
 intro k
 induction k with
 | zero => intro i acc h h'; omega
 | succ k ih =>
  intro i acc h h' hz hl
  by_cases hi : i < l.length
  ·
   have hx : l[i]? = some l[i] := List.getElem?_eq_getElem hi
   rw [qHC.l0, qG, decide_eq_true (by omega), cond_true, bo3_T, qmE, Option.bind_some, qmE, Option.bind_some, bo3_F, cond_false, qg, hx, Option.bind_some, ltO, if_pos (by omega), Option.bind_some, Option.bind_some, qiC (by simp only [List.length_cons, List.length_nil]; omega), Option.bind_some, qw (by omega), ih (i + 1) _ (by omega) (by omega) (by simp only [List.length_append, List.length_cons, List.length_nil]; omega) hl, List.drop_eq_getElem_cons hi]
   simp
  ·
   obtain rfl : i = l.length := by omega
   rw [qHC.l0, qG, decide_eq_false (by omega), cond_false, List.drop_eq_nil_of_le (by omega), List.append_nil]
theorem qvO (q : Query) (l : List Row) (r : Row) (hl : (l.length : Int) ≤ 1099511627776) (hb : ∀ x ∈ l, Row_b x) (hr : Row_b r) (hz : qKC r ≤ 1099511627776) : ∀ (k i : Nat), i ≤ l.length → l.length < i + k → ¬ (l.take i).findIdx (aheadB q r) < i →
  qHC.l0 q l r (fun y1 y2 y3 => bif (bo3 y2 false true) then (qZE.f r).bind fun r48 => (some [r48]).bind fun l49 => (appO 32 y1 l49).bind fun l50 => some l50 else some y1) k (l.take i) false i = some (putF q l r) := by
 intro k
 induction k with
 | zero => intro i h h'; omega
 | succ k ih =>
  intro i h h' hn
  by_cases hi : i < l.length
  ·
   have hx : l[i]? = some l[i] := List.getElem?_eq_getElem hi
   have ht : (l.take i).length = i := by rw [List.length_take]; omega
   obtain ⟨f1, f2⟩ := qtO (aheadB q r) l hx hn
   rw [qHC.l0, qG, decide_eq_true (by omega), cond_true, bo3_F, qdC, qg, hx, Option.bind_some, qdC, qrO q r _ hr (hb _ (List.getElem_mem hi)), Option.bind_some, bo3_T, qw (by omega)]
   cases hp : aheadB q r l[i] with
   | false =>
    rw [cond_false, Option.bind_some, ltO, if_pos (by omega), Option.bind_some, Option.bind_some, qiC (by simp only [ht, List.length_cons, List.length_nil]; omega), Option.bind_some, ← qME hx]
    exact ih (i + 1) (by omega) (by omega) (f2 hp)
   | true =>
    rw [cond_true, qVI _ hz, Option.bind_some, Option.bind_some, qiC (by simp only [ht, List.length_cons, List.length_nil]; omega), Option.bind_some, Option.bind_some, ltO, if_pos (by omega), Option.bind_some, Option.bind_some, qiC (by simp only [List.length_append, ht, List.length_cons, List.length_nil]; omega), Option.bind_some, quO q l r _ k (i + 1) _ (by omega) (by omega) (by simp only [List.length_append, ht, List.length_cons, List.length_nil]; omega) hl, bo3_T, cond_false]
    unfold putF
    rw [f1 hp, List.drop_eq_getElem_cons hi]
    simp
  ·
   rw [List.take_of_length_le (by omega)] at hn ⊢
   have hle := List.findIdx_le_length (xs := l) (p := aheadB q r)
   have e : l.findIdx (aheadB q r) = l.length := by omega
   rw [qHC.l0, qG, decide_eq_false (by omega), cond_false, bo3_F, cond_true, qVI _ hz, Option.bind_some, Option.bind_some, qiC (by simp only [List.length_cons, List.length_nil]; omega), Option.bind_some]
   unfold putF
   rw [e, List.take_length, List.drop_length, List.append_nil]
theorem qzM (q : Query) (l : List Row) (r : Row) (hl : (l.length : Int) ≤ 1099511627776) (hb : ∀ x ∈ l, Row_b x) (hr : Row_b r) (hz : qKC r ≤ 1099511627776) : qHC.f q l r = some (putF q l r) := by
 unfold qHC.f
 simp only [joinK]
 have := qvO q l r hl hb hr hz (((lenI l) - 0).toNat + 1) 0 (by omega) (by rw [qG]; omega) (by omega)
 rw [List.take_zero] at this
 exact this
def noStore : Store := ⟨⟨[]⟩, 0, []⟩
def tableB (s : Schema) (t : Int) : Bool := decide (0 ≤ t ∧ t ≤ (s.Cols.length : Int) - 1)
def tableOf (s : Store) (t : Int) : List Row := s.Tables.getD t.toNat []
def setTable (s : Store) (t : Int) (rows : List Row) : Store := ⟨s.Schema, s.Version, s.Tables.set t.toNat rows⟩
theorem qbJ {s : Store} (hs : storeB s = true) {t : Nat} (ht : t < s.Tables.length) : rowsB s.Schema t (tableOf s t) = true := by
 unfold tableOf
 rw [Int.toNat_natCast, List.getD_eq_getElem?_getD, List.getElem?_eq_getElem ht, Option.getD_some]
 exact qhI hs (List.getElem?_eq_getElem ht)
def rowsFold (q : Query) (rows : List Row) (acc : List Row) : List Row := rows.foldl (fun acc r => if matchesB q r = true then putF q acc r else acc) acc
def rowsForF (s : Store) (q : Query) : List Row := if (storeB s && queryB s.Schema q) = true then rowsFold q (tableOf s q.Table) [] else []
theorem qJK {q : Query} : ∀ {rows acc : List Row} {x : Row}, x ∈ rowsFold q rows acc → x ∈ rows ∨ x ∈ acc
 | [], acc, x, h => .inr h
 | r :: rows, acc, x, h => by
  have h : x ∈ rowsFold q rows (if matchesB q r = true then putF q acc r else acc) := h
  rcases qJK h with h | h
  · exact .inl (List.mem_cons_of_mem _ h)
  ·
   split at h
   ·
    rcases qbU h with rfl | h
    · exact .inl (List.mem_cons_self ..)
    · exact .inr h
   · exact .inr h
theorem qKK {q : Query} : ∀ (rows acc : List Row), (rowsFold q rows acc).length ≤ rows.length + acc.length
 | [], acc => by simp [rowsFold]
 | r :: rows, acc => by
  have e : rowsFold q (r :: rows) acc = rowsFold q rows (if matchesB q r = true then putF q acc r else acc) := rfl
  have := qKK (q := q) rows (if matchesB q r = true then putF q acc r else acc)
  rw [e]
  simp only [List.length_cons]
  split at this
  · rename_i h; rw [qYR] at this; rw [if_pos h]; omega
  · rename_i h; rw [if_neg h]; omega
theorem qmL {q : Query} : ∀ (rows acc : List Row), qrB (rowsFold q rows acc) ≤ qrB rows + qrB acc
 | [], acc => by have := quE ([] : List Row); simp only [rowsFold, List.foldl_nil]; omega
 | r :: rows, acc => by
  have e : rowsFold q (r :: rows) acc = rowsFold q rows (if matchesB q r = true then putF q acc r else acc) := rfl
  have := qmL (q := q) rows (if matchesB q r = true then putF q acc r else acc)
  have h1 : qrB (r :: rows) = qrB rows + 1 + qKC r := by unfold qrB; simp only [List.length_cons, List.map_cons, List.sum_cons]; omega
  have h0 := qTG r
  rw [e, h1]
  split at this
  · rename_i h; rw [qUX] at this; rw [if_pos h]; omega
  · rename_i h; rw [if_neg h]; omega
theorem qiI {s : Schema} {q : Query} (h : queryB s q = true) : 0 ≤ q.Table ∧ q.Table ≤ (s.Cols.length : Int) - 1 := by
 unfold queryB at h
 simp only [Bool.and_eq_true, decide_eq_true_eq] at h
 exact h.1.2
theorem qwO {s : Schema} {t : Int} {r : Row} (h : rowB s t r = true) : qKC r ≤ 4 := by
 have hc := qjL h
 unfold rowB at h
 simp only [Bool.and_eq_true, decide_eq_true_eq] at h
 obtain ⟨⟨⟨⟨hs, ht⟩, _⟩, _⟩, _⟩ := h
 unfold schemaB at hs
 rw [Bool.and_eq_true, List.all_eq_true] at hs
 have hlt : t.toNat < s.Cols.length := by omega
 have := of_decide_eq_true (hs.1 _ (List.getElem_mem hlt))
 rw [List.getD_eq_getElem?_getD, List.getElem?_eq_getElem hlt, Option.getD_some] at hc
 unfold qKC qAD
 omega
theorem qgV {s : Schema} {t : Int} {rows : List Row} (h : rowsB s t rows = true) : qrB rows ≤ 120 := by
 have hl := qKI h
 have := qEW (s := qKC) (B := 4) (l := rows) fun x hx => by
  obtain ⟨i, hi⟩ := List.getElem?_of_mem hx
  exact qwO (qJI h hi)
 unfold qrB
 omega
theorem qGJ (s : Store) (q : Query) : (rowsForF s q).length ≤ 24 ∧ qrB (rowsForF s q) ≤ 120 ∧ ∀ x ∈ rowsForF s q, Row_b x := by
 unfold rowsForF
 split
 ·
  rename_i h
  rw [Bool.and_eq_true] at h
  obtain ⟨t1, t2⟩ := qiI h.2
  have hl := (quH h.1).1
  have hrows := qbJ h.1 (t := q.Table.toNat) (by omega)
  rw [Int.toNat_of_nonneg t1] at hrows
  have hlen := qKI hrows
  have hz := qgV hrows
  have z0 : qrB ([] : List Row) = 0 := by simp [qrB]
  have s1 := qKK (q := q) (tableOf s q.Table) []
  have s2 := qmL (q := q) (tableOf s q.Table) []
  refine ⟨by simp only [List.length_nil] at s1; omega, by omega, fun x hx => ?_⟩
  rcases qJK hx with hx | hx
  ·
   obtain ⟨i, hi⟩ := List.getElem?_of_mem hx
   have z := qwO (qJI hrows hi)
   unfold Row_b qqH; unfold qKC qAD at z; omega
  · simp at hx
 · simp [qrB]
theorem qnL (q : Query) (hq : qcG q.Where) (rows : List Row) (hl : rows.length ≤ 24) (hr : ∀ r ∈ rows, Row_b r ∧ qKC r ≤ 4) : ∀ (k i : Nat) (acc : List Row), i ≤ rows.length → rows.length < i + k → acc.length ≤ i → (∀ x ∈ acc, Row_b x) → qTC.l0 q rows k acc i = some (rowsFold q (rows.drop i) acc) := by
 intro k
 induction k with
 | zero => intro i acc h h'; omega
 | succ k ih =>
  intro i acc h h' ha hb
  rw [qTC.l0, qG]
  by_cases hi : i < rows.length
  ·
   obtain ⟨b1, z1⟩ := hr _ (List.getElem_mem hi)
   rw [decide_eq_true (by omega), cond_true, qg, List.getElem?_eq_getElem hi, Option.bind_some, qhK (qlL q _ hq b1), List.drop_eq_getElem_cons hi, qw (by omega)]
   show _ = some (rowsFold q (rows.drop (i + 1)) (if matchesB q rows[i] = true then putF q acc rows[i] else acc))
   cases hm : matchesB q rows[i] with
   | true =>
    rw [cond_true, qhK (qzM q acc _ (by omega) hb b1 (by omega)), if_pos rfl]
    exact ih (i + 1) _ (by omega) (by omega) (by rw [qYR]; omega) fun x hx => by
     rcases qbU hx with rfl | hx
     · exact b1
     · exact hb x hx
   | false =>
    rw [cond_false, if_neg (by simp)]
    exact ih (i + 1) _ (by omega) (by omega) (by omega) hb
  ·
   rw [decide_eq_false (by omega), cond_false, List.drop_eq_nil_of_le (by omega)]
   rfl
theorem qoL (s : Store) (q : Query) (hs : Store_b s) (hq : Query_b q) : qTC.f s q = some (rowsForF s q) := by
 unfold qTC.f rowsForF
 rw [qvF _ hs, Option.bind_some, qwF _ _ hs.1 hq]
 cases h1 : storeB s with
 | false => rfl
 | true =>
  cases h2 : queryB s.Schema q with
  | false => rfl
  | true =>
   simp only [bo3_F, bo3_T, qdC, Option.bind_some, cond_false, Bool.true_and, if_true]
   obtain ⟨t1, t2⟩ := qiI h2
   have hl := (quH h1).1
   have ht : q.Table.toNat < s.Tables.length := by omega
   have hrows := qbJ h1 ht
   have hlen := qKI hrows
   rw [show getO s.Tables q.Table = some (tableOf s q.Table) from qPL (by omega), Option.bind_some]
   rw [Int.toNat_of_nonneg t1] at hrows hlen
   have := qnL q hq.1 (tableOf s q.Table) hlen (fun r hr => by
    obtain ⟨i, hi⟩ := List.getElem?_of_mem hr
    have z := qwO (qJI hrows hi)
    exact ⟨by unfold Row_b qqH; unfold qKC qAD at z; omega, z⟩) (((lenI (tableOf s q.Table)) - 0).toNat + 1) 0 [] (by omega) (by rw [qG]; omega) (by simp) (by simp)
   exact this
def countC (col : Nat) (id : Int) : List Row → Int → Int
 | [], n => n
 | r :: l, n => countC col id l (if r.Cells.getD col 0 = id then n + 1 else n)
def kidsOfF (s : Store) (q : Query) (id : Int) : Int :=
 if (storeB s && queryB s.Schema q && q.Kids) = true then countC q.KidCol.toNat id (s.Tables.getD q.KidTable.toNat []) 0 else 0
theorem qxN {s : Schema} {q : Query} (h : queryB s q = true) (hk : q.Kids = true) : (0 ≤ q.KidTable ∧ q.KidTable ≤ (s.Cols.length : Int) - 1) ∧ (0 ≤ q.KidCol ∧ q.KidCol ≤ w64 (s.Cols.getD q.KidTable.toNat 0 - 1)) := by
 unfold queryB kidsB at h
 simp only [Bool.and_eq_true, decide_eq_true_eq, hk, if_true] at h
 exact h.2.2.2
theorem qyN {s : Schema} (h : schemaB s = true) {i : Int} (hi : 0 ≤ i ∧ i ≤ (s.Cols.length : Int) - 1) : 1 ≤ s.Cols.getD i.toNat 0 ∧ s.Cols.getD i.toNat 0 ≤ 4 := by
 unfold schemaB at h
 rw [Bool.and_eq_true, List.all_eq_true] at h
 have hl : i.toNat < s.Cols.length := by omega
 rw [List.getD_eq_getElem?_getD, List.getElem?_eq_getElem hl]
 exact of_decide_eq_true (h.1 _ (List.getElem_mem hl))
theorem qAN (s : Store) (q : Query) (id : Int) (hs : Store_b s) (hq : Query_b q) : qeC.f s q id = some (kidsOfF s q id) := by
 unfold qeC.f kidsOfF
 rw [qvF _ hs, Option.bind_some, qwF _ _ hs.1 hq]
 cases h1 : storeB s with
 | false => rfl
 | true =>
  cases h2 : queryB s.Schema q with
  | false => rfl
  | true =>
   cases h3 : q.Kids with
   | false => rfl
   | true =>
    simp only [bo3_F, bo3_T, qdC, Option.bind_some, cond_false, Bool.true_and, if_true]
    obtain ⟨hk1, hk2⟩ := qxN h2 h3
    obtain ⟨hl1, hl2⟩ := quH h1
    have hcol := qyN hl2 hk1
    rw [qJB (by omega)] at hk2
    rw [show getO s.Tables q.KidTable = some (s.Tables.getD q.KidTable.toNat []) from qPL (by omega), Option.bind_some]
    have hat : s.Tables[q.KidTable.toNat]? = some (s.Tables.getD q.KidTable.toNat []) := by
     rw [List.getD_eq_getElem?_getD, List.getElem?_eq_getElem (by omega)]; rfl
    have hrows := qhI h1 hat
    have hlen := qKI hrows
    generalize s.Tables.getD q.KidTable.toNat [] = rows at *
    have key2 : ∀ (k i : Nat) (n : Int), i ≤ rows.length → rows.length < i + k → 0 ≤ n → n ≤ i → qeC.l0 q id rows k n i = some (countC q.KidCol.toNat id (rows.drop i) n) := by
     intro k
     induction k with
     | zero => intro i n h h'; omega
     | succ k ih =>
      intro i n h h' hn hni
      by_cases hi : i < rows.length
      ·
       have hx : rows[i]? = some rows[i] := List.getElem?_eq_getElem hi
       have hc := qjL (qJI hrows hx)
       rw [show ((q.KidTable.toNat : Nat) : Int) = q.KidTable from by omega] at hc
       rw [qeC.l0, qG, decide_eq_true (by omega), cond_true, qg, hx, Option.bind_some, qPE (by omega), Option.bind_some, List.drop_eq_getElem_cons hi, countC, qw (by omega)]
       by_cases e : (rows[i]).Cells.getD q.KidCol.toNat 0 = id
       ·
        rw [decide_eq_true e, cond_true, if_pos e, qJB (by omega)]
        exact ih (i + 1) (n + 1) (by omega) (by omega) (by omega) (by omega)
       ·
        rw [decide_eq_false e, cond_false, if_neg e]
        exact ih (i + 1) n (by omega) (by omega) hn (by omega)
      · rw [qeC.l0, qG, decide_eq_false (by omega), cond_false, List.drop_eq_nil_of_le (by omega), countC]
    have := key2 (((lenI rows) - 0).toNat + 1) 0 0 (by omega) (by simp only [qG]; omega) (by omega) (by omega)
    rw [List.drop_zero] at this
    exact this
def evalF (s : Store) (q : Query) : Json := if storeB s && queryB s.Schema q then docOfF q (rowsForF s q) ((rowsForF s q).map fun r => kidsOfF s q r.Id) else nullJ
theorem qxO {R α : Type} {f : Nat → List Int → Int → Option R} {l : List α} (g : α → Int) (K : List Int → Option R) (h0 : ∀ k (i : Nat) acc x, l[i]? = some x → acc.length ≤ i → f (k + 1) acc i = f k (acc ++ [g x]) ((i + 1 : Nat) : Int)) (h1 : ∀ k (i : Nat) acc, i = l.length → f (k + 1) acc i = K acc) :
  ∀ (k i : Nat) (acc : List Int), i ≤ l.length → l.length < i + k → acc.length ≤ i → f k acc i = K (acc ++ (l.drop i).map g)
 | 0, i, acc, h, h', _ => by omega
 | k + 1, i, acc, h, h', ha => by
  by_cases hi : i < l.length
  ·
   rw [List.drop_eq_getElem_cons hi, List.map_cons, h0 k i acc _ (List.getElem?_eq_getElem hi) ha, qxO g K h0 h1 k (i + 1) _ (by omega) (by omega) (by simp only [List.length_append, List.length_cons, List.length_nil]; omega), List.append_assoc]
   rfl
  · rw [h1 k i acc (by omega), List.drop_eq_nil_of_le (by omega), List.map_nil, List.append_nil]
theorem qTQ (s : Store) (q : Query) (hs : Store_b s) (hq : Query_b q) (hc : In64 q.Show) (hl : q.Show.length ≤ 2097152) : qVD.f s q = some (evalF s q) := by
 unfold qVD.f evalF
 rw [qvF _ hs, Option.bind_some, qwF _ _ hs.1 hq]
 cases h1 : storeB s with
 | false => rfl
 | true =>
  cases h2 : queryB s.Schema q with
  | false => rfl
  | true =>
   simp only [qzB, Bool.not_true, Bool.not_false, bo3_F, bo3_T, qdC, Option.bind_some, cond_false, Bool.true_and, if_true]
   obtain ⟨g1, _, g3⟩ := qGJ s q
   rw [qoL s q hs hq, Option.bind_some, quB]
   generalize rowsForF s q = R at *
   have hD := qpO q R (R.map fun r => kidsOfF s q r.Id) hc hl g3 (by omega) (by rw [List.length_map]; omega)
   have e := qxO (f := qVD.l0 s q R (fun y => (qvC.f q R y).bind fun r => some r)) (l := R) (fun r => kidsOfF s q r.Id) (fun y => (qvC.f q R y).bind fun r => some r) (fun k i acc x hx ha => ?_) (fun k i acc hi => ?_) (((lenI R) - 0).toNat + 1) 0 [] (by omega) (by rw [qG]; omega) (by simp)
   ·
    rw [List.drop_zero, List.nil_append, hD] at e
    exact e
   ·
    have hi := at_lt hx
    rw [qVD.l0, qG, decide_eq_true (by omega), cond_true, qg, hx, Option.bind_some, qAN s q _ hs hq, Option.bind_some, Option.bind_some, qiC (by simp only [List.length_cons, List.length_nil]; omega), Option.bind_some, qw (by omega)]
   · rw [qVD.l0, qG, decide_eq_false (by omega), cond_false]
theorem qfG (a : List Int) (h : qAD a ≤ 1048576) : qNC.f a = some a := by
 unfold qNC.f
 unfold qAD at h
 rw [qG, qFS (by omega), Option.bind_some]
 refine qoH (f := qNC.l0 a) (l := a) some (fun k i s x y hx hy => ?_) (fun k s i hi => ?_) _ 0 _ (by omega) (by omega) (by rw [List.length_replicate]; omega) (by simp)
 ·
  have hi := at_lt hx
  rw [qNC.l0, qG, decide_eq_true (by omega), cond_true, qg, hx, Option.bind_some, qg, hy, Option.bind_some, Option.bind_some, qlE, qw (by omega)]
 · rw [qNC.l0, qG, decide_eq_false (by omega), cond_false]
theorem qPK (a : Schema) (h : qWD a ≤ 1048576) : qqE.f a = some a := by
 unfold qWD at h
 have p_Cols := qjD a.Cols
 unfold qqE.f
 rw [qfG _ (by omega), Option.bind_some]
theorem qyO (a : Row) (h : qKC a ≤ 1048576) : qxG.f a = some a := by
 unfold qKC at h
 have p_Cells := qjD a.Cells
 unfold qxG.f
 rw [qfG _ (by omega), Option.bind_some]
theorem qBN (a : List Row) (h : qrB a ≤ 1048576) : qnC.f a = some a := by
 unfold qnC.f
 unfold qrB at h
 have p := qID qTG a
 rw [qG, qFS (by omega), Option.bind_some]
 refine qoH (f := qnC.l0 a) (l := a) some (fun k i s x y hx hy => ?_) (fun k s i hi => ?_) _ 0 _ (by omega) (by omega) (by rw [List.length_replicate]; omega) (by simp)
 ·
  have hi := at_lt hx
  rw [qnC.l0, qG, decide_eq_true (by omega), cond_true, qg, hx, Option.bind_some, qyO x (by have := qeO qTG (List.mem_of_getElem? hx); omega), Option.bind_some, qg, hy, Option.bind_some, Option.bind_some, qlE, qw (by omega)]
 · rw [qnC.l0, qG, decide_eq_false (by omega), cond_false]
theorem qpL (a : List (List Row)) (h : qFE a ≤ 1048576) : qUC.f a = some a := by
 unfold qUC.f
 unfold qFE at h
 have p := qID quE a
 rw [qG, qFS (by omega), Option.bind_some]
 refine qoH (f := qUC.l0 a) (l := a) some (fun k i s x y hx hy => ?_) (fun k s i hi => ?_) _ 0 _ (by omega) (by omega) (by rw [List.length_replicate]; omega) (by simp)
 ·
  have hi := at_lt hx
  rw [qUC.l0, qG, decide_eq_true (by omega), cond_true, qg, hx, Option.bind_some, qBN x (by have := qeO quE (List.mem_of_getElem? hx); omega), Option.bind_some, qg, hy, Option.bind_some, Option.bind_some, qlE, qw (by omega)]
 · rw [qUC.l0, qG, decide_eq_false (by omega), cond_false]
theorem qqL (a : Store) (h : qGE a ≤ 1048576) : qZD.f a = some a := by
 unfold qGE at h
 have p_Schema := qSH a.Schema
 have p_Tables := qGI a.Tables
 unfold qZD.f
 rw [qPK _ (by omega), Option.bind_some]
 rw [qpL _ (by omega), Option.bind_some]
theorem qCN (a : Cond) : qRH.f a = some a := rfl
theorem qrL (a : List Cond) (h : qrD a ≤ 1048576) : qVC.f a = some a := by
 unfold qVC.f
 unfold qrD at h
 rw [qG, qFS (by omega), Option.bind_some]
 refine qoH (f := qVC.l0 a) (l := a) some (fun k i s x y hx hy => ?_) (fun k s i hi => ?_) _ 0 _ (by omega) (by omega) (by rw [List.length_replicate]; omega) (by simp)
 ·
  have hi := at_lt hx
  rw [qVC.l0, qG, decide_eq_true (by omega), cond_true, qg, hx, Option.bind_some, qCN x, Option.bind_some, qg, hy, Option.bind_some, Option.bind_some, qlE, qw (by omega)]
 · rw [qVC.l0, qG, decide_eq_false (by omega), cond_false]
theorem qsL (a : Query) (h : qHE a ≤ 1048576) : qaD.f a = some a := by
 unfold qHE at h
 have p_Where := qCH a.Where
 have p_Show := qjD a.Show
 unfold qaD.f
 rw [qrL _ (by omega), Option.bind_some]
 rw [qfG _ (by omega), Option.bind_some]
theorem qUQ (l : List Json) (hn : l.length ≤ 9223372036854775806) : ∀ (k i : Nat), i ≤ l.length → l.length < i + k → ∃ r : Int, qd.l0 l k i = some r ∧ (0 ≤ r ↔ ∃ x ∈ l.drop i, x.Kind = 0) := by
 intro k
 induction k with
 | zero => intro i h h'; omega
 | succ k ih =>
  intro i h h'
  rw [qd.l0, qG]
  by_cases hi : i < l.length
  ·
   rw [decide_eq_true (by omega), cond_true, qg, List.getElem?_eq_getElem hi, Option.bind_some, qSG.f, Option.bind_some, List.drop_eq_getElem_cons hi, qw (by omega)]
   by_cases c : l[i].Kind = 0
   ·
    rw [decide_eq_true c, cond_true]
    exact ⟨i, rfl, ⟨fun _ => ⟨l[i], List.mem_cons_self .., c⟩, fun _ => by omega⟩⟩
   ·
    rw [decide_eq_false c, cond_false]
    obtain ⟨r, h1, h2⟩ := ih (i + 1) (by omega) (by omega)
    refine ⟨r, h1, h2.trans ⟨fun ⟨x, hx, e⟩ => ⟨x, List.mem_cons_of_mem _ hx, e⟩, fun ⟨x, hx, e⟩ => ?_⟩⟩
    rcases List.mem_cons.1 hx with rfl | hx
    · exact absurd e c
    · exact ⟨x, hx, e⟩
  ·
   rw [decide_eq_false (by omega), cond_false, List.drop_eq_nil_of_le (by omega)]
   exact ⟨-1, rfl, by simp⟩
theorem qtL (l : List Json) (hn : l.length ≤ 9223372036854775806) : ∃ b, qNB.f l = some b ∧ (b = true ↔ ∃ x ∈ l, x.Kind = 0) := by
 unfold qNB.f qd.f
 obtain ⟨r, h1, h2⟩ := qUQ l hn (((lenI l) - 0).toNat + 1) 0 (by omega) (by rw [qG]; omega)
 refine ⟨decide (0 ≤ r), ?_, by rw [decide_eq_true_eq, h2, List.drop_zero]⟩
 refine (congrArg (fun o => Option.bind o _) h1).trans ?_
 rfl
theorem qzO (q : Query) (rows : List Row) (kids : List Int) (hc : In64 q.Show) (hl : q.Show.length ≤ 2097152) (hr : ∀ r ∈ rows, Row_b r) (hn : rows.length ≤ 2097152) (hk : (kids.length : Int) ≤ 9223372036854775807) : qCF.f q rows kids = some (docOfF q rows kids) := by
 unfold qCF.f docOfF
 have hf := qDJ q rows.length
 rw [qiL q rows kids hc hl hr hn hk, Option.bind_some]
 generalize hD : docsF q kids (rows.take (firstF q rows.length)) 0 = D
 have hDl : D.length ≤ 2097152 := by rw [← hD, qtH, List.length_take]; omega
 obtain ⟨b, h1, h2⟩ := qtL (D.map orJ) (by rw [List.length_map]; omega)
 rw [h1, Option.bind_some]
 by_cases hb : ∀ x ∈ D, jsonB x = true
 ·
  have e : D.map orJ = D := (List.map_congr_left (g := id) fun x hx => by unfold orJ; rw [if_pos (hb x hx)]; rfl).trans (List.map_id D)
  have hbf : b = false := by
   rw [← Bool.not_eq_true, h2]
   rintro ⟨x, hx, k0⟩
   rw [e, ← hD] at hx
   obtain ⟨r, n, rfl⟩ := qEJ hx
   simp [rowObj, objJ] at k0
  rw [hbf, cond_false, Option.bind_some, Option.bind_some, qG, e]
  have := qTI (docObj q rows kids) (qRS hc hl hn)
  unfold docObj at this ⊢
  rw [hD] at this ⊢
  refine (congrArg (fun o => Option.bind o _) this).trans ?_
  rfl
 ·
  have : ∃ x ∈ D, jsonB x = false := by
   apply Classical.byContradiction
   intro h
   exact hb fun x hx => by
    cases c : jsonB x with
    | true => rfl
    | false => exact absurd ⟨x, hx, c⟩ h
  obtain ⟨x, hx, hxb⟩ := this
  have hbt : b = true := h2.2 ⟨orJ x, List.mem_map.2 ⟨x, hx, rfl⟩, by unfold orJ; rw [hxb, if_neg (by simp)]; rfl⟩
  rw [hbt, cond_true]
  rw [← hD] at hx
  have := qvS hc hl (rows := rows) hx hxb
  unfold orJ
  rw [this, if_neg (by simp)]
  rfl
theorem qSE (s : Schema) (h : qqD s) : qqB.f s = some (schemaB s) := by
 have hl : s.Cols.length ≤ 9223372036854775807 := h
 unfold qqB.f joinK
 refine (qGD (f := qqB.l0 s _) (l := s.Cols) (fun _ n => decide (1 ≤ n ∧ n ≤ 4)) (some false) (some (decide (1 ≤ (s.Cols.length : Int) ∧ (s.Cols.length : Int) ≤ 3))) (fun k i x hx => ?_) (fun k i hi => ?_) _ 0 (by omega) (by (try simp only [qG]); omega)).trans ?_
 ·
  have hi := at_lt hx
  rw [qqB.l0, qG, decide_eq_true (by omega), cond_true, qg, hx, Option.bind_some, qfB, Option.bind_some, qzB, qw (by omega)]
  cases decide (1 ≤ x ∧ x ≤ 4) <;> rfl
 · rw [qqB.l0, qG, decide_eq_false (by omega), cond_false, qfB, Option.bind_some]
 ·
  rw [qYD, schemaB]
  cases s.Cols.all fun n => decide (1 ≤ n ∧ n ≤ 4) <;> rfl
theorem qcJ (v : Int) : qnD.f v = some (decide (0 ≤ v ∧ v ≤ 100000)) := by
 unfold qnD.f
 rw [qfB, Option.bind_some]
theorem qkD (s : Schema) (t : Int) (h : qqD s) : qMD.f s t = some (decide (0 ≤ t ∧ t ≤ (s.Cols.length : Int) - 1)) := by
 have hl : s.Cols.length ≤ 9223372036854775807 := h
 unfold qMD.f
 rw [qG, qJB (by omega), qfB, Option.bind_some]
theorem qAP (s : Schema) (t : Int) (r : Row) (hs : qqD s) (hr : Row_b r) : qKD.f s t r = some (rowB s t r) := by
 have hrl : r.Cells.length ≤ 9223372036854775807 := hr
 unfold qKD.f rowB
 simp only [joinK]
 refine (qGD (f := qKD.l0 r _) (l := r.Cells) (fun _ n => decide (-1000000000 ≤ n ∧ n ≤ 1000000000)) (some false) (some (schemaB s && decide (0 ≤ t ∧ t ≤ (s.Cols.length : Int) - 1) && decide (1 ≤ r.Id ∧ r.Id ≤ 999) && decide ((r.Cells.length : Int) = s.Cols.getD t.toNat 0))) (fun k i x hx => ?_) (fun k i hi => ?_) _ 0 (by omega) (by (try simp only [qG]); omega)).trans ?_
 ·
  have hi := at_lt hx
  rw [qKD.l0, qG, decide_eq_true (by omega), cond_true, qg, hx, Option.bind_some, qUH, Option.bind_some, qzB, qw (by omega)]
  cases decide (-1000000000 ≤ x ∧ x ≤ 1000000000) <;> rfl
 ·
  rw [qKD.l0, qG, decide_eq_false (by omega), cond_false, qSE _ hs, Option.bind_some, qkD _ _ hs, qfB]
  cases schemaB s with
  | false => rfl
  | true =>
   by_cases d : 0 ≤ t ∧ t ≤ (s.Cols.length : Int) - 1
   case neg => rw [decide_eq_false d]; rfl
   rw [decide_eq_true d, qPE d]
   simp only [bo3_F, bo3_T, qdC, Option.bind_some, Bool.true_and, gd_of, cond_true]
   by_cases d3 : (r.Cells.length : Int) = s.Cols.getD t.toNat 0
   · simp [d3, bo3]
   · simp [d3, bo3]; exact Bool.and_comm _ _
 ·
  rw [qYD]
  cases r.Cells.all fun n => decide (-1000000000 ≤ n ∧ n ≤ 1000000000) <;> simp
theorem qDN (s : Schema) (t : Int) (rows : List Row) (hs : qqD s) (hr : RowS_b rows) : qpC.f s t rows = some (rowsB s t rows) := by
 have hl : s.Cols.length ≤ 9223372036854775807 := hs
 obtain ⟨hrl, hr2⟩ := hr
 unfold qpC.f rowsB
 simp only [joinK]
 refine (qGD (f := qpC.l0 s t rows _) (l := rows) (fun i r => rowB s t r && !(decide (0 < i) && decide (r.Id ≤ (rows.getD (i - 1) default).Id))) (some false) (some (schemaB s && decide (0 ≤ t ∧ t ≤ (s.Cols.length : Int) - 1) && decide (rows.length ≤ 24))) (fun k i x hx => ?_) (fun k i hi => ?_) _ 0 (by omega) (by (try simp only [qG]); omega)).trans ?_
 ·
  have hi := at_lt hx
  rw [qpC.l0, qG, decide_eq_true (by omega), cond_true, qg, hx, Option.bind_some, qAP _ _ _ hs (hr2 x (List.mem_of_getElem? hx)), Option.bind_some, qJQ hx (by omega), Option.bind_some, qw (by omega)]
  rw [show decide (0 < (i : Int)) = decide (0 < i) from by simp]
  cases rowB s t x <;> cases decide (0 < i) <;> (try rfl)
  simp only [bo3_F, bo3_T, Bool.true_and, cond_true]
  by_cases e : x.Id ≤ (rows.getD (i - 1) default).Id
  · simp [e]
  · simp [e]
 ·
  rw [qpC.l0, qG, decide_eq_false (by omega), cond_false, qSE _ hs, Option.bind_some]
  first | rw [qkD _ _ hs] | rw [qG s.Cols, qJB (by omega), qaB]
  have e24 : decide ((rows.length : Int) ≤ 24) = decide (rows.length ≤ 24) := by rw [decide_eq_decide]; omega
  simp only [qG, e24]
  generalize decide (0 ≤ t ∧ t ≤ (s.Cols.length : Int) - 1) = b1
  generalize decide (rows.length ≤ 24) = b2
  cases schemaB s <;> cases b1 <;> cases b2 <;> rfl
 · cases allFrom (fun i r => rowB s t r && !(decide (0 < i) && decide (r.Id ≤ (rows.getD (i - 1) default).Id))) rows 0 <;> rfl
theorem qVQ (v : Int) : qnD.f v = some (decide (0 ≤ v ∧ v ≤ 100000)) := qcJ v
theorem qxF (s : Store) (hb : Store_b s) : qJC.f s = some (storeB s) := by
 obtain ⟨hs, ht, ht2⟩ := hb
 have hl : s.Schema.Cols.length ≤ 9223372036854775807 := hs
 unfold qJC.f storeB
 rw [qSE _ hs, Option.bind_some, qVQ]
 cases schemaB s.Schema with
 | false => rfl
 | true =>
  by_cases d : 0 ≤ s.Version ∧ s.Version ≤ 100000
  case neg => rw [decide_eq_false d]; rfl
  rw [decide_eq_true d]
  by_cases d2 : s.Tables.length = s.Schema.Cols.length
  case neg =>
   rw [show decide (lenI s.Tables ≠ lenI s.Schema.Cols) = true from decide_eq_true (by simp only [qG]; omega), decide_eq_false d2]
   rfl
  rw [show decide (lenI s.Tables ≠ lenI s.Schema.Cols) = false from decide_eq_false (by simp only [qG]; omega), decide_eq_true d2]
  simp only [bo3_F, bo3_T, qdC, Option.bind_some, Bool.true_and, cond_false]
  refine (qGD (f := qJC.l0 s) (l := s.Tables) (fun i rows => rowsB s.Schema (i : Int) rows) (some false) (some true) (fun k i x hx => ?_) (fun k i hi => ?_) _ 0 (by omega) (by (try simp only [qG]); omega)).trans ?_
  ·
   have hi := at_lt hx
   rw [qJC.l0, qG, decide_eq_true (by omega), cond_true, qg, hx, Option.bind_some, qDN _ _ _ hs (ht2 x (List.mem_of_getElem? hx)), Option.bind_some, qzB, qw (by omega)]
   cases rowsB s.Schema i x <;> rfl
  · rw [qJC.l0, qG, decide_eq_false (by omega), cond_false]
  · cases allFrom (fun i rows => rowsB s.Schema (i : Int) rows) s.Tables 0 <;> rfl
theorem quL (s : Schema) (q : Query) (h : qqD s) : qUF.f s q = some (kidsB s q) := by
 unfold qUF.f kidsB
 rw [qzB]
 cases q.Kids with
 | false => simp [quD]
 | true =>
  rw [Bool.not_true, cond_false, qkD _ _ h, Option.bind_some, if_pos rfl]
  by_cases d : 0 ≤ q.KidTable ∧ q.KidTable ≤ (s.Cols.length : Int) - 1
  · rw [decide_eq_true d, qdC, qPE d, Option.bind_some, qdC, qfB, Option.bind_some, quD]
  ·
   rw [decide_eq_false d, qmE, Option.bind_some, qmE, Option.bind_some, quD]
   rfl
theorem qyF (s : Schema) (q : Query) (h : qqD s) (hq : Query_b q) : qZB.f s q = some (queryB s q) := by
 obtain ⟨hw, hs⟩ := hq
 have hwl : q.Where.length ≤ 9223372036854775807 := hw
 have hsl : q.Show.length ≤ 9223372036854775807 := hs
 unfold qZB.f queryB
 rw [qSE _ h, Option.bind_some]
 cases schemaB s with
 | false => rfl
 | true =>
  rw [show bo3 (bo3 true false true) false true = true from rfl, qdC, qkD _ _ h, Option.bind_some]
  by_cases d : 0 ≤ q.Table ∧ q.Table ≤ (s.Cols.length : Int) - 1
  case neg => rw [decide_eq_false d]; rfl
  rw [decide_eq_true d, show bo3 (bo3 true false true) true (bo3 true false true) = false from rfl, cond_false, qPE d, Option.bind_some]
  generalize s.Cols.getD q.Table.toNat 0 = cols
  simp only [joinK, Bool.true_and]
  refine (qGD (f := qZB.l0 q cols _) (l := q.Where) (fun _ c => condB cols c) (some false) (some (showB cols q.Show && (decide (q.Where.length ≤ 3) && decide (0 ≤ q.Order ∧ q.Order ≤ cols) && (!q.Down || decide (0 < q.Order)) && decide (0 ≤ q.First ∧ q.First ≤ 24) && kidsB s q))) (fun k i x hx => ?_) (fun k i hi => ?_) _ 0 (by omega) (by (try simp only [qG]); omega)).trans ?_
  ·
   have hi := at_lt hx
   rw [qZB.l0, qG, decide_eq_true (by omega), cond_true, qg, hx, Option.bind_some, qfB, Option.bind_some, qfB, qUH, qw (by omega)]
   unfold condB
   cases decide (0 ≤ x.Col ∧ x.Col ≤ w64 (cols - 1)) <;> cases decide (1 ≤ x.Op ∧ x.Op ≤ 4) <;> cases decide (-1000000000 ≤ x.V ∧ x.V ≤ 1000000000) <;> rfl
  ·
   rw [qZB.l0, qG, decide_eq_false (by omega), cond_false]
   refine (qGD (f := qZB.l1 q cols _) (l := q.Show) (fun i x => decide (0 ≤ x ∧ x ≤ w64 (cols - 1)) && !(decide (0 < i) && decide (x ≤ q.Show.getD (i - 1) 0))) (some false) (some (decide (q.Where.length ≤ 3) && decide (0 ≤ q.Order ∧ q.Order ≤ cols) && (!q.Down || decide (0 < q.Order)) && decide (0 ≤ q.First ∧ q.First ≤ 24) && kidsB s q)) (fun k i x hx => ?_) (fun k i hi => ?_) _ 0 (by omega) (by (try simp only [qG]); omega)).trans ?_
   ·
    have hi := at_lt hx
    rw [qZB.l1, qG, decide_eq_true (by omega), cond_true, qg, hx, Option.bind_some, qfB, Option.bind_some, qSQ hx (by omega), Option.bind_some, qw (by omega)]
    rw [show decide (0 < (i : Int)) = decide (0 < i) from by simp]
    cases decide (0 ≤ x ∧ x ≤ w64 (cols - 1)) <;> cases decide (0 < i) <;> (try rfl)
    simp only [quD, qzB, qHQ, Bool.not_true, Bool.not_false, Bool.true_and, cond_true]
    cases decide (x ≤ q.Show.getD (i - 1) 0) <;> rfl
   ·
    rw [qZB.l1, qG, decide_eq_false (by omega), cond_false, qfB, Option.bind_some, qfB, quL _ _ h]
    rw [show decide ((q.Where.length : Int) ≤ 3) = decide (q.Where.length ≤ 3) from by simp; omega]
    cases decide (q.Where.length ≤ 3) <;> cases decide (0 ≤ q.Order ∧ q.Order ≤ cols) <;> cases q.Down <;> cases decide (0 < q.Order) <;> cases decide (0 ≤ q.First ∧ q.First ≤ 24) <;> cases kidsB s q <;> rfl
   ·
    unfold showB
    cases allFrom (fun i x => decide (0 ≤ x ∧ x ≤ w64 (cols - 1)) && !(decide (0 < i) && decide (x ≤ q.Show.getD (i - 1) 0))) q.Show 0 <;> rfl
  ·
   rw [qYD]
   cases q.Where.all fun c => condB cols c <;> simp
theorem qBP (c : Cond) (r : Row) (h : Row_b r) : qzG.f c r = some (holdsB c r) := by
 have hl : r.Cells.length ≤ 9223372036854775807 := h
 unfold qzG.f holdsB
 rw [qG, qJB (by omega), qfB, Option.bind_some, qzB]
 by_cases d : 0 ≤ c.Col ∧ c.Col ≤ (r.Cells.length : Int) - 1
 ·
  rw [decide_eq_true d, Bool.not_true, cond_false, qPE d, Option.bind_some, Bool.true_and]
  simp only [qgK, decide_eq_true_eq, qfO, quD, cmpB]
  all_goals ((repeat' split) <;> simp_all)
 · rw [decide_eq_false d, Bool.not_false, cond_true, Bool.false_and]
theorem qvL (q : Query) (r : Row) (hq : qcG q.Where) (h : Row_b r) : qXC.f q r = some (matchesB q r) := by
 have hl : q.Where.length ≤ 9223372036854775807 := hq
 unfold qXC.f
 refine (qGD (f := qXC.l0 q r) (l := q.Where) (fun _ c => holdsB c r) (some false) (some true) (fun k i x hx => ?_) (fun k i hi => ?_) _ 0 (by omega) (by (try simp only [qG]); omega)).trans ?_
 ·
  have hi := at_lt hx
  rw [qXC.l0, qG, decide_eq_true (by omega), cond_true, qg, hx, Option.bind_some, qBP _ _ h, Option.bind_some, qzB, qw (by omega)]
  cases holdsB x r <;> rfl
 · rw [qXC.l0, qG, decide_eq_false (by omega), cond_false]
 ·
  rw [qYD, matchesB]
  cases q.Where.all fun c => holdsB c r <;> rfl
theorem qQK (l : List Int) (h : (l.length : Int) ≤ 1099511627776) : qrE.f l = some l := by
 unfold qrE.f
 rw [qiC (by simp only [List.length_nil]; omega), Option.bind_some, List.nil_append]
theorem qwL (r : Row) (h : qKC r ≤ 1099511627776) : qVF.f r = some r := by
 unfold qVF.f
 rw [qQK _ (qaU h), Option.bind_some]
theorem qCP (q : Query) (a b : Row) (ha : Row_b a) (hb : Row_b b) : qAH.f q a b = some (aheadB q a b) := by
 unfold qAH.f aheadB
 rw [qeG _ _ ha, qeG _ _ hb]
 simp only [Option.bind_some, qgK, decide_eq_true_eq, qfO, qzB, qJU, ne_eq, ite_not]
 all_goals (
  generalize cellF a (w64 (q.Order - 1)) = x
  generalize cellF b (w64 (q.Order - 1)) = y
  by_cases h0 : q.Order = 0
  · simp [h0]
  ·
   by_cases h1 : x = y
   · simp [h0, h1]
   ·
    cases hd : q.Down with
    | true =>
     simp only [h0, h1, if_false, if_true, Option.some.injEq, decide_eq_true_eq]
     by_cases h2 : x < y
     · simp [h2]; try omega
     · simp [h2]; try omega
    | false =>
     simp only [h0, h1, if_false, Option.some.injEq, decide_eq_true_eq]
     by_cases h2 : x < y
     · simp [h2]; try omega
     · simp [h2]; try omega)
theorem qvH (q : Query) (a b : Row) : aheadB q a b = true ↔ (q.Order = 0 ∧ a.Id < b.Id) ∨ (q.Order ≠ 0 ∧ ((cellF a (w64 (q.Order - 1)) = cellF b (w64 (q.Order - 1)) ∧ a.Id < b.Id) ∨ (q.Down = true ∧ cellF b (w64 (q.Order - 1)) < cellF a (w64 (q.Order - 1))) ∨ (q.Down = false ∧ cellF a (w64 (q.Order - 1)) < cellF b (w64 (q.Order - 1))))) := by
 unfold aheadB
 by_cases h0 : q.Order = 0
 ·
  rw [if_pos h0, decide_eq_true_eq]
  exact ⟨fun h => .inl ⟨h0, h⟩, fun h => h.elim (fun h => h.2) (fun h => absurd h0 h.1)⟩
 ·
  rw [if_neg h0]
  dsimp only
  generalize cellF a (w64 (q.Order - 1)) = x
  generalize cellF b (w64 (q.Order - 1)) = y
  by_cases e : x = y
  ·
   rw [if_pos e, decide_eq_true_eq]
   constructor
   · exact fun h => .inr ⟨h0, .inl ⟨e, h⟩⟩
   ·
    rintro (h | ⟨_, h | h | h⟩)
    · exact absurd h.1 h0
    · exact h.2
    · omega
    · omega
  ·
   rw [if_neg e]
   cases q.Down with
   | true =>
    rw [if_pos rfl, decide_eq_true_eq]
    constructor
    · exact fun h => .inr ⟨h0, .inr (.inl ⟨rfl, h⟩)⟩
    ·
     rintro (h | ⟨_, h | h | h⟩)
     · exact absurd h.1 h0
     · exact absurd h.1 e
     · exact h.2
     · cases h.1
   | false =>
    rw [if_neg (by simp), decide_eq_true_eq]
    constructor
    · exact fun h => .inr ⟨h0, .inr (.inr ⟨rfl, h⟩)⟩
    ·
     rintro (h | ⟨_, h | h | h⟩)
     · exact absurd h.1 h0
     · exact absurd h.1 e
     · cases h.1
     · exact h.2
theorem qwS {q : Query} {a b : Row} (h : aheadB q a b = true) : aheadB q b a = false := by
 rw [← Bool.not_eq_true, qvH]
 rw [qvH] at h
 cases hd : q.Down <;> simp only [hd, true_and, false_and, false_or, or_false, Bool.false_eq_true, Bool.true_eq_false] at h ⊢ <;> omega
theorem qzF {q : Query} {a b : Row} (hi : a.Id ≠ b.Id) (h : aheadB q a b = false) : aheadB q b a = true := by
 rw [qvH]
 rw [← Bool.not_eq_true, qvH] at h
 cases hd : q.Down <;> simp only [hd, true_and, false_and, false_or, or_false, Bool.false_eq_true, Bool.true_eq_false] at h ⊢ <;> omega
theorem qWH {q : Query} {a b c : Row} (h1 : aheadB q a b = true) (h2 : aheadB q b c = true) : aheadB q a c = true := by
 rw [qvH] at *
 cases hd : q.Down <;> simp only [hd, true_and, false_and, false_or, or_false, Bool.false_eq_true, Bool.true_eq_false] at h1 h2 ⊢ <;> omega
def Srt (q : Query) (l : List Row) : Prop := l.Pairwise fun a b => aheadB q a b = true
def Dst (l : List Row) : Prop := l.Pairwise fun a b => a.Id ≠ b.Id
theorem Dst.perm {l l' : List Row} (h : Dst l) (p : l.Perm l') : Dst l' := (p.pairwise_iff (fun h e => h e.symm)).1 h
theorem Dst.app {l l' : List Row} (h : Dst (l ++ l')) : Dst l ∧ Dst l' ∧ ∀ a ∈ l, ∀ b ∈ l', a.Id ≠ b.Id := List.pairwise_append.1 h
theorem Srt.unique {q : Query} {l l' : List Row} (h : Srt q l) (h' : Srt q l') (p : l.Perm l') : l = l' :=
 List.Perm.eq_of_pairwise (fun a b _ _ h1 h2 => by rw [qwS h1] at h2; cases h2) h h' p
theorem Srt.app {q : Query} {l l' : List Row} : Srt q (l ++ l') ↔ Srt q l ∧ Srt q l' ∧ ∀ a ∈ l, ∀ b ∈ l', aheadB q a b = true := List.pairwise_append
theorem Srt.at {q : Query} {l : List Row} (h : Srt q l) {i j : Nat} {x y : Row} (hij : i < j) (hx : l[i]? = some x) (hy : l[j]? = some y) : aheadB q x y = true := by
 obtain ⟨h1, rfl⟩ := List.getElem?_eq_some_iff.1 hx
 obtain ⟨h2, rfl⟩ := List.getElem?_eq_some_iff.1 hy
 exact List.pairwise_iff_getElem.1 h i j h1 h2 hij
theorem qIE (a b : Row) (q : Query) (ha : Row_b a) (hb : Row_b b) : qtC.f a b q = some (if aheadB q a b = true then -1 else 1) := by
 unfold qtC.f
 rw [qCP q a b ha hb, Option.bind_some]
 cases aheadB q a b <;> rfl
theorem qxS (a1 : Int) (q : Query) (K : List Row → Option (List Row)) : ∀ (k : Nat) (n : Nat) (P S1 S2 R : List Row) (x : Row) (j : Int), S1.length = n → n < k → a1 = P.length → j = P.length + S1.length → (P ++ (S1 ++ x :: (S2 ++ R))).length ≤ 1000000 →
  (∀ y ∈ S1 ++ x :: S2, Row_b y) → Dst (S1 ++ x :: S2) → Srt q (S1 ++ S2) → (∀ y ∈ S2, aheadB q x y = true) →
  ∃ S', qD.l1 a1 q K k (P ++ (S1 ++ x :: (S2 ++ R))) j = K (P ++ (S' ++ R)) ∧ S'.Perm (S1 ++ x :: S2) ∧ Srt q S' := by
 intro k
 induction k with
 | zero => intro n P S1 S2 R x j _ h; omega
 | succ k ih =>
  intro n P S1 S2 R x j hn hk h1 h2 hlen hb hd hs hx
  simp only [List.length_append, List.length_cons] at hlen
  rw [qD.l1]
  have fin : Srt q (S1 ++ x :: S2) → ∃ S', K (P ++ (S1 ++ x :: (S2 ++ R))) = K (P ++ (S' ++ R)) ∧ S'.Perm (S1 ++ x :: S2) ∧ Srt q S' := fun h => ⟨S1 ++ x :: S2, by simp, List.Perm.refl _, h⟩
  cases n with
  | zero =>
   obtain rfl := List.length_eq_zero_iff.1 hn
   rw [decide_eq_false (by simp at h2; omega), qmE, Option.bind_some, qmE, Option.bind_some, qmE, Option.bind_some, bo3_F, cond_false]
   exact fin (List.pairwise_cons.2 ⟨hx, hs⟩)
  | succ n =>
   obtain ⟨S, y, rfl⟩ : ∃ S y, S1 = S ++ [y] := ⟨S1.dropLast, S1.getLast (by rintro rfl; simp at hn), (List.dropLast_concat_getLast _).symm⟩
   simp only [List.length_append, List.length_cons, List.length_nil] at hn h2 hlen
   have hpos : (P ++ (S ++ [y] ++ x :: (S2 ++ R))) = (P ++ S) ++ y :: ([] ++ x :: (S2 ++ R)) := by simp
   have lps : (P ++ S).length = P.length + S.length := List.length_append
   have e1 : getO (P ++ (S ++ [y] ++ x :: (S2 ++ R))) j = some x := by rw [hpos]; exact qjK (by simp only [List.length_nil]; omega)
   have e2 : getO (P ++ (S ++ [y] ++ x :: (S2 ++ R))) (w64 (j - 1)) = some y := by rw [hpos, qJB (by omega)]; exact qTH (by omega)
   have by_ : Row_b y := hb y (by simp)
   have bx : Row_b x := hb x (by simp)
   rw [decide_eq_true (by omega), e1, qdC, Option.bind_some, e2, qdC, Option.bind_some, qdC, qIE x y q bx by_, Option.bind_some, bo3_T, Option.bind_some, Option.bind_some]
   cases hc : aheadB q x y with
   | true =>
    rw [if_pos rfl, decide_eq_true (by omega), cond_true, qJS (by rw [qJB (by omega)]; omega), Option.bind_some, Option.bind_some, hpos, qJB (by omega), swapB (by omega) (by simp only [List.length_nil]; omega)]
    obtain ⟨S', g1, g2, g3⟩ := ih n P S (y :: S2) R x (j - 1) (by omega) (by omega) h1 (by omega) (by simp only [List.length_append, List.length_cons]; omega) (fun z hz => hb z (by simp at hz ⊢; rcases hz with h | h | h | h <;> simp [h])) (hd.perm (by simpa using List.Perm.append_left S (List.Perm.swap x y S2))) (by simpa using hs) (fun z hz => by
     rcases List.mem_cons.1 hz with rfl | h
     · exact hc
     · exact hx z h)
    refine ⟨S', ?_, g2.trans (by simpa using List.Perm.append_left S (List.Perm.swap y x S2)), g3⟩
    rw [← g1]; simp
   | false =>
    rw [if_neg (by simp), decide_eq_false (by omega), cond_false]
    have hne : x.Id ≠ y.Id := fun e => (hd.app.2.2 y (by simp) x (by simp)) e.symm
    have hyx := qzF hne hc
    refine fin (Srt.app.2 ⟨(Srt.app.1 hs).1, List.pairwise_cons.2 ⟨hx, (Srt.app.1 hs).2.1⟩, fun a ha b hb' => ?_⟩)
    have hax : aheadB q a x = true := by
     rcases List.mem_append.1 ha with h | h
     · exact qWH ((Srt.app.1 (Srt.app.1 hs).1).2.2 a h y (by simp)) hyx
     · rw [List.mem_singleton.1 h]; exact hyx
    rcases List.mem_cons.1 hb' with rfl | h
    · exact hax
    · exact qWH hax (hx b h)
theorem qyS (a1 a2 : Int) (q : Query) : ∀ (k : Nat) (P S T R : List Row) (i : Int), T.length < k → a1 = P.length → i = P.length + S.length → a2 = P.length + S.length + T.length → (P ++ (S ++ (T ++ R))).length ≤ 1000000 →
  (∀ y ∈ S ++ T, Row_b y) → Dst (S ++ T) → Srt q S →
  ∃ S', qD.l0 a1 a2 q k (P ++ (S ++ (T ++ R))) i = some (P ++ (S' ++ R)) ∧ S'.Perm (S ++ T) ∧ Srt q S' := by
 intro k
 induction k with
 | zero => intro P S T R i h; omega
 | succ k ih =>
  intro P S T R i hk h1 h2 h3 hlen hb hd hs
  have hlen0 := hlen
  simp only [List.length_append] at hlen
  rw [qD.l0]
  cases T with
  | nil =>
   simp only [List.length_nil] at h3
   rw [decide_eq_false (by omega), cond_false]
   exact ⟨S, by simp, by simp, hs⟩
  | cons x T =>
   simp only [List.length_cons] at h3 hlen hk
   rw [decide_eq_true (by omega), cond_true, quB]
   have hd' : Dst (S ++ [x] ++ T) := by simpa using hd
   obtain ⟨S', g1, g2, g3⟩ := qxS a1 q (fun y17 => qD.l0 a1 a2 q k y17 (w64 (i + 1))) ((i - a1).toNat + 1) S.length P S [] (T ++ R) x i rfl (by omega) h1 h2 (by simp only [List.length_append, List.length_cons, List.length_nil]; omega) (fun y hy => hb y (by simp at hy ⊢; rcases hy with h | h <;> simp [h])) (by simpa using hd'.app.1) (by simpa using hs) (by simp)
   have ls : S'.length = S.length + 1 := by rw [g2.length_eq]; simp
   have gp : S'.Perm (S ++ [x]) := by simpa using g2
   rw [List.nil_append] at g1
   rw [show P ++ (S ++ (x :: T ++ R)) = P ++ (S ++ x :: (T ++ R)) by simp, g1, qJB (by omega)]
   obtain ⟨S'', f1, f2, f3⟩ := ih P S' T R (i + 1) (by omega) h1 (by omega) (by omega) (by simp only [List.length_append]; omega) (fun y hy => by
    rcases List.mem_append.1 hy with h | h
    ·
     have := gp.mem_iff.1 h
     exact hb y (by simp at this ⊢; rcases this with h | h <;> simp [h])
    · exact hb y (by simp [h])) (hd'.perm (gp.symm.append_right T)) g3
   exact ⟨S'', f1, f2.trans (by simpa using gp.append_right T), f3⟩
theorem qdJ {a1 a2 : Int} (q : Query) {P T R : List Row} (h1 : a1 = P.length) (h2 : a2 = P.length + T.length) (hlen : (P ++ (T ++ R)).length ≤ 1000000) (hb : ∀ y ∈ T, Row_b y) (hd : Dst T) :
  ∃ S, qD.f (P ++ (T ++ R)) a1 a2 q = some (P ++ (S ++ R)) ∧ S.Perm T ∧ Srt q S := by
 unfold qD.f
 have hlen' := hlen
 simp only [List.length_append] at hlen'
 rw [qJB (by omega)]
 cases T with
 | nil =>
  simp only [List.length_nil] at h2
  refine ⟨[], ?_, List.Perm.refl _, List.Pairwise.nil⟩
  rw [qD.l0, decide_eq_false (by omega), cond_false]
 | cons x T =>
  simp only [List.length_cons] at h2 hlen'
  have := qyS a1 a2 q ((a2 - (a1 + 1)).toNat + 1) P [x] T R (a1 + 1) (by omega) h1 (by simp only [List.length_cons, List.length_nil]; omega) (by simp only [List.length_cons, List.length_nil]; omega) (by simp only [List.length_append, List.length_cons, List.length_nil]; omega) (by simpa using hb) (by simpa using hd) (by simp [Srt])
  simpa using this
theorem qWQ (a1 a2 a3 : Int) : ∀ (k : Nat) (X Y A B C : List Row) (i : Int), X.length = Y.length → 0 ≤ i → i + X.length ≤ 1000000 → (A ++ (X ++ (B ++ (Y ++ C)))).length ≤ 1000000 → a1 + i = A.length → a2 + i = A.length + X.length + B.length → a3 = i + X.length → X.length < k →
  qI.l0 a1 a2 a3 k (A ++ (X ++ (B ++ (Y ++ C)))) i = some (A ++ (Y ++ (B ++ (X ++ C)))) := by
 intro k
 induction k with
 | zero => intro X Y A B C i _ _ _ _ _ _ _ h; omega
 | succ k ih =>
  intro X Y A B C i hl h0 hi hlen h1 h2 h3 hk
  rw [qI.l0]
  cases X with
  | nil =>
   cases Y with
   | cons y Y => simp at hl
   | nil => rw [decide_eq_false (by simp at h3; omega), cond_false]
  | cons x X =>
   cases Y with
   | nil => simp at hl
   | cons y Y =>
    simp only [List.length_append, List.length_cons] at *
    have e1 : w64 (a1 + i) = A.length := by rw [qJB (by omega), h1]
    have lxb : (X ++ B).length = X.length + B.length := List.length_append
    have e2 : w64 (a2 + i) = A.length + 1 + (X ++ B).length := by rw [qJB (by omega), h2]; omega
    have e : A ++ (x :: X ++ (B ++ (y :: Y ++ C))) = A ++ x :: ((X ++ B) ++ y :: (Y ++ C)) := by simp
    rw [decide_eq_true (by omega), cond_true, e1, e2, e, qjK rfl, Option.bind_some, qTH rfl, Option.bind_some, qJS (by omega), Option.bind_some, Option.bind_some, swapA rfl rfl, qJB (by omega)]
    have := ih X Y (A ++ [y]) (B ++ [x]) C (i + 1) (by omega) (by omega) (by omega) (by simp only [List.length_append, List.length_cons, List.length_nil]; omega) (by simp only [List.length_append, List.length_cons, List.length_nil]; omega) (by simp only [List.length_append, List.length_cons, List.length_nil]; omega) (by omega) (by omega)
    simpa using this
theorem qwH {a1 a2 a3 : Int} (q : Query) {X Y A B C : List Row} (hl : X.length = Y.length) (hlen : (A ++ (X ++ (B ++ (Y ++ C)))).length ≤ 1000000) (h1 : a1 = A.length) (h2 : a2 = A.length + X.length + B.length) (h3 : a3 = X.length) :
  qI.f (A ++ (X ++ (B ++ (Y ++ C)))) a1 a2 a3 q = some (A ++ (Y ++ (B ++ (X ++ C)))) := by
 unfold qI.f
 have hlen' := hlen
 simp only [List.length_append] at hlen'
 exact qWQ a1 a2 a3 _ X Y A B C 0 hl (by omega) (by omega) hlen (by omega) (by omega) (by omega) (by omega)
theorem qcU (q : Query) (a2 : Int) : ∀ (k : Nat) (X Y P Q : List Row), X ≠ [] → Y ≠ [] → X.length + Y.length < k → (P ++ (X ++ (Y ++ Q))).length ≤ 1000000 → a2 = P.length + X.length →
  qL.l0 a2 q (fun y1 y2 => (qI.f y1 (w64 (a2 - y2)) a2 y2 q).bind fun r24 => some r24) k (P ++ (X ++ (Y ++ Q))) X.length Y.length = some (P ++ (Y ++ (X ++ Q))) := by
 intro k
 induction k with
 | zero => intro X Y P Q _ _ h; omega
 | succ k ih =>
  intro X Y P Q hx hy hk hlen h2
  have lx : 0 < X.length := List.length_pos_iff.2 hx
  have ly : 0 < Y.length := List.length_pos_iff.2 hy
  simp only [List.length_append] at hlen
  rw [qL.l0]
  by_cases he : X.length = Y.length
  ·
   rw [decide_eq_false (by omega), cond_false, qJB (by omega)]
   have := qwH (a1 := a2 - X.length) (a2 := a2) (a3 := X.length) q (X := X) (Y := Y) (A := P) (B := []) (C := Q) he (by simp only [List.length_append, List.length_nil]; omega) (by omega) (by simp only [List.length_nil]; omega) rfl
   simp only [List.nil_append] at this
   rw [this]; rfl
  ·
   rw [decide_eq_true (by omega), cond_true]
   by_cases hg : Y.length < X.length
   ·
    rw [decide_eq_true (by omega), cond_true, qJB (by omega), qJB (by omega)]
    obtain ⟨X1, X2, rfl, l1⟩ : ∃ X1 X2, X = X1 ++ X2 ∧ X1.length = Y.length := ⟨X.take Y.length, X.drop Y.length, (List.take_append_drop ..).symm, by rw [List.length_take]; omega⟩
    rw [List.length_append] at *
    have := qwH (a1 := a2 - (X1.length + X2.length : Nat)) (a2 := a2) (a3 := Y.length) q (X := X1) (Y := Y) (A := P) (B := X2) (C := Q) l1 (by simp only [List.length_append]; omega) (by omega) (by omega) (by omega)
    rw [show P ++ (X1 ++ X2 ++ (Y ++ Q)) = P ++ (X1 ++ (X2 ++ (Y ++ Q))) by simp, this, Option.bind_some]
    have h := ih X2 X1 (P ++ Y) Q (by rintro rfl; simp at *; omega) (by rintro rfl; simp at *; omega) (by omega) (by simp only [List.length_append]; omega) (by simp only [List.length_append]; omega)
    rw [show ((X1.length + X2.length : Nat) : Int) - Y.length = X2.length by omega, show (Y.length : Int) = X1.length by omega]
    simpa using h
   ·
    rw [decide_eq_false (by omega), cond_false, qJB (by omega), qJB (x := a2 + Y.length) (by omega), qJB (by omega), qJB (by omega)]
    obtain ⟨Y1, Y2, rfl, l1⟩ : ∃ Y1 Y2, Y = Y1 ++ Y2 ∧ Y2.length = X.length := ⟨Y.take (Y.length - X.length), Y.drop (Y.length - X.length), (List.take_append_drop ..).symm, by rw [List.length_drop]; omega⟩
    rw [List.length_append] at *
    have := qwH (a1 := a2 - X.length) (a2 := a2 + (Y1.length + Y2.length : Nat) - X.length) (a3 := X.length) q (X := X) (Y := Y2) (A := P) (B := Y1) (C := Q) l1.symm (by simp only [List.length_append]; omega) (by omega) (by omega) (by omega)
    rw [show P ++ (X ++ (Y1 ++ Y2 ++ Q)) = P ++ (X ++ (Y1 ++ (Y2 ++ Q))) by simp, this, Option.bind_some]
    have h := ih Y2 Y1 P (X ++ Q) (by rintro rfl; simp at *; omega) (by rintro rfl; simp at *; omega) (by omega) (by simp only [List.length_append]; omega) (by omega)
    rw [show ((Y1.length + Y2.length : Nat) : Int) - X.length = Y1.length by omega, show (X.length : Int) = Y2.length by omega]
    simpa using h
theorem qdU (q : Query) {a1 a2 a3 : Int} {X Y P Q : List Row} (hx : X ≠ []) (hy : Y ≠ []) (hlen : (P ++ (X ++ (Y ++ Q))).length ≤ 900) (h1 : a1 = P.length) (h2 : a2 = P.length + X.length) (h3 : a3 = P.length + X.length + Y.length) :
  qL.f (P ++ (X ++ (Y ++ Q))) a1 a2 a3 q = some (P ++ (Y ++ (X ++ Q))) := by
 unfold qL.f
 simp only [List.length_append] at hlen
 rw [quB, qJB (by omega), qJB (by omega), show a2 - a1 = X.length by omega, show a3 - a2 = Y.length by omega]
 exact qcU q a2 1000 X Y P Q hx hy (by omega) (by simp only [List.length_append]; omega) h2
theorem Srt.tr1 {q : Query} {l : List Row} (h : Srt q l) {i j : Nat} {x y z : Row} (hij : i ≤ j) (hx : l[i]? = some x) (hy : l[j]? = some y) (hz : aheadB q y z = true) : aheadB q x z = true := by
 rcases Nat.lt_or_ge i j with h1 | h1
 · exact qWH (h.at h1 hx hy) hz
 ·
  obtain rfl : i = j := by omega
  rw [hx] at hy; cases hy; exact hz
theorem Srt.tr2 {q : Query} {l : List Row} (h : Srt q l) {i j : Nat} {x y z : Row} (hij : i ≤ j) (hx : l[i]? = some x) (hy : l[j]? = some y) (hz : aheadB q z x = true) : aheadB q z y = true := by
 rcases Nat.lt_or_ge i j with h1 | h1
 · exact qWH hz (h.at h1 hx hy)
 ·
  obtain rfl : i = j := by omega
  rw [hx] at hy; cases hy; exact hz
theorem symUp (y4 : Int) : ∀ (k : Nat) (Y A C : List Row) (x : Row) (i : Int), Y.length < k → i = A.length → y4 = A.length + 1 + Y.length → (A ++ x :: (Y ++ C)).length ≤ 1000000 →
  qA.l1 y4 k (A ++ x :: (Y ++ C)) i = some (A ++ (Y ++ x :: C)) := by
 intro k
 induction k with
 | zero => intro Y A C x i h; omega
 | succ k ih =>
  intro Y A C x i hk h1 h2 hlen
  simp only [List.length_append, List.length_cons] at hlen
  rw [qA.l1, qJB (x := y4 - 1) (by omega)]
  cases Y with
  | nil =>
   simp only [List.length_nil] at h2
   rw [decide_eq_false (by omega), cond_false]; rfl
  | cons y Y =>
   simp only [List.length_cons] at h2 hk hlen
   rw [decide_eq_true (by omega), cond_true, qJB (by omega), show A ++ x :: (y :: Y ++ C) = A ++ x :: ([] ++ y :: (Y ++ C)) by simp, qjK (by simp only [List.length_nil]; omega), Option.bind_some, qTH h1, Option.bind_some, qJS (by omega), Option.bind_some, Option.bind_some, swapA h1 (by simp only [List.length_nil]; omega)]
   have := ih Y (A ++ [y]) C x (i + 1) (by omega) (by simp only [List.length_append, List.length_cons, List.length_nil]; omega) (by simp only [List.length_append, List.length_cons, List.length_nil]; omega) (by simp only [List.length_append, List.length_cons, List.length_nil]; omega)
   simpa using this
theorem symDown (y39 : Int) : ∀ (k n : Nat) (Y A C : List Row) (x : Row) (i : Int), Y.length = n → n < k → i = A.length + Y.length → y39 = A.length → (A ++ (Y ++ x :: C)).length ≤ 1000000 →
  qA.l3 y39 k (A ++ (Y ++ x :: C)) i = some (A ++ x :: (Y ++ C)) := by
 intro k
 induction k with
 | zero => intro n Y A C x i _ h; omega
 | succ k ih =>
  intro n Y A C x i hn hk h1 h2 hlen
  simp only [List.length_append, List.length_cons] at hlen
  rw [qA.l3]
  cases n with
  | zero =>
   obtain rfl := List.length_eq_zero_iff.1 hn
   rw [decide_eq_false (by simp at h1; omega), cond_false]; rfl
  | succ n =>
   obtain ⟨S, y, rfl⟩ : ∃ S y, Y = S ++ [y] := ⟨Y.dropLast, Y.getLast (by rintro rfl; simp at hn), (List.dropLast_concat_getLast _).symm⟩
   simp only [List.length_append, List.length_cons, List.length_nil] at hn h1 hlen
   have lps : (A ++ S).length = A.length + S.length := List.length_append
   rw [decide_eq_true (by omega), cond_true, qJB (by omega), show A ++ (S ++ [y] ++ x :: C) = (A ++ S) ++ y :: ([] ++ x :: C) by simp, qTH (by omega), Option.bind_some, qjK (by simp only [List.length_nil]; omega), Option.bind_some, qJS (by omega), Option.bind_some, Option.bind_some, swapB (by omega) (by simp only [List.length_nil]; omega)]
   have := ih n S A (y :: C) x (i - 1) (by omega) (by omega) (by omega) h2 (by simp only [List.length_append, List.length_cons]; omega)
   simpa using this
theorem symOne (self : List Row → Int → Int → Int → Query → Option (List Row)) (q : Query) {P R Q : List Row} {x : Row} {a m b : Int} (ha : a = P.length) (hm : m = P.length + 1) (hb' : b = P.length + 1 + R.length) (hlen : (P ++ ([x] ++ (R ++ Q))).length ≤ 900) (hb : ∀ y ∈ [x] ++ R, Row_b y) (hd : Dst ([x] ++ R)) (hR : Srt q R) :
  ∃ M, qA.b self (P ++ ([x] ++ (R ++ Q))) a m b q = some (P ++ (M ++ Q)) ∧ M.Perm ([x] ++ R) ∧ Srt q M := by
 have hlen' := hlen
 simp only [List.length_append, List.length_cons, List.length_nil] at hlen'
 unfold qA.b
 rw [quB, qJB (x := m - a) (by omega), decide_eq_true (by omega), cond_true, quB]
 have hx : Row_b x := hb x (by simp)
 have hR' : ∀ c, P.length + 1 ≤ c → c < P.length + 1 + R.length → ∃ y, R[c - (P.length + 1)]? = some y ∧ y ∈ R ∧ getO (P ++ ([x] ++ (R ++ Q))) (c : Int) = some y := by
  intro c h1 h2
  have h3 : c - (P.length + 1) < R.length := by omega
  refine ⟨R[c - (P.length + 1)], List.getElem?_eq_getElem h3, List.getElem_mem h3, ?_⟩
  rw [show P ++ ([x] ++ (R ++ Q)) = (P ++ [x]) ++ (R ++ Q) by simp, qkK (by simp; omega) (by simp; omega)]
  simp only [List.length_append, List.length_cons, List.length_nil]
  exact List.getElem?_eq_getElem h3
 have h0 : getO (P ++ ([x] ++ (R ++ Q))) a = some x := qTH ha
 generalize hK : (fun y4 => qA.l1 y4 ((w64 (y4 - 1) - a).toNat + 1) (P ++ ([x] ++ (R ++ Q))) a) = K
 obtain ⟨t, t1, t2, t3, t4, t5⟩ := bsearch (f := fun k i j => qA.l0 (P ++ ([x] ++ (R ++ Q))) a q K k i j) (K := K) (fun c => aheadB q (R.getD (c - (P.length + 1)) default) x) (P.length + 1) (P.length + 1 + R.length)
  (fun c c' h1 h2 h3 h4 => by
   obtain ⟨y, e1, _, _⟩ := hR' c h1 (by omega)
   obtain ⟨y', e2, _, _⟩ := hR' c' (by omega) h3
   rw [List.getD_eq_getElem?_getD, e1, Option.getD_some] at h4
   rw [List.getD_eq_getElem?_getD, e2, Option.getD_some]
   cases hh : aheadB q y' x with
   | false => rfl
   | true => rw [hR.tr1 (by omega) e1 e2 hh] at h4; cases h4)
  (fun k i j h1 h2 h3 => by
   obtain ⟨y, e1, hy, e2⟩ := hR' ((i + j) / 2) (by omega) (by omega)
   show qA.l0 _ a q K (k + 1) i j = _
   rw [qA.l0, decide_eq_true (by omega), cond_true, qXL (n := i + j) (by omega) (by omega), e2, Option.bind_some, h0, Option.bind_some, qIE y x q (hb y (by simp [hy])) hx, Option.bind_some, List.getD_eq_getElem?_getD, e1, Option.getD_some, qw (by omega)]
   cases aheadB q y x with
   | true => rw [if_pos rfl, decide_eq_true (by omega), cond_true, if_pos rfl]
   | false => rw [if_neg (by simp), decide_eq_false (by omega), cond_false, if_neg (by simp)])
  (fun k i => by
   show qA.l0 _ a q K (k + 1) i i = _
   rw [qA.l0, decide_eq_false (by omega), cond_false])
  ((b - m).toNat + 1) (P.length + 1) (P.length + 1 + R.length) (Nat.le_refl _) (by omega) (Nat.le_refl _) (by omega)
 rw [show m = ((P.length + 1 : Nat) : Int) by omega, show b = ((P.length + 1 + R.length : Nat) : Int) by omega] at *
 rw [t3, ← hK]
 obtain ⟨R1, R2, eR, l1⟩ : ∃ R1 R2, R = R1 ++ R2 ∧ R1.length = t - (P.length + 1) := ⟨R.take (t - (P.length + 1)), R.drop (t - (P.length + 1)), (List.take_append_drop ..).symm, by rw [List.length_take]; omega⟩
 have lR : R.length = R1.length + R2.length := by rw [eR, List.length_append]
 have s1 : ∀ y ∈ R1, aheadB q y x = true := fun y hy => by
  obtain ⟨i, hi⟩ := List.getElem?_of_mem hy
  have hi' := at_lt hi
  have := t4 (P.length + 1 + i) (by omega) (by omega)
  rw [Nat.add_sub_cancel_left, List.getD_eq_getElem?_getD, eR, List.getElem?_append_left hi', hi] at this
  exact this
 have s2 : ∀ y ∈ R2, aheadB q x y = true := fun y hy => by
  obtain ⟨i, hi⟩ := List.getElem?_of_mem hy
  have hi' := at_lt hi
  have := t5 (P.length + 1 + (R1.length + i)) (by omega) (by omega)
  rw [Nat.add_sub_cancel_left, List.getD_eq_getElem?_getD, eR, List.getElem?_append_right (by omega), Nat.add_sub_cancel_left, hi] at this
  exact qzF (fun e => hd.app.2.2 x (by simp) y (by rw [eR]; simp [hy]) e.symm) this
 refine ⟨R1 ++ x :: R2, ?_, ?_, ?_⟩
 ·
  have := symUp (t : Int) ((w64 ((t : Int) - 1) - a).toNat + 1) R1 P (R2 ++ Q) x a (by rw [qJB (by omega)]; omega) ha (by omega) (by simp only [List.length_append, List.length_cons]; omega)
  rw [eR]
  simpa using this
 · rw [eR]; exact List.perm_middle
 ·
  rw [eR] at hR
  exact Srt.app.2 ⟨(Srt.app.1 hR).1, List.pairwise_cons.2 ⟨s2, (Srt.app.1 hR).2.1⟩, fun y hy z hz => by
   rcases List.mem_cons.1 hz with rfl | h
   · exact s1 y hy
   · exact (Srt.app.1 hR).2.2 y hy z h⟩
theorem symLast (self : List Row → Int → Int → Int → Query → Option (List Row)) (q : Query) {P L Q : List Row} {x : Row} {a m b : Int} (hL0 : L.length ≠ 1) (ha : a = P.length) (hm : m = P.length + L.length) (hb' : b = P.length + L.length + 1) (hlen : (P ++ (L ++ ([x] ++ Q))).length ≤ 900) (hb : ∀ y ∈ L ++ [x], Row_b y) (hd : Dst (L ++ [x])) (hL : Srt q L) :
  ∃ M, qA.b self (P ++ (L ++ ([x] ++ Q))) a m b q = some (P ++ (M ++ Q)) ∧ M.Perm (L ++ [x]) ∧ Srt q M := by
 have hlen' := hlen
 simp only [List.length_append, List.length_cons, List.length_nil] at hlen'
 unfold qA.b
 rw [quB, qJB (x := m - a) (by omega), decide_eq_false (by omega), cond_false, quB, qJB (x := b - m) (by omega), decide_eq_true (by omega), cond_true, quB]
 have hx : Row_b x := hb x (by simp)
 have hL' : ∀ c, P.length ≤ c → c < P.length + L.length → ∃ y, L[c - P.length]? = some y ∧ y ∈ L ∧ getO (P ++ (L ++ ([x] ++ Q))) (c : Int) = some y := by
  intro c h1 h2
  have h3 : c - P.length < L.length := by omega
  refine ⟨L[c - P.length], List.getElem?_eq_getElem h3, List.getElem_mem h3, ?_⟩
  rw [qkK (by omega) (by omega)]
  exact List.getElem?_eq_getElem h3
 have h0 : getO (P ++ (L ++ ([x] ++ Q))) m = some x := by
  rw [show P ++ (L ++ ([x] ++ Q)) = (P ++ L) ++ x :: Q by simp]
  exact qTH (by simp only [List.length_append]; omega)
 generalize hK : (fun y39 => qA.l3 y39 ((m - y39).toNat + 1) (P ++ (L ++ ([x] ++ Q))) m) = K
 obtain ⟨t, t1, t2, t3, t4, t5⟩ := bsearch (f := fun k i j => qA.l2 (P ++ (L ++ ([x] ++ Q))) m q K k i j) (K := K) (fun c => !aheadB q x (L.getD (c - P.length) default)) P.length (P.length + L.length)
  (fun c c' h1 h2 h3 h4 => by
   obtain ⟨y, e1, _, _⟩ := hL' c h1 (by omega)
   obtain ⟨y', e2, _, _⟩ := hL' c' (by omega) h3
   rw [List.getD_eq_getElem?_getD, e1, Option.getD_some] at h4
   rw [List.getD_eq_getElem?_getD, e2, Option.getD_some]
   cases hh : aheadB q x y with
   | false => rw [hh] at h4; cases h4
   | true => rw [hL.tr2 (by omega) e1 e2 hh]; rfl)
  (fun k i j h1 h2 h3 => by
   obtain ⟨y, e1, hy, e2⟩ := hL' ((i + j) / 2) (by omega) (by omega)
   show qA.l2 _ m q K (k + 1) i j = _
   rw [qA.l2, decide_eq_true (by omega), cond_true, qXL (n := i + j) (by omega) (by omega), h0, Option.bind_some, e2, Option.bind_some, qIE x y q hx (hb y (by simp [hy])), Option.bind_some, List.getD_eq_getElem?_getD, e1, Option.getD_some, qw (by omega), qzB]
   cases aheadB q x y with
   | true => rw [if_pos rfl, decide_eq_true (by omega), Bool.not_true, cond_false, if_neg (by simp)]
   | false => rw [if_neg (by simp), decide_eq_false (by omega), Bool.not_false, cond_true, if_pos rfl])
  (fun k i => by
   show qA.l2 _ m q K (k + 1) i i = _
   rw [qA.l2, decide_eq_false (by omega), cond_false])
  ((m - a).toNat + 1) P.length (P.length + L.length) (Nat.le_refl _) (by omega) (Nat.le_refl _) (by omega)
 rw [show a = ((P.length : Nat) : Int) by omega, show m = ((P.length + L.length : Nat) : Int) by omega] at *
 rw [t3, ← hK]
 obtain ⟨L1, L2, eL, l1⟩ : ∃ L1 L2, L = L1 ++ L2 ∧ L1.length = t - P.length := ⟨L.take (t - P.length), L.drop (t - P.length), (List.take_append_drop ..).symm, by rw [List.length_take]; omega⟩
 have lL : L.length = L1.length + L2.length := by rw [eL, List.length_append]
 have s1 : ∀ y ∈ L1, aheadB q y x = true := fun y hy => by
  obtain ⟨i, hi⟩ := List.getElem?_of_mem hy
  have hi' := at_lt hi
  have := t4 (P.length + i) (by omega) (by omega)
  rw [Nat.add_sub_cancel_left, List.getD_eq_getElem?_getD, eL, List.getElem?_append_left hi', hi, Option.getD_some, Bool.not_eq_true'] at this
  exact qzF (fun e => hd.app.2.2 y (by rw [eL]; simp [hy]) x (by simp) e.symm) this
 have s2 : ∀ y ∈ L2, aheadB q x y = true := fun y hy => by
  obtain ⟨i, hi⟩ := List.getElem?_of_mem hy
  have hi' := at_lt hi
  have := t5 (P.length + (L1.length + i)) (by omega) (by omega)
  rw [Nat.add_sub_cancel_left, List.getD_eq_getElem?_getD, eL, List.getElem?_append_right (by omega), Nat.add_sub_cancel_left, hi, Option.getD_some, Bool.not_eq_false'] at this
  exact this
 refine ⟨L1 ++ x :: L2, ?_, ?_, ?_⟩
 ·
  have lpl : (P ++ L1).length = P.length + L1.length := List.length_append
  have := symDown (t : Int) ((((P.length + L.length : Nat) : Int) - t).toNat + 1) L2.length L2 (P ++ L1) Q x ((P.length + L.length : Nat) : Int) rfl (by omega) (by omega) (by omega) (by simp only [List.length_append, List.length_cons]; omega)
  rw [eL] at this ⊢
  simpa using this
 · rw [eL]; simpa using List.Perm.append_left L1 (List.perm_append_comm (l₁ := [x]) (l₂ := L2))
 ·
  rw [eL] at hL
  exact Srt.app.2 ⟨(Srt.app.1 hL).1, List.pairwise_cons.2 ⟨s2, (Srt.app.1 hL).2.1⟩, fun y hy z hz => by
   rcases List.mem_cons.1 hz with rfl | h
   · exact s1 y hy
   · exact (Srt.app.1 hL).2.2 y hy z h⟩
theorem symIf (self : List Row → Int → Int → Int → Query → Option (List Row)) (q : Query) {P L R Q : List Row} {a m b : Int} (K : List Row → Option (List Row)) (ha : a = P.length) (hm : m = P.length + L.length) (hb' : b = P.length + L.length + R.length) (hL : Srt q L) (hR : Srt q R)
  (ih : L ≠ [] → R ≠ [] → ∃ M, self (P ++ (L ++ (R ++ Q))) a m b q = some (P ++ (M ++ Q)) ∧ M.Perm (L ++ R) ∧ Srt q M) :
  ∃ M, (bif (bo3 (decide (a < m)) (decide (m < b)) false) then ((self (P ++ (L ++ (R ++ Q))) a m b q).bind fun r => K r) else K (P ++ (L ++ (R ++ Q)))) = K (P ++ (M ++ Q)) ∧ M.Perm (L ++ R) ∧ Srt q M := by
 by_cases h1 : L = []
 ·
  subst h1
  simp only [List.length_nil] at hm
  rw [decide_eq_false (by omega), bo3_F, cond_false]
  exact ⟨R, rfl, List.Perm.refl _, hR⟩
 ·
  by_cases h2 : R = []
  ·
   subst h2
   simp only [List.length_nil] at hb'
   rw [decide_eq_false (p := m < b) (by omega), quD, Bool.and_false, cond_false]
   exact ⟨L, rfl, by simp, hL⟩
  ·
   have g1 : 0 < L.length := List.length_pos_iff.2 h1
   have g2 : 0 < R.length := List.length_pos_iff.2 h2
   obtain ⟨M, e1, e2, e3⟩ := ih h1 h2
   rw [decide_eq_true (by omega), decide_eq_true (by omega), bo3_T, cond_true, e1]
   exact ⟨M, rfl, e2, e3⟩
theorem symRot (q : Query) {P L R Q : List Row} {a m b : Int} (K : List Row → Int → Option (List Row)) (ha : a = P.length) (hm : m = P.length + L.length) (hb' : b = P.length + L.length + R.length) (hlen : (P ++ (L ++ (R ++ Q))).length ≤ 900) :
  (bif (bo3 (decide (a < m)) (decide (m < b)) false) then ((qL.f (P ++ (L ++ (R ++ Q))) a m b q).bind fun r => K r b) else K (P ++ (L ++ (R ++ Q))) b) = K (P ++ (R ++ (L ++ Q))) b := by
 by_cases h1 : L = []
 ·
  subst h1
  simp only [List.length_nil] at hm
  rw [decide_eq_false (by omega), bo3_F, cond_false]
  rfl
 ·
  by_cases h2 : R = []
  ·
   subst h2
   simp only [List.length_nil] at hb'
   rw [decide_eq_false (p := m < b) (by omega), quD, Bool.and_false, cond_false]
   rfl
  ·
   have g1 : 0 < L.length := List.length_pos_iff.2 h1
   have g2 : 0 < R.length := List.length_pos_iff.2 h2
   rw [decide_eq_true (by omega), decide_eq_true (by omega), bo3_T, cond_true, qdU q h1 h2 hlen ha hm hb', Option.bind_some]
theorem symSearch (q : Query) (K : Int → Option (List Row)) {P L R Q : List Row} (hlen : (P ++ (L ++ (R ++ Q))).length ≤ 900) (hb : ∀ y ∈ L ++ R, Row_b y) (hL : Srt q L) (hR : Srt q R) (lo hi : Nat) (p : Nat) (h1 : P.length ≤ lo) (h2 : hi ≤ P.length + L.length) (hle : lo ≤ hi) (h3 : ∀ c, lo ≤ c → c < hi → P.length + L.length ≤ p - c ∧ c ≤ p ∧ p - c < P.length + L.length + R.length) (k : Nat) (hk : hi - lo < k) :
  ∃ t : Nat, lo ≤ t ∧ t ≤ hi ∧ qA.l4 (P ++ (L ++ (R ++ Q))) q K k lo hi p = K t ∧
   (∀ c, lo ≤ c → c < t → ∀ x y, L[c - P.length]? = some x → R[p - c - (P.length + L.length)]? = some y → aheadB q y x = false) ∧
   (∀ c, t ≤ c → c < hi → ∀ x y, L[c - P.length]? = some x → R[p - c - (P.length + L.length)]? = some y → aheadB q y x = true) := by
 simp only [List.length_append] at hlen
 have hL' : ∀ c, P.length ≤ c → c < P.length + L.length → ∃ y, L[c - P.length]? = some y ∧ y ∈ L ∧ getO (P ++ (L ++ (R ++ Q))) (c : Int) = some y := by
  intro c h1 h2
  have h3 : c - P.length < L.length := by omega
  refine ⟨L[c - P.length], List.getElem?_eq_getElem h3, List.getElem_mem h3, ?_⟩
  rw [qkK (by omega) (by omega)]
  exact List.getElem?_eq_getElem h3
 have hR' : ∀ c, P.length + L.length ≤ c → c < P.length + L.length + R.length → ∃ y, R[c - (P.length + L.length)]? = some y ∧ y ∈ R ∧ getO (P ++ (L ++ (R ++ Q))) (c : Int) = some y := by
  intro c h1 h2
  have h3 : c - (P.length + L.length) < R.length := by omega
  refine ⟨R[c - (P.length + L.length)], List.getElem?_eq_getElem h3, List.getElem_mem h3, ?_⟩
  rw [show P ++ (L ++ (R ++ Q)) = (P ++ L) ++ (R ++ Q) by simp, qkK (by simp only [List.length_append]; omega) (by simp only [List.length_append]; omega)]
  simp only [List.length_append]
  exact List.getElem?_eq_getElem h3
 obtain ⟨t, t1, t2, t3, t4, t5⟩ := bsearch (f := fun k i j => qA.l4 (P ++ (L ++ (R ++ Q))) q K k i j p) (K := K) (fun c => !aheadB q (R.getD (p - c - (P.length + L.length)) default) (L.getD (c - P.length) default)) lo hi
  (fun c c' g1 g2 g3 g4 => by
   obtain ⟨x, e1, _, _⟩ := hL' c (by omega) (by omega)
   obtain ⟨x', e2, _, _⟩ := hL' c' (by omega) (by omega)
   obtain ⟨u1, u2, u3⟩ := h3 c g1 (by omega)
   obtain ⟨v1, v2, v3⟩ := h3 c' (by omega) g3
   obtain ⟨y, f1, _, _⟩ := hR' (p - c) u1 u3
   obtain ⟨y', f2, _, _⟩ := hR' (p - c') v1 v3
   rw [List.getD_eq_getElem?_getD, f1, Option.getD_some, List.getD_eq_getElem?_getD, e1, Option.getD_some] at g4
   rw [List.getD_eq_getElem?_getD, f2, Option.getD_some, List.getD_eq_getElem?_getD, e2, Option.getD_some]
   cases hh : aheadB q y x with
   | false => rw [hh] at g4; cases g4
   | true => rw [hR.tr1 (by omega) f2 f1 (hL.tr2 (by omega) e1 e2 hh)]; rfl)
  (fun k i j g1 g2 g3 => by
   obtain ⟨u1, u2, u3⟩ := h3 ((i + j) / 2) (by omega) (by omega)
   obtain ⟨x, e1, hx, e2⟩ := hL' ((i + j) / 2) (by omega) (by omega)
   obtain ⟨y, f1, hy, f2⟩ := hR' (p - (i + j) / 2) u1 u3
   show qA.l4 _ q K (k + 1) i j p = _
   rw [qA.l4, decide_eq_true (by omega), cond_true, qXL (n := i + j) (by omega) (by omega), qJB (x := (p : Int) - _) (by omega), show (p : Int) - ((i + j) / 2 : Nat) = ((p - (i + j) / 2 : Nat) : Int) by omega, f2, Option.bind_some, e2, Option.bind_some, qIE y x q (hb y (by simp [hy])) (hb x (by simp [hx])), Option.bind_some, List.getD_eq_getElem?_getD, f1, Option.getD_some, List.getD_eq_getElem?_getD, e1, Option.getD_some, qw (by omega), qzB]
   cases aheadB q y x with
   | true => rw [if_pos rfl, decide_eq_true (by omega), Bool.not_true, cond_false, if_neg (by simp)]
   | false => rw [if_neg (by simp), decide_eq_false (by omega), Bool.not_false, cond_true, if_pos rfl])
  (fun k i => by
   show qA.l4 _ q K (k + 1) i i p = _
   rw [qA.l4, decide_eq_false (by omega), cond_false])
  k lo hi (Nat.le_refl _) hle (Nat.le_refl _) hk
 refine ⟨t, t1, t2, t3, fun c g1 g2 x y e f => ?_, fun c g1 g2 x y e f => ?_⟩
 ·
  have := t4 c g1 g2
  rw [List.getD_eq_getElem?_getD, f, Option.getD_some, List.getD_eq_getElem?_getD, e, Option.getD_some, Bool.not_eq_true'] at this
  exact this
 ·
  have := t5 c g1 g2
  rw [List.getD_eq_getElem?_getD, f, Option.getD_some, List.getD_eq_getElem?_getD, e, Option.getD_some, Bool.not_eq_false'] at this
  exact this
theorem qhV {R : Type} {c : Bool} {a1 a2 a3 a4 b1 b2 b3 b4 : Int} (k : Int → Int → Int → Int → Option R) : joinK k (fun K => bif c then K a1 a2 a3 a4 else K b1 b2 b3 b4) = k (bif c then a1 else b1) (bif c then a2 else b2) (bif c then a3 else b3) (bif c then a4 else b4) := by cases c <;> rfl
theorem symFin (self : List Row → Int → Int → Int → Query → Option (List Row)) (q : Query) {P L1 L2 R1 R2 Q : List Row} {a m b t mid e : Int} (ha : a = P.length) (ht : t = P.length + L1.length) (hm : m = t + L2.length) (hmid : mid = t + R1.length) (he : e = m + R1.length) (hb' : b = e + R2.length) (hlen : P.length + (L1.length + (L2.length + (R1.length + (R2.length + Q.length)))) ≤ 900)
  (hd' : Dst (L1 ++ L2 ++ (R1 ++ R2))) (hL' : Srt q (L1 ++ L2)) (hR' : Srt q (R1 ++ R2)) (i1 : ∀ x ∈ L1, ∀ y ∈ R2, aheadB q x y = true) (i2 : ∀ y ∈ R1, ∀ x ∈ L2, aheadB q y x = true)
  (ih1 : L1 ≠ [] → R1 ≠ [] → ∃ M, self (P ++ (L1 ++ (R1 ++ (L2 ++ (R2 ++ Q))))) a t mid q = some (P ++ (M ++ (L2 ++ (R2 ++ Q)))) ∧ M.Perm (L1 ++ R1) ∧ Srt q M)
  (ih2 : ∀ M1 : List Row, M1.length = L1.length + R1.length → L2 ≠ [] → R2 ≠ [] → ∃ M, self ((P ++ M1) ++ (L2 ++ (R2 ++ Q))) mid e b q = some ((P ++ M1) ++ (M ++ Q)) ∧ M.Perm (L2 ++ R2) ∧ Srt q M) :
  ∃ M, joinK (fun (y105 : List Row) (y106 : Int) => joinK (fun (y115 : List Row) =>
 bif (bo3 (decide (mid < y106)) (decide (y106 < b)) false) then (
 (self y115 mid y106 b q).bind fun r130 =>
 some r130)
 else (
 some y115)) (fun K116 =>
 bif (bo3 (decide (a < t)) (decide (t < mid)) false) then (
 (self y105 a t mid q).bind fun r123 =>
 K116 r123)
 else (
 K116 y105))) (fun K107 =>
 bif (bo3 (decide (t < m)) (decide (m < e)) false) then (
 (qL.f (P ++ L1 ++ (L2 ++ (R1 ++ (R2 ++ Q)))) t m e q).bind fun r114 =>
 K107 r114 e)
 else (
 K107 (P ++ L1 ++ (L2 ++ (R1 ++ (R2 ++ Q)))) e)) = some (P ++ (M ++ Q)) ∧ M.Perm (L1 ++ L2 ++ (R1 ++ R2)) ∧ Srt q M := by
 have sL := Srt.app.1 hL'
 have sR := Srt.app.1 hR'
 have perm : (L1 ++ L2 ++ (R1 ++ R2)).Perm ((L1 ++ R1) ++ (L2 ++ R2)) := by
  simp only [List.append_assoc]
  refine List.Perm.append_left L1 ?_
  rw [← List.append_assoc, ← List.append_assoc]
  exact List.Perm.append_right R2 List.perm_append_comm
 have lp1 : (P ++ L1).length = P.length + L1.length := List.length_append
 have rot := symRot q (P := P ++ L1) (L := L2) (R := R1) (Q := R2 ++ Q) (a := t) (m := m) (b := e) (fun (y105 : List Row) (y106 : Int) => joinK (fun (y115 : List Row) =>
 bif (bo3 (decide (mid < y106)) (decide (y106 < b)) false) then (
 (self y115 mid y106 b q).bind fun r130 =>
 some r130)
 else (
 some y115)) (fun K116 =>
 bif (bo3 (decide (a < t)) (decide (t < mid)) false) then (
 (self y105 a t mid q).bind fun r123 =>
 K116 r123)
 else (
 K116 y105))) (by omega) (by omega) (by omega) (by simp only [List.length_append]; omega)
 obtain ⟨M1, s1, p1, m1⟩ := symIf self q (P := P) (L := L1) (R := R1) (Q := L2 ++ (R2 ++ Q)) (a := a) (m := t) (b := mid) (fun y115 => bif (bo3 (decide (mid < e)) (decide (e < b)) false) then ((self y115 mid e b q).bind fun r130 => some r130) else (some y115)) ha (by omega) (by omega) sL.1 sR.1 ih1
 have lM : M1.length = L1.length + R1.length := by rw [p1.length_eq, List.length_append]
 have lpm : (P ++ M1).length = P.length + M1.length := List.length_append
 obtain ⟨M2, s2, p2, m2⟩ := symIf self q (P := P ++ M1) (L := L2) (R := R2) (Q := Q) (a := mid) (m := e) (b := b) (fun r => some r) (by omega) (by omega) (by omega) sL.2.1 sR.2.1 (ih2 M1 lM)
 refine ⟨M1 ++ M2, ?_, ?_, Srt.app.2 ⟨m1, m2, fun x hx y hy => ?_⟩⟩
 ·
  rw [quB]
  rw [rot, quB, List.append_assoc P L1]
  rw [s1, ← List.append_assoc P M1, s2]
  simp
 · exact (p1.append p2).trans perm.symm
 ·
  have hx := p1.mem_iff.1 hx
  have hy := p2.mem_iff.1 hy
  rcases List.mem_append.1 hx with hx | hx <;> rcases List.mem_append.1 hy with hy | hy
  · exact sL.2.2 x hx y hy
  · exact i1 x hx y hy
  · exact i2 x hx y hy
  · exact sR.2.2 x hx y hy
theorem symMid (self : List Row → Int → Int → Int → Query → Option (List Row)) (q : Query) {P L R Q : List Row} {a m b : Int} (hL1 : L.length ≠ 1) (hR1 : R.length ≠ 1) (hL0 : L ≠ []) (hR0 : R ≠ []) (ha : a = P.length) (hm : m = P.length + L.length) (hb' : b = P.length + L.length + R.length) (hlen : (P ++ (L ++ (R ++ Q))).length ≤ 900)
  (hb : ∀ y ∈ L ++ R, Row_b y) (hd : Dst (L ++ R)) (hL : Srt q L) (hR : Srt q R)
  (ih : ∀ P' L' R' Q' : List Row, L' ≠ [] → R' ≠ [] → L'.length + R'.length < L.length + R.length → (P' ++ (L' ++ (R' ++ Q'))).length ≤ 900 → (∀ y ∈ L' ++ R', y ∈ L ++ R) → Dst (L' ++ R') → Srt q L' → Srt q R' → ∀ a' m' b' : Int, a' = P'.length → m' = P'.length + L'.length → b' = P'.length + L'.length + R'.length →
   ∃ M, self (P' ++ (L' ++ (R' ++ Q'))) a' m' b' q = some (P' ++ (M ++ Q')) ∧ M.Perm (L' ++ R') ∧ Srt q M) :
  ∃ M, qA.b self (P ++ (L ++ (R ++ Q))) a m b q = some (P ++ (M ++ Q)) ∧ M.Perm (L ++ R) ∧ Srt q M := by
 have hlen' := hlen
 simp only [List.length_append] at hlen'
 have lL : 0 < L.length := List.length_pos_iff.2 hL0
 have lR : 0 < R.length := List.length_pos_iff.2 hR0
 unfold qA.b
 rw [quB, qJB (x := m - a) (by omega), decide_eq_false (by omega), cond_false, quB, qJB (x := b - m) (by omega), decide_eq_false (by omega), cond_false]
 obtain ⟨mid, hmid⟩ : ∃ mid : Nat, mid = (P.length + (P.length + L.length + R.length)) / 2 := ⟨_, rfl⟩
 rw [qXL (x := a + b) (n := P.length + (P.length + L.length + R.length)) (by omega) (by omega), ← hmid, qJB (x := (mid : Int) + m) (by omega), qJB (x := (mid : Int) + m - b) (by omega)]
 obtain ⟨lo, hi, hlo, hhi, hcase⟩ : ∃ lo hi : Nat, (if (mid : Int) < m then (mid : Int) + m - b else a) = lo ∧ (if (mid : Int) < m then (mid : Int) else m) = hi ∧ ((mid < P.length + L.length ∧ (lo : Int) = mid + m - b ∧ hi = mid) ∨ (P.length + L.length ≤ mid ∧ lo = P.length ∧ hi = P.length + L.length)) := by
  by_cases c : (mid : Int) < m
  · exact ⟨(mid + m - b).toNat, mid, by rw [if_pos c]; omega, by rw [if_pos c], .inl ⟨by omega, by omega, rfl⟩⟩
  · exact ⟨P.length, P.length + L.length, by rw [if_neg c]; omega, by rw [if_neg c]; omega, .inr ⟨by omega, rfl, rfl⟩⟩
 have q1 : ∀ x : Int, (bif decide ((mid : Int) < m) then x else x) = x := fun x => by cases decide ((mid : Int) < m) <;> rfl
 have q2 : (bif decide ((mid : Int) < m) then (mid : Int) + m - b else a) = lo := by rw [← hlo]; by_cases c : (mid : Int) < m <;> simp [c]
 have q3 : (bif decide ((mid : Int) < m) then (mid : Int) else m) = hi := by rw [← hhi]; by_cases c : (mid : Int) < m <;> simp [c]
 rw [qhV, q1, q1, q2, q3]
 rw [quB]
 have hp : w64 (((mid : Int) + m) - 1) = ((mid + (P.length + L.length) - 1 : Nat) : Int) := by rw [qJB (by omega)]; omega
 rw [hp]
 generalize hK : (fun (y77 : Int) => joinK (fun (y105 : List Row) (y106 : Int) => _) _) = K
 obtain ⟨t, t1, t2, t3, t4, t5⟩ := symSearch q K (Q := Q) hlen hb hL hR lo hi (mid + (P.length + L.length) - 1) (by omega) (by omega) (by omega) (fun c c1 c2 => by omega) (((hi : Int) - lo).toNat + 1) (by omega)
 rw [t3, ← hK]
 clear hK t3
 obtain ⟨L1, L2, eL, l1⟩ : ∃ L1 L2, L = L1 ++ L2 ∧ L1.length = t - P.length := ⟨L.take (t - P.length), L.drop (t - P.length), (List.take_append_drop ..).symm, by rw [List.length_take]; omega⟩
 obtain ⟨R1, R2, eR, r1⟩ : ∃ R1 R2, R = R1 ++ R2 ∧ R1.length = mid - t := ⟨R.take (mid - t), R.drop (mid - t), (List.take_append_drop ..).symm, by rw [List.length_take]; omega⟩
 have nL : L.length = L1.length + L2.length := by rw [eL, List.length_append]
 have nR : R.length = R1.length + R2.length := by rw [eR, List.length_append]
 obtain ⟨e, he⟩ : ∃ e : Nat, (e : Int) = mid + m - t := ⟨(mid + m - t).toNat, by omega⟩
 have aR : ∀ (i : Nat) y, R1[i]? = some y → R[i]? = some y := fun i y h => by rw [eR, List.getElem?_append_left (at_lt h)]; exact h
 have aR2 : ∀ (i : Nat) y, R2[i]? = some y → R[R1.length + i]? = some y := fun i y h => by rw [eR, List.getElem?_append_right (by omega), Nat.add_sub_cancel_left]; exact h
 have aL : ∀ (i : Nat) y, L1[i]? = some y → L[i]? = some y := fun i y h => by rw [eL, List.getElem?_append_left (at_lt h)]; exact h
 have aL2 : ∀ (i : Nat) y, L2[i]? = some y → L[L1.length + i]? = some y := fun i y h => by rw [eL, List.getElem?_append_right (by omega), Nat.add_sub_cancel_left]; exact h
 have i1 : ∀ x ∈ L1, ∀ y ∈ R2, aheadB q x y = true := fun x hx y hy => by
  obtain ⟨i, hi'⟩ := List.getElem?_of_mem hx
  obtain ⟨j, hj'⟩ := List.getElem?_of_mem hy
  have bi := at_lt hi'
  have bj := at_lt hj'
  have g1 : L[t - 1 - P.length]? = some (L[t - 1 - P.length]'(by omega)) := List.getElem?_eq_getElem (by omega)
  have g2 : R[mid + (P.length + L.length) - 1 - (t - 1) - (P.length + L.length)]? = some (R[mid + (P.length + L.length) - 1 - (t - 1) - (P.length + L.length)]'(by omega)) := List.getElem?_eq_getElem (by omega)
  have h := t4 (t - 1) (by omega) (by omega) _ _ g1 g2
  have hne := hd.app.2.2 _ (List.mem_of_getElem? g1) _ (List.mem_of_getElem? g2)
  have h2 := qzF (fun e => hne e.symm) h
  exact hR.tr2 (i := mid + (P.length + L.length) - 1 - (t - 1) - (P.length + L.length)) (by omega) g2 (aR2 j y hj') (hL.tr1 (by omega) (aL i x hi') g1 h2)
 have i2 : ∀ y ∈ R1, ∀ x ∈ L2, aheadB q y x = true := fun y hy x hx => by
  obtain ⟨i, hi'⟩ := List.getElem?_of_mem hx
  obtain ⟨j, hj'⟩ := List.getElem?_of_mem hy
  have bi := at_lt hi'
  have bj := at_lt hj'
  have g1 : L[t - P.length]? = some (L[t - P.length]'(by omega)) := List.getElem?_eq_getElem (by omega)
  have g2 : R[mid + (P.length + L.length) - 1 - t - (P.length + L.length)]? = some (R[mid + (P.length + L.length) - 1 - t - (P.length + L.length)]'(by omega)) := List.getElem?_eq_getElem (by omega)
  have h := t5 t (by omega) (by omega) _ _ g1 g2
  exact hR.tr1 (by omega) (aR j y hj') g2 (hL.tr2 (by omega) g1 (aL2 i x hi') h)
 have hL' := hL
 rw [eL] at hL'
 have hR' := hR
 rw [eR] at hR'
 have sL := Srt.app.1 hL'
 have sR := Srt.app.1 hR'
 have hd' := hd
 rw [eL, eR] at hd'
 have perm : (L1 ++ L2 ++ (R1 ++ R2)).Perm ((L1 ++ R1) ++ (L2 ++ R2)) := by
  simp only [List.append_assoc]
  refine List.Perm.append_left L1 ?_
  rw [← List.append_assoc, ← List.append_assoc]
  exact List.Perm.append_right R2 List.perm_append_comm
 have d2 := (hd'.perm perm).app
 have mem1 : ∀ y ∈ L1 ++ R1, y ∈ L ++ R := fun y hy => by rw [eL, eR]; simp at hy ⊢; rcases hy with h | h <;> simp [h]
 have mem2 : ∀ y ∈ L2 ++ R2, y ∈ L ++ R := fun y hy => by rw [eL, eR]; simp at hy ⊢; rcases hy with h | h <;> simp [h]
 have fin := symFin self q (P := P) (L1 := L1) (L2 := L2) (R1 := R1) (R2 := R2) (Q := Q) (a := a) (m := m) (b := b) (t := t) (mid := mid) (e := e) ha (by omega) (by omega) (by omega) (by omega) (by omega) (by omega) hd' hL' hR' i1 i2
  (fun h1 h2 => ih P L1 R1 (L2 ++ (R2 ++ Q)) h1 h2 (by omega) (by simp only [List.length_append]; omega) mem1 d2.1 sL.1 sR.1 a t mid ha (by omega) (by omega))
  (fun M1 lM h1 h2 => by
   have lpm : (P ++ M1).length = P.length + M1.length := List.length_append
   exact ih (P ++ M1) L2 R2 Q h1 h2 (by omega) (by simp only [List.length_append]; omega) mem2 d2.2.1 sL.2.1 sR.2.1 mid e b (by omega) (by omega) (by omega))
 dsimp only
 rw [qJB (x := (mid : Int) + m - t) (by omega), ← he]
 rw [show P ++ (L ++ (R ++ Q)) = (P ++ L1) ++ (L2 ++ (R1 ++ (R2 ++ Q))) by rw [eL, eR]; simp, eL, eR]
 exact fin
theorem qzS (q : Query) : ∀ (k : Nat) (P L R Q : List Row), L ≠ [] → R ≠ [] → L.length + R.length < k → (P ++ (L ++ (R ++ Q))).length ≤ 900 → (∀ y ∈ L ++ R, Row_b y) → Dst (L ++ R) → Srt q L → Srt q R → ∀ a m b : Int, a = P.length → m = P.length + L.length → b = P.length + L.length + R.length →
  ∃ M, qA.g k (P ++ (L ++ (R ++ Q))) a m b q = some (P ++ (M ++ Q)) ∧ M.Perm (L ++ R) ∧ Srt q M := by
 intro k
 induction k with
 | zero => intro P L R Q _ _ h; omega
 | succ k ih =>
  intro P L R Q hL0 hR0 hk hlen hb hd hL hR a m b ha hm hb'
  rw [qA.g]
  by_cases c1 : L.length = 1
  ·
   obtain ⟨x, rfl⟩ := List.length_eq_one_iff.1 c1
   simp only [List.length_cons, List.length_nil] at hm hb'
   exact symOne _ q ha hm hb' hlen hb hd hR
  ·
   by_cases c2 : R.length = 1
   ·
    obtain ⟨x, rfl⟩ := List.length_eq_one_iff.1 c2
    simp only [List.length_cons, List.length_nil] at hb'
    exact symLast _ q c1 ha hm hb' hlen hb hd hL
   · exact symMid _ q c1 c2 hL0 hR0 ha hm hb' hlen hb hd hL hR fun P' L' R' Q' h1 h2 h3 h4 h5 h6 h7 h8 a' m' b' g1 g2 g3 => ih P' L' R' Q' h1 h2 (by omega) h4 (fun y hy => hb y (h5 y hy)) h6 h7 h8 a' m' b' g1 g2 g3
theorem qZR (q : Query) {P L R Q : List Row} (hL0 : L ≠ []) (hR0 : R ≠ []) (hlen : (P ++ (L ++ (R ++ Q))).length ≤ 900) (hb : ∀ y ∈ L ++ R, Row_b y) (hd : Dst (L ++ R)) (hL : Srt q L) (hR : Srt q R) {a m b : Int} (ha : a = P.length) (hm : m = P.length + L.length) (hb' : b = P.length + L.length + R.length) :
  ∃ M, qA.f (P ++ (L ++ (R ++ Q))) a m b q = some (P ++ (M ++ Q)) ∧ M.Perm (L ++ R) ∧ Srt q M := by
 have hlen' := hlen
 simp only [List.length_append] at hlen'
 exact qzS q 1000 P L R Q hL0 hR0 (by omega) hlen hb hd hL hR a m b ha hm hb'
theorem qeU (q : Query) (l : List Row) (h : l.length ≤ 24) (hb : ∀ y ∈ l, Row_b y) (hd : Dst l) : ∃ M, qC.f l (l.length : Int) q = some M ∧ M.Perm l ∧ Srt q M := by
 unfold qC.f
 rw [quB]
 by_cases h20 : l.length < 20
 ·
  obtain ⟨S, e1, e2, e3⟩ := qdJ (a1 := 0) (a2 := l.length) q (P := []) (T := l) (R := []) rfl (by simp) (by simp; omega) hb hd
  rw [show ((l.length : Int) - 20).toNat + 2 = 1 + 1 by omega, qC.l0, decide_eq_false (by omega), cond_false]
  simp only [List.nil_append, List.append_nil] at e1
  rw [e1, Option.bind_some, qC.l1, decide_eq_false (by omega), cond_false]
  exact ⟨S, rfl, e2, e3⟩
 ·
  obtain ⟨A, B, rfl, lA⟩ : ∃ A B, l = A ++ B ∧ A.length = 20 := ⟨l.take 20, l.drop 20, (List.take_append_drop ..).symm, by rw [List.length_take]; omega⟩
  rw [List.length_append] at h
  have lAB : (A ++ B).length = A.length + B.length := List.length_append
  obtain ⟨S, e1, e2, e3⟩ := qdJ (a1 := 0) (a2 := 20) q (P := []) (T := A) (R := B) rfl (by simp only [List.length_nil]; omega) (by simp only [List.length_append, List.length_nil]; omega) (fun y hy => hb y (by simp [hy])) hd.app.1
  have lS : S.length = 20 := by rw [e2.length_eq, lA]
  obtain ⟨S', f1, f2, f3⟩ := qdJ (a1 := 20) (a2 := (A ++ B).length) q (P := S) (T := B) (R := []) (by omega) (by omega) (by simp only [List.length_append, List.length_nil]; omega) (fun y hy => hb y (by simp [hy])) hd.app.2.1
  have lS' : S'.length = B.length := f2.length_eq
  have p : (S ++ S').Perm (A ++ B) := e2.append f2
  rw [qC.l0, decide_eq_true (by omega), cond_true]
  simp only [List.nil_append] at e1
  rw [e1, Option.bind_some, qJB (by omega), show (((A ++ B).length : Int) - 20).toNat + 1 = (((A ++ B).length : Int) - 20).toNat + 1 from rfl, qC.l0, decide_eq_false (by omega), cond_false]
  simp only [List.append_nil] at f1
  rw [f1, Option.bind_some, qC.l1]
  by_cases hB : B = []
  ·
   subst hB
   simp only [List.length_nil] at lAB
   rw [decide_eq_false (by omega), cond_false]
   obtain rfl := List.length_eq_zero_iff.1 lS'
   exact ⟨S ++ [], rfl, p, by rw [List.append_nil]; exact e3⟩
  ·
   have gB : 0 < B.length := List.length_pos_iff.2 hB
   rw [decide_eq_true (by omega), cond_true, quB, qJB (x := 2 * 20) (by omega)]
   rw [show (((A ++ B).length : Int) - 2 * 20).toNat + 2 = 1 + 1 by omega, qC.l2, decide_eq_false (by omega), cond_false]
   obtain ⟨M, g1, g2, g3⟩ := qZR q (P := []) (L := S) (R := S') (Q := []) (by rintro rfl; simp at lS) (by rintro rfl; simp at lS'; omega) (by simp only [List.length_append, List.length_nil]; omega) (fun y hy => hb y (p.mem_iff.1 hy)) (hd.perm p.symm) e3 f3 (a := 0) (m := 20) (b := (A ++ B).length) rfl (by simp only [List.length_nil]; omega) (by simp only [List.length_nil]; omega)
   simp only [List.nil_append, List.append_nil] at g1
   rw [qJB (x := 0 + 20) (by omega), show (0 : Int) + 20 = 20 from rfl, decide_eq_true (by omega), cond_true, g1, Option.bind_some, show (((A ++ B).length : Int) - 20).toNat = ((((A ++ B).length : Int) - 20).toNat - 1) + 1 by omega, qC.l1, qJB (x := 20 * 2) (by omega), decide_eq_false (by omega), cond_false]
   exact ⟨M, rfl, g2.trans p, g3⟩
theorem qDP (q : Query) (l : List Row) (h : l.length ≤ 24) (hb : ∀ y ∈ l, Row_b y) (hd : Dst l) : ∃ M, qAB.f l q = some M ∧ M.Perm l ∧ Srt q M := by
 unfold qAB.f
 obtain ⟨M, e1, e2, e3⟩ := qeU q l h hb hd
 rw [qG, e1]
 exact ⟨M, rfl, e2, e3⟩
theorem qiV {s : Schema} {t : Int} {rows : List Row} (h : rowsB s t rows = true) : rows.Pairwise fun a b => a.Id < b.Id := by
 unfold rowsB at h
 rw [Bool.and_eq_true] at h
 have h1 : ∀ i, ∀ (hi : i + 1 < rows.length), rows[i].Id < rows[i + 1].Id := fun i hi => by
  have := qQH.1 h.1 (i + 1) rows[i + 1] (List.getElem?_eq_getElem hi)
  rw [Bool.and_eq_true] at this
  have h2 := this.2
  rw [decide_eq_true (by omega), Bool.true_and, Bool.not_eq_true', decide_eq_false_iff_not, List.getD_eq_getElem?_getD, Nat.add_sub_cancel, List.getElem?_eq_getElem (by omega), Option.getD_some] at h2
  omega
 refine List.pairwise_iff_getElem.2 fun i j hi hj hij => ?_
 have : ∀ d, ∀ (hd : i + d + 1 < rows.length), rows[i].Id < rows[i + d + 1].Id := fun d => by
  induction d with
  | zero => intro hd; exact h1 i hd
  | succ d ih => intro hd; have a := ih (by omega); have b := h1 (i + d + 1) hd; exact Int.lt_trans a b
 have e : i + (j - i - 1) + 1 = j := by omega
 have := this (j - i - 1) (by omega)
 simpa only [e] using this
theorem qjV (q : Query) (l : List Row) (r : Row) : (putF q l r).Perm (l ++ [r]) := by
 unfold putF
 have : ((l.take (l.findIdx (aheadB q r)) ++ [r]) ++ l.drop (l.findIdx (aheadB q r))).Perm (l.take (l.findIdx (aheadB q r)) ++ (l.drop (l.findIdx (aheadB q r)) ++ [r])) := by
  rw [List.append_assoc]; exact List.Perm.append_left _ List.perm_append_comm
 rwa [← List.append_assoc, List.take_append_drop] at this
theorem qlW {q : Query} {l : List Row} {r : Row} (h : Srt q l) (hd : ∀ x ∈ l, x.Id ≠ r.Id) : Srt q (putF q l r) := by
 unfold putF
 have h' := h
 rw [← List.take_append_drop (l.findIdx (aheadB q r)) l] at h'
 obtain ⟨h1, h2, h3⟩ := Srt.app.1 h'
 have a1 : ∀ x ∈ l.take (l.findIdx (aheadB q r)), aheadB q x r = true := fun x hx => by
  obtain ⟨i, hi⟩ := List.getElem?_of_mem hx
  have hl := at_lt hi
  rw [List.length_take] at hl
  have hi2 : i < l.length := by omega
  rw [List.getElem?_take, if_pos (by omega), List.getElem?_eq_getElem hi2] at hi
  have := List.not_of_lt_findIdx (xs := l) (p := aheadB q r) (i := i) (by omega)
  cases hi
  exact qzF (fun e => hd _ (List.getElem_mem hi2) e.symm) (by simpa using this)
 have a2 : ∀ x ∈ l.drop (l.findIdx (aheadB q r)), aheadB q r x = true := fun x hx => by
  obtain ⟨i, hi⟩ := List.getElem?_of_mem hx
  rw [List.getElem?_drop] at hi
  have hl := at_lt hi
  have g := List.findIdx_getElem (xs := l) (p := aheadB q r) (w := by omega)
  exact h.tr2 (Nat.le_add_right _ i) (List.getElem?_eq_getElem (by omega)) hi g
 rw [List.append_assoc]
 exact Srt.app.2 ⟨h1, List.pairwise_cons.2 ⟨a2, h2⟩, fun x hx y hy => by
  rcases List.mem_cons.1 hy with rfl | hy
  · exact a1 x hx
  · exact h3 x hx y hy⟩
theorem qEP {q : Query} : ∀ (rows acc : List Row), Srt q acc → Dst (acc ++ rows) → Srt q (rowsFold q rows acc) ∧ (rowsFold q rows acc).Perm (acc ++ rows.filter (matchesB q))
 | [], acc, h, _ => ⟨h, by simp [rowsFold]⟩
 | r :: rows, acc, h, hd => by
  have hd' : Dst (acc ++ [r] ++ rows) := by simpa using hd
  have e : rowsFold q (r :: rows) acc = rowsFold q rows (if matchesB q r = true then putF q acc r else acc) := rfl
  rw [e]
  by_cases hm : matchesB q r = true
  ·
   rw [if_pos hm, List.filter_cons_of_pos hm]
   have p := qjV q acc r
   obtain ⟨g1, g2⟩ := qEP rows (putF q acc r) (qlW h fun x hx => (hd'.app.1).app.2.2 x hx r (by simp)) (hd'.perm (p.symm.append_right rows))
   exact ⟨g1, g2.trans (by simpa using p.append_right (rows.filter (matchesB q)))⟩
  ·
   rw [if_neg hm, List.filter_cons_of_neg hm]
   have : Dst (acc ++ rows) := by
    refine List.Pairwise.sublist ?_ hd
    exact List.Sublist.append_left (List.sublist_cons_self r rows) acc
   exact qEP rows acc h this
theorem qxL (q : Query) (hq : qcG q.Where) (rows : List Row) (hl : rows.length ≤ 24) (hr : ∀ r ∈ rows, Row_b r ∧ qKC r ≤ 4) (K : List Row → Option (List Row)) : ∀ (k i : Nat) (acc : List Row), i ≤ rows.length → rows.length < i + k → acc.length ≤ i → qYC.l0 q rows K k acc i = K (acc ++ (rows.drop i).filter (matchesB q)) := by
 intro k
 induction k with
 | zero => intro i acc h h'; omega
 | succ k ih =>
  intro i acc h h' ha
  rw [qYC.l0, qG]
  by_cases hi : i < rows.length
  ·
   obtain ⟨b1, z1⟩ := hr _ (List.getElem_mem hi)
   rw [decide_eq_true (by omega), cond_true, qg, List.getElem?_eq_getElem hi, Option.bind_some, qhK (qvL q _ hq b1), List.drop_eq_getElem_cons hi, qw (by omega)]
   cases hm : matchesB q rows[i] with
   | true =>
    rw [cond_true, qhK (qwL _ (by omega)), Option.bind_some, qiC (by simp only [List.length_cons, List.length_nil]; omega), Option.bind_some, List.filter_cons_of_pos hm, ih (i + 1) _ (by omega) (by omega) (by simp only [List.length_append, List.length_cons, List.length_nil]; omega)]
    simp
   | false =>
    rw [cond_false, List.filter_cons_of_neg (by simp [hm])]
    exact ih (i + 1) _ (by omega) (by omega) (by omega)
  ·
   rw [decide_eq_false (by omega), cond_false, List.drop_eq_nil_of_le (by omega)]
   simp
theorem qyL (s : Store) (q : Query) (hs : Store_b s) (hq : Query_b q) : qYC.f s q = some (rowsForF s q) := by
 unfold qYC.f rowsForF
 rw [qxF _ hs, Option.bind_some, qyF _ _ hs.1 hq]
 cases h1 : storeB s with
 | false => rfl
 | true =>
  cases h2 : queryB s.Schema q with
  | false => rfl
  | true =>
   simp only [qzB, Bool.not_true, Bool.not_false, bo3_F, bo3_T, qdC, Option.bind_some, cond_false, Bool.true_and, if_true]
   obtain ⟨t1, t2⟩ := qiI h2
   have hl := (quH h1).1
   have ht : q.Table.toNat < s.Tables.length := by omega
   have hrows := qbJ h1 ht
   have hlen := qKI hrows
   rw [quB, show getO s.Tables q.Table = some (tableOf s q.Table) from qPL (by omega), Option.bind_some]
   rw [Int.toNat_of_nonneg t1] at hrows hlen
   have hr : ∀ r ∈ tableOf s q.Table, Row_b r ∧ qKC r ≤ 4 := fun r hr => by
    obtain ⟨i, hi⟩ := List.getElem?_of_mem hr
    have z := qwO (qJI hrows hi)
    exact ⟨by unfold Row_b qqH; unfold qKC qAD at z; omega, z⟩
   have hd : Dst (tableOf s q.Table) := (qiV hrows).imp fun h e => by omega
   have e := qxL q hq.1 (tableOf s q.Table) hlen hr (fun y11 => (qAB.f y11 q).bind fun r36 => some r36) (((lenI (tableOf s q.Table)) - 0).toNat + 1) 0 [] (by omega) (by rw [qG]; omega) (by simp)
   rw [List.drop_zero, List.nil_append] at e
   have hfd : Dst ((tableOf s q.Table).filter (matchesB q)) := List.Pairwise.sublist List.filter_sublist hd
   obtain ⟨M, m1, m2, m3⟩ := qDP q ((tableOf s q.Table).filter (matchesB q)) (Nat.le_trans (List.length_filter_le ..) hlen) (fun y hy => (hr y (List.mem_filter.1 hy).1).1) hfd
   obtain ⟨g1, g2⟩ := qEP (q := q) (tableOf s q.Table) [] List.Pairwise.nil (by simpa using hd)
   rw [List.nil_append] at g2
   have : M = rowsFold q (tableOf s q.Table) [] := m3.unique g1 (m2.trans g2.symm)
   refine e.trans ?_
   rw [m1, Option.bind_some, this]
theorem qEN (s : Store) (q : Query) (id : Int) (hs : Store_b s) (hq : Query_b q) : qgC.f s q id = some (kidsOfF s q id) := by
 unfold qgC.f kidsOfF
 rw [qxF _ hs, Option.bind_some, qyF _ _ hs.1 hq]
 cases h1 : storeB s with
 | false => rfl
 | true =>
  cases h2 : queryB s.Schema q with
  | false => rfl
  | true =>
   cases h3 : q.Kids with
   | false => rfl
   | true =>
    simp only [bo3_F, bo3_T, qdC, Option.bind_some, cond_false, Bool.true_and, if_true]
    obtain ⟨hk1, hk2⟩ := qxN h2 h3
    obtain ⟨hl1, hl2⟩ := quH h1
    have hcol := qyN hl2 hk1
    rw [qJB (by omega)] at hk2
    rw [show getO s.Tables q.KidTable = some (s.Tables.getD q.KidTable.toNat []) from qPL (by omega), Option.bind_some]
    have hat : s.Tables[q.KidTable.toNat]? = some (s.Tables.getD q.KidTable.toNat []) := by
     rw [List.getD_eq_getElem?_getD, List.getElem?_eq_getElem (by omega)]; rfl
    have hrows := qhI h1 hat
    have hlen := qKI hrows
    generalize s.Tables.getD q.KidTable.toNat [] = rows at *
    have key2 : ∀ (k i : Nat) (n : Int), i ≤ rows.length → rows.length < i + k → 0 ≤ n → n ≤ i → qgC.l0 q id rows k n i = some (countC q.KidCol.toNat id (rows.drop i) n) := by
     intro k
     induction k with
     | zero => intro i n h h'; omega
     | succ k ih =>
      intro i n h h' hn hni
      by_cases hi : i < rows.length
      ·
       have hx : rows[i]? = some rows[i] := List.getElem?_eq_getElem hi
       have hc := qjL (qJI hrows hx)
       rw [show ((q.KidTable.toNat : Nat) : Int) = q.KidTable from by omega] at hc
       rw [qgC.l0, qG, decide_eq_true (by omega), cond_true, qg, hx, Option.bind_some, qPE (by omega), Option.bind_some, List.drop_eq_getElem_cons hi, countC, qw (by omega)]
       by_cases e : (rows[i]).Cells.getD q.KidCol.toNat 0 = id
       ·
        rw [decide_eq_true e, cond_true, if_pos e, qJB (by omega)]
        exact ih (i + 1) (n + 1) (by omega) (by omega) (by omega) (by omega)
       ·
        rw [decide_eq_false e, cond_false, if_neg e]
        exact ih (i + 1) n (by omega) (by omega) hn (by omega)
      · rw [qgC.l0, qG, decide_eq_false (by omega), cond_false, List.drop_eq_nil_of_le (by omega), countC]
    have := key2 (((lenI rows) - 0).toNat + 1) 0 0 (by omega) (by simp only [qG]; omega) (by omega) (by omega)
    rw [List.drop_zero] at this
    exact this
theorem qXQ (s : Store) (q : Query) (hs : Store_b s) (hq : Query_b q) (hc : In64 q.Show) (hl : q.Show.length ≤ 2097152) : qND.f s q = some (evalF s q) := by
 unfold qND.f evalF
 rw [qxF _ hs, Option.bind_some, qyF _ _ hs.1 hq]
 cases h1 : storeB s with
 | false => rfl
 | true =>
  cases h2 : queryB s.Schema q with
  | false => rfl
  | true =>
   simp only [qzB, Bool.not_true, Bool.not_false, bo3_F, bo3_T, qdC, Option.bind_some, cond_false, Bool.true_and, if_true]
   obtain ⟨g1, _, g3⟩ := qGJ s q
   rw [qyL s q hs hq, Option.bind_some, quB]
   generalize rowsForF s q = R at *
   have hD := qzO q R (R.map fun r => kidsOfF s q r.Id) hc hl g3 (by omega) (by rw [List.length_map]; omega)
   have e := qxO (f := qND.l0 s q R (fun y => (qCF.f q R y).bind fun r => some r)) (l := R) (fun r => kidsOfF s q r.Id) (fun y => (qCF.f q R y).bind fun r => some r) (fun k i acc x hx ha => ?_) (fun k i acc hi => ?_) (((lenI R) - 0).toNat + 1) 0 [] (by omega) (by rw [qG]; omega) (by simp)
   ·
    rw [List.drop_zero, List.nil_append, hD] at e
    exact e
   ·
    have hi := at_lt hx
    rw [qND.l0, qG, decide_eq_true (by omega), cond_true, qg, hx, Option.bind_some, qEN s q _ hs hq, Option.bind_some, Option.bind_some, qiC (by simp only [List.length_cons, List.length_nil]; omega), Option.bind_some, qw (by omega)]
   · rw [qND.l0, qG, decide_eq_false (by omega), cond_false]
theorem qgG (a b : List Int) (ha : qqH a) (hb : qqH b) : qOC.f a b = some (decide (a = b)) := by
 unfold qqH at ha hb
 unfold qOC.f
 by_cases hl : a.length = b.length
 ·
  rw [decide_eq_false (by simp only [qG]; omega), cond_false]
  refine (qVJ (f := qOC.l0 a b) hl (some false) (some true) (fun k i x y hx hy => ?_) (fun k i hi => ?_) _ (by simp only [qG]; omega)).trans ?_
  ·
   have hi := at_lt hx
   rw [qOC.l0, qG, decide_eq_true (by omega), cond_true, qg, hx, Option.bind_some, qg, hy, Option.bind_some, qw (by omega)]
   by_cases c : x = y
   · simp [c]
   · simp [c]
  · rw [qOC.l0, qG, decide_eq_false (by omega), cond_false]
  · cases decide (a = b) <;> rfl
 · rw [decide_eq_true (by simp only [qG]; omega), cond_true, decide_eq_false (fun e => hl (by rw [e]))]
theorem qRK (a b : Schema) (ha : qqD a) (hb : qqD b) : qsE.f a b = some (decide (a = b)) := by
 have ha_Cols := ha
 have hb_Cols := hb
 unfold qsE.f
 rw [qgG _ _ ha_Cols hb_Cols, Option.bind_some]
 by_cases c_Cols : a.Cols = b.Cols
 case neg => rw [decide_eq_false c_Cols, show bo3 false false true = true from rfl, cond_true, decide_eq_false (fun e => c_Cols (by rw [e]))]
 rw [decide_eq_true c_Cols, show bo3 true false true = false from rfl, cond_false]
 rw [decide_eq_true (by cases a; cases b; simp_all)]
theorem qFP (a b : Row) (ha : Row_b a) (hb : Row_b b) : qBH.f a b = some (decide (a = b)) := by
 have ha_Cells := ha
 have hb_Cells := hb
 unfold qBH.f
 by_cases c_Id : a.Id = b.Id
 case neg => rw [decide_eq_true c_Id, cond_true, decide_eq_false (fun e => c_Id (by rw [e]))]
 rw [decide_eq_false (fun e => e c_Id), cond_false]
 rw [qgG _ _ ha_Cells hb_Cells, Option.bind_some]
 by_cases c_Cells : a.Cells = b.Cells
 case neg => rw [decide_eq_false c_Cells, show bo3 false false true = true from rfl, cond_true, decide_eq_false (fun e => c_Cells (by rw [e]))]
 rw [decide_eq_true c_Cells, show bo3 true false true = false from rfl, cond_false]
 rw [decide_eq_true (by cases a; cases b; simp_all)]
theorem qFN (a b : List Row) (ha : RowS_b a) (hb : RowS_b b) : qqC.f a b = some (decide (a = b)) := by
 obtain ⟨ha, ha2⟩ := ha
 obtain ⟨hb, hb2⟩ := hb
 unfold qqC.f
 by_cases hl : a.length = b.length
 ·
  rw [decide_eq_false (by simp only [qG]; omega), cond_false]
  refine (qVJ (f := qqC.l0 a b) hl (some false) (some true) (fun k i x y hx hy => ?_) (fun k i hi => ?_) _ (by simp only [qG]; omega)).trans ?_
  ·
   have hi := at_lt hx
   rw [qqC.l0, qG, decide_eq_true (by omega), cond_true, qg, hx, Option.bind_some, qg, hy, Option.bind_some, qFP x y (ha2 x (List.mem_of_getElem? hx)) (hb2 y (List.mem_of_getElem? hy)), Option.bind_some, qzB, qw (by omega)]
   by_cases c : x = y
   · simp [c]
   · simp [c]
  · rw [qqC.l0, qG, decide_eq_false (by omega), cond_false]
  · cases decide (a = b) <;> rfl
 · rw [decide_eq_true (by simp only [qG]; omega), cond_true, decide_eq_false (fun e => hl (by rw [e]))]
theorem qzL (a b : List (List Row)) (ha : qhO a) (hb : qhO b) : qZC.f a b = some (decide (a = b)) := by
 obtain ⟨ha, ha2⟩ := ha
 obtain ⟨hb, hb2⟩ := hb
 unfold qZC.f
 by_cases hl : a.length = b.length
 ·
  rw [decide_eq_false (by simp only [qG]; omega), cond_false]
  refine (qVJ (f := qZC.l0 a b) hl (some false) (some true) (fun k i x y hx hy => ?_) (fun k i hi => ?_) _ (by simp only [qG]; omega)).trans ?_
  ·
   have hi := at_lt hx
   rw [qZC.l0, qG, decide_eq_true (by omega), cond_true, qg, hx, Option.bind_some, qg, hy, Option.bind_some, qFN x y (ha2 x (List.mem_of_getElem? hx)) (hb2 y (List.mem_of_getElem? hy)), Option.bind_some, qzB, qw (by omega)]
   by_cases c : x = y
   · simp [c]
   · simp [c]
  · rw [qZC.l0, qG, decide_eq_false (by omega), cond_false]
  · cases decide (a = b) <;> rfl
 · rw [decide_eq_true (by simp only [qG]; omega), cond_true, decide_eq_false (fun e => hl (by rw [e]))]
theorem qAM (a b : Store) (ha : Store_b a) (hb : Store_b b) : qeE.f a b = some (decide (a = b)) := by
 obtain ⟨ha_Schema, ha_Tables⟩ := ha
 obtain ⟨hb_Schema, hb_Tables⟩ := hb
 unfold qeE.f
 rw [qRK _ _ ha_Schema hb_Schema, Option.bind_some]
 by_cases c_Schema : a.Schema = b.Schema
 case neg => rw [decide_eq_false c_Schema, show bo3 false false true = true from rfl, cond_true, decide_eq_false (fun e => c_Schema (by rw [e]))]
 rw [decide_eq_true c_Schema, show bo3 true false true = false from rfl, cond_false]
 by_cases c_Version : a.Version = b.Version
 case neg => rw [decide_eq_true c_Version, cond_true, decide_eq_false (fun e => c_Version (by rw [e]))]
 rw [decide_eq_false (fun e => e c_Version), cond_false]
 rw [qzL _ _ ha_Tables hb_Tables, Option.bind_some]
 by_cases c_Tables : a.Tables = b.Tables
 case neg => rw [decide_eq_false c_Tables, show bo3 false false true = true from rfl, cond_true, decide_eq_false (fun e => c_Tables (by rw [e]))]
 rw [decide_eq_true c_Tables, show bo3 true false true = false from rfl, cond_false]
 rw [decide_eq_true (by cases a; cases b; simp_all)]
theorem qGN (a b : Cond) : quF.f a b = some (decide (a = b)) := by
 unfold quF.f
 by_cases c_Col : a.Col = b.Col
 case neg => rw [decide_eq_true c_Col, cond_true, decide_eq_false (fun e => c_Col (by rw [e]))]
 rw [decide_eq_false (fun e => e c_Col), cond_false]
 by_cases c_Op : a.Op = b.Op
 case neg => rw [decide_eq_true c_Op, cond_true, decide_eq_false (fun e => c_Op (by rw [e]))]
 rw [decide_eq_false (fun e => e c_Op), cond_false]
 by_cases c_V : a.V = b.V
 case neg => rw [decide_eq_true c_V, cond_true, decide_eq_false (fun e => c_V (by rw [e]))]
 rw [decide_eq_false (fun e => e c_V), cond_false]
 rw [decide_eq_true (by cases a; cases b; simp_all)]
theorem qBM (a b : List Cond) (ha : qcG a) (hb : qcG b) : qaC.f a b = some (decide (a = b)) := by
 unfold qcG at ha hb
 unfold qaC.f
 by_cases hl : a.length = b.length
 ·
  rw [decide_eq_false (by simp only [qG]; omega), cond_false]
  refine (qVJ (f := qaC.l0 a b) hl (some false) (some true) (fun k i x y hx hy => ?_) (fun k i hi => ?_) _ (by simp only [qG]; omega)).trans ?_
  ·
   have hi := at_lt hx
   rw [qaC.l0, qG, decide_eq_true (by omega), cond_true, qg, hx, Option.bind_some, qg, hy, Option.bind_some, qGN x y, Option.bind_some, qzB, qw (by omega)]
   by_cases c : x = y
   · simp [c]
   · simp [c]
  · rw [qaC.l0, qG, decide_eq_false (by omega), cond_false]
  · cases decide (a = b) <;> rfl
 · rw [decide_eq_true (by simp only [qG]; omega), cond_true, decide_eq_false (fun e => hl (by rw [e]))]
theorem qCM (a b : Query) (ha : Query_b a) (hb : Query_b b) : qfE.f a b = some (decide (a = b)) := by
 obtain ⟨ha_Where, ha_Show⟩ := ha
 obtain ⟨hb_Where, hb_Show⟩ := hb
 unfold qfE.f
 by_cases c_Table : a.Table = b.Table
 case neg => rw [decide_eq_true c_Table, cond_true, decide_eq_false (fun e => c_Table (by rw [e]))]
 rw [decide_eq_false (fun e => e c_Table), cond_false]
 rw [qBM _ _ ha_Where hb_Where, Option.bind_some]
 by_cases c_Where : a.Where = b.Where
 case neg => rw [decide_eq_false c_Where, show bo3 false false true = true from rfl, cond_true, decide_eq_false (fun e => c_Where (by rw [e]))]
 rw [decide_eq_true c_Where, show bo3 true false true = false from rfl, cond_false]
 by_cases c_Order : a.Order = b.Order
 case neg => rw [decide_eq_true c_Order, cond_true, decide_eq_false (fun e => c_Order (by rw [e]))]
 rw [decide_eq_false (fun e => e c_Order), cond_false]
 by_cases c_Down : a.Down = b.Down
 case neg => rw [show bo3 a.Down (bo3 b.Down false true) b.Down = true from by revert c_Down; cases a.Down <;> cases b.Down <;> simp [bo3], cond_true, decide_eq_false (fun e => c_Down (by rw [e]))]
 rw [show bo3 a.Down (bo3 b.Down false true) b.Down = false from by rw [c_Down]; cases b.Down <;> rfl, cond_false]
 by_cases c_First : a.First = b.First
 case neg => rw [decide_eq_true c_First, cond_true, decide_eq_false (fun e => c_First (by rw [e]))]
 rw [decide_eq_false (fun e => e c_First), cond_false]
 rw [qgG _ _ ha_Show hb_Show, Option.bind_some]
 by_cases c_Show : a.Show = b.Show
 case neg => rw [decide_eq_false c_Show, show bo3 false false true = true from rfl, cond_true, decide_eq_false (fun e => c_Show (by rw [e]))]
 rw [decide_eq_true c_Show, show bo3 true false true = false from rfl, cond_false]
 by_cases c_Kids : a.Kids = b.Kids
 case neg => rw [show bo3 a.Kids (bo3 b.Kids false true) b.Kids = true from by revert c_Kids; cases a.Kids <;> cases b.Kids <;> simp [bo3], cond_true, decide_eq_false (fun e => c_Kids (by rw [e]))]
 rw [show bo3 a.Kids (bo3 b.Kids false true) b.Kids = false from by rw [c_Kids]; cases b.Kids <;> rfl, cond_false]
 by_cases c_KidTable : a.KidTable = b.KidTable
 case neg => rw [decide_eq_true c_KidTable, cond_true, decide_eq_false (fun e => c_KidTable (by rw [e]))]
 rw [decide_eq_false (fun e => e c_KidTable), cond_false]
 by_cases c_KidCol : a.KidCol = b.KidCol
 case neg => rw [decide_eq_true c_KidCol, cond_true, decide_eq_false (fun e => c_KidCol (by rw [e]))]
 rw [decide_eq_false (fun e => e c_KidCol), cond_false]
 rw [decide_eq_true (by cases a; cases b; simp_all)]
def qFW (x : Int) (q q' : Int) : Prop := x = q ∧ q' = q + 1
theorem qDM (l : List Int) (q : Int) (hq : 0 ≤ q) (hB : q + 16 * qAD l ≤ 4611686018427387904) : ∃ l' q', qjB.f l q = some (l', q') ∧ True ∧ q ≤ q' ∧ q' ≤ q + 16 * qAD l := by
 unfold qAD at hB
 have hz : (l.length : Int) ≤ 288230376151711744 := by omega
 have step : ∀ k (i : Nat) (s : List Int) (x : Int) (q : Int), s.length = l.length → s[i]? = some x → 0 ≤ q → q + (fun _ => 16 * (1 + 0)) x ≤ 4611686018427387904 → ∃ x' q', qjB.l0 (k + 1) s q i = qjB.l0 k (s.set i x') q' ((i + 1 : Nat) : Int) ∧ q ≤ q' ∧ q' ≤ q + (fun _ => 16 * (1 + 0)) x ∧ qFW x' q q' := by
  intro k i s x q hn hx hq hB
  have hi := at_lt hx
  have g0 : getO s i = some x := by rw [qg, hx]
  have hB : q + 16 * (1 + 0) ≤ 4611686018427387904 := hB
  have w0 : w64 (q + 1) = q + 1 := qJB (by omega)
  refine ⟨(q), q + 1, ?_, by omega, ?_, ⟨rfl, rfl⟩⟩
  ·
   rw [qjB.l0, qG, decide_eq_true (by omega), cond_true]
   simp only [g0, qJL g0, qpH, Option.bind_some, w0]
   rw [qw (by omega), qlE]
  · show _ ≤ q + 16 * (1 + 0); omega
 have last : ∀ k (s : List Int) (q : Int) (i : Nat), i = s.length → qjB.l0 (k + 1) s q i = some (s, q) := by
  intro k s q i hi
  rw [qjB.l0, qG, decide_eq_false (by omega), cond_false]
 obtain ⟨l', q', m, hl, _, lo, hi, hd⟩ := qqF (fm := qjB.l0) l.length 4611686018427387904 (fun _ => 16 * (1 + 0)) qFW (fun _ => by decide) step last (((lenI l) - 0).toNat + 1) 0 l q rfl (by omega) (by simp only [qG]; omega) hq (by rw [List.drop_zero, sum_0]; omega)
 refine ⟨l', q', m, ?_, lo, ?_⟩
 · trivial
 · rw [List.drop_zero, sum_0] at hi; unfold qAD; omega
theorem qaR (x : Schema) (q : Int) (hq : 0 ≤ q) (hB : q + 16 * qWD x ≤ 4611686018427387904) : ∃ s0 q', qwD.f x q = some ((Schema.mk s0), q') ∧ True ∧ q ≤ q' ∧ q' ≤ q + 16 * qWD x := by
 unfold qWD at hB ⊢
 have p_Cols := qjD x.Cols
 obtain ⟨s0, q0, m0, d0, a0, b0⟩ := qDM x.Cols q (by omega) (by omega)
 have n0 : ¬ q0 < 0 := by omega
 refine ⟨s0, q0, ?_, ?_, by omega, by omega⟩
 · unfold qwD.f; simp only [m0, Option.bind_some]
 · trivial
def qGW (x : Row) (q q' : Int) : Prop := x.Id = q ∧ True ∧ q + 1 ≤ q'
theorem qfU (l : List Row) (q : Int) (hq : 0 ≤ q) (hB : q + 16 * qrB l ≤ 4611686018427387904) : ∃ l' q', qyB.f l q = some (l', q') ∧ True ∧ q ≤ q' ∧ q' ≤ q + 16 * qrB l := by
 unfold qrB at hB
 have p0 := qID qTG l
 have step : ∀ k (i : Nat) (s : List Row) (x : Row) (q : Int), s.length = l.length → s[i]? = some x → 0 ≤ q → q + (fun x => 16 * (1 + qKC x)) x ≤ 4611686018427387904 → ∃ x' q', qyB.l0 (k + 1) s q i = qyB.l0 k (s.set i x') q' ((i + 1 : Nat) : Int) ∧ q ≤ q' ∧ q' ≤ q + (fun x => 16 * (1 + qKC x)) x ∧ qGW x' q q' := by
  intro k i s x q hn hx hq hB
  have hi := at_lt hx
  have g0 : getO s i = some x := by rw [qg, hx]
  have hB : q + 16 * (1 + qKC x) ≤ 4611686018427387904 := hB
  have hzx : qKC x ≤ 288230376151711744 := by omega
  unfold qKC at hB
  have p_Cells := qjD x.Cells
  obtain ⟨c1, q1, m1, d1, a1, b1⟩ := qDM x.Cells (q + 1) (by omega) (by omega)
  have w0 : w64 (q + 1) = q + 1 := qJB (by omega)
  refine ⟨(Row.mk (q) (c1)), q1, ?_, by omega, ?_, ⟨rfl, d1, a1⟩⟩
  ·
   rw [qyB.l0, qG, decide_eq_true (by omega), cond_true]
   simp only [g0, qJL g0, qpH, Option.bind_some, m1, w0]
   rw [qw (by omega), qlE]
  · show _ ≤ q + 16 * (1 + qKC x); simp only [qKC]; omega
 have last : ∀ k (s : List Row) (q : Int) (i : Nat), i = s.length → qyB.l0 (k + 1) s q i = some (s, q) := by
  intro k s q i hi
  rw [qyB.l0, qG, decide_eq_false (by omega), cond_false]
 obtain ⟨l', q', m, hl, _, lo, hi, hd⟩ := qqF (fm := qyB.l0) l.length 4611686018427387904 (fun x => 16 * (1 + qKC x)) qGW (fun x => by have := qTG x; show 0 ≤ 16 * (1 + qKC x); omega) step last (((lenI l) - 0).toNat + 1) 0 l q rfl (by omega) (by simp only [qG]; omega) hq (by rw [List.drop_zero, sum_c qKC]; omega)
 refine ⟨l', q', m, ?_, lo, ?_⟩
 · trivial
 · rw [List.drop_zero, sum_c qKC] at hi; unfold qrB; omega
def qgU (x : List Row) (q q' : Int) : Prop := True ∧ q ≤ q'
theorem qAT (l : List (List Row)) (q : Int) (hq : 0 ≤ q) (hB : q + 16 * qFE l ≤ 4611686018427387904) : ∃ l' q', qnB.f l q = some (l', q') ∧ True ∧ q ≤ q' ∧ q' ≤ q + 16 * qFE l := by
 unfold qFE at hB
 have p0 := qID quE l
 have step : ∀ k (i : Nat) (s : List (List Row)) (x : List Row) (q : Int), s.length = l.length → s[i]? = some x → 0 ≤ q → q + (fun x => 16 * (1 + qrB x)) x ≤ 4611686018427387904 → ∃ x' q', qnB.l0 (k + 1) s q i = qnB.l0 k (s.set i x') q' ((i + 1 : Nat) : Int) ∧ q ≤ q' ∧ q' ≤ q + (fun x => 16 * (1 + qrB x)) x ∧ qgU x' q q' := by
  intro k i s x q hn hx hq hB
  have hi := at_lt hx
  have g0 : getO s i = some x := by rw [qg, hx]
  have hB : q + 16 * (1 + qrB x) ≤ 4611686018427387904 := hB
  have hzx : qrB x ≤ 288230376151711744 := by omega
  have p_x := quE x
  obtain ⟨c0, q1, m0, d0, a0, b0⟩ := qfU x (q) (by omega) (by omega)
  refine ⟨(c0), q1, ?_, by omega, ?_, ⟨d0, a0⟩⟩
  ·
   rw [qnB.l0, qG, decide_eq_true (by omega), cond_true]
   simp only [g0, qJL g0, qpH, Option.bind_some, m0]
   rw [qw (by omega), qlE]
  · show _ ≤ q + 16 * (1 + qrB x); omega
 have last : ∀ k (s : List (List Row)) (q : Int) (i : Nat), i = s.length → qnB.l0 (k + 1) s q i = some (s, q) := by
  intro k s q i hi
  rw [qnB.l0, qG, decide_eq_false (by omega), cond_false]
 obtain ⟨l', q', m, hl, _, lo, hi, hd⟩ := qqF (fm := qnB.l0) l.length 4611686018427387904 (fun x => 16 * (1 + qrB x)) qgU (fun x => by have := quE x; show 0 ≤ 16 * (1 + qrB x); omega) step last (((lenI l) - 0).toNat + 1) 0 l q rfl (by omega) (by simp only [qG]; omega) hq (by rw [List.drop_zero, sum_c qrB]; omega)
 refine ⟨l', q', m, ?_, lo, ?_⟩
 · trivial
 · rw [List.drop_zero, sum_c qrB] at hi; unfold qFE; omega
theorem qBT (x : Store) (q : Int) (hq : 0 ≤ q) (hB : q + 16 * qGE x ≤ 4611686018427387904) : ∃ s0 s1 q', qNE.f x q = some ((Store.mk (Schema.mk s0) x.Version s1), q') ∧ True ∧ q ≤ q' ∧ q' ≤ q + 16 * qGE x := by
 unfold qGE at hB ⊢
 have p_Schema := qSH x.Schema
 have p_Tables := qGI x.Tables
 obtain ⟨s0, q0, m0, d0, a0, b0⟩ := qaR x.Schema q (by omega) (by omega)
 have n0 : ¬ q0 < 0 := by omega
 obtain ⟨s1, q1, m1, d1, a1, b1⟩ := qAT x.Tables q0 (by omega) (by omega)
 have n1 : ¬ q1 < 0 := by omega
 refine ⟨s0, s1, q1, ?_, ?_, by omega, by omega⟩
 · unfold qNE.f; simp only [m0, m1, Option.bind_some]
 · trivial
def qhU (x : Cond) (q q' : Int) : Prop := x.Col = q ∧ x.Op = q + 1 ∧ x.V = q + 1 + 1 ∧ q' = q + 1 + 1 + 1
theorem qCT (l : List Cond) (q : Int) (hq : 0 ≤ q) (hB : q + 16 * qrD l ≤ 4611686018427387904) : ∃ l' q', qoB.f l q = some (l', q') ∧ True ∧ q ≤ q' ∧ q' ≤ q + 16 * qrD l := by
 unfold qrD at hB
 have hz : (l.length : Int) ≤ 288230376151711744 := by omega
 have step : ∀ k (i : Nat) (s : List Cond) (x : Cond) (q : Int), s.length = l.length → s[i]? = some x → 0 ≤ q → q + (fun _ => 16 * (1 + 0)) x ≤ 4611686018427387904 → ∃ x' q', qoB.l0 (k + 1) s q i = qoB.l0 k (s.set i x') q' ((i + 1 : Nat) : Int) ∧ q ≤ q' ∧ q' ≤ q + (fun _ => 16 * (1 + 0)) x ∧ qhU x' q q' := by
  intro k i s x q hn hx hq hB
  have hi := at_lt hx
  have g0 : getO s i = some x := by rw [qg, hx]
  have hB : q + 16 * (1 + 0) ≤ 4611686018427387904 := hB
  have w0 : w64 (q + 1) = q + 1 := qJB (by omega)
  have w1 : w64 (q + 1 + 1) = q + 1 + 1 := qJB (by omega)
  have w2 : w64 (q + 1 + 1 + 1) = q + 1 + 1 + 1 := qJB (by omega)
  refine ⟨(Cond.mk (q) (q + 1) (q + 1 + 1)), q + 1 + 1 + 1, ?_, by omega, ?_, ⟨rfl, rfl, rfl, rfl⟩⟩
  ·
   rw [qoB.l0, qG, decide_eq_true (by omega), cond_true]
   simp only [g0, qJL g0, qpH, Option.bind_some, w0, w1, w2]
   rw [qw (by omega), qlE]
  · show _ ≤ q + 16 * (1 + 0); omega
 have last : ∀ k (s : List Cond) (q : Int) (i : Nat), i = s.length → qoB.l0 (k + 1) s q i = some (s, q) := by
  intro k s q i hi
  rw [qoB.l0, qG, decide_eq_false (by omega), cond_false]
 obtain ⟨l', q', m, hl, _, lo, hi, hd⟩ := qqF (fm := qoB.l0) l.length 4611686018427387904 (fun _ => 16 * (1 + 0)) qhU (fun _ => by decide) step last (((lenI l) - 0).toNat + 1) 0 l q rfl (by omega) (by simp only [qG]; omega) hq (by rw [List.drop_zero, sum_0]; omega)
 refine ⟨l', q', m, ?_, lo, ?_⟩
 · trivial
 · rw [List.drop_zero, sum_0] at hi; unfold qrD; omega
theorem qDT (x : Query) (q : Int) (hq : 0 ≤ q) (hB : q + 16 * qHE x ≤ 4611686018427387904) : ∃ s0 s1 q', qOE.f x q = some ((Query.mk x.Table s0 x.Order x.Down x.First s1 x.Kids x.KidTable x.KidCol), q') ∧ True ∧ q ≤ q' ∧ q' ≤ q + 16 * qHE x := by
 unfold qHE at hB ⊢
 have p_Where := qCH x.Where
 have p_Show := qjD x.Show
 obtain ⟨s0, q0, m0, d0, a0, b0⟩ := qCT x.Where q (by omega) (by omega)
 have n0 : ¬ q0 < 0 := by omega
 obtain ⟨s1, q1, m1, d1, a1, b1⟩ := qDM x.Show q0 (by omega) (by omega)
 have n1 : ¬ q1 < 0 := by omega
 refine ⟨s0, s1, q1, ?_, ?_, by omega, by omega⟩
 · unfold qOE.f; simp only [m0, m1, Option.bind_some]
 · trivial
theorem qeJ (self : Json → Json → Option Bool) (a b : List Json) (ha : (a.length : Int) ≤ 9223372036854775807) (h : ∀ x ∈ a, ∀ y, self x y = some (decide (x = y))) : qbC.f self a b = some (decide (a = b)) := by
 unfold qbC.f
 by_cases hl : a.length = b.length
 ·
  rw [decide_eq_false (by simp only [qG]; omega), cond_false]
  refine (qVJ (f := qbC.l0 a b self) hl (some false) (some true) (fun k i x y hx hy => ?_) (fun k i hi => ?_) _ (by simp only [qG]; omega)).trans ?_
  ·
   have hi := at_lt hx
   rw [qbC.l0, qG, decide_eq_true (by omega), cond_true, qg, hx, Option.bind_some, qg, hy, Option.bind_some, h x (List.mem_of_getElem? hx), Option.bind_some, qzB, qw (by omega)]
   by_cases c : x = y
   · simp [c]
   · simp [c]
  · rw [qbC.l0, qG, decide_eq_false (by omega), cond_false]
  · cases decide (a = b) <;> rfl
 · rw [decide_eq_true (by simp only [qG]; omega), cond_true, decide_eq_false (fun e => hl (by rw [e]))]
theorem qHJ (a b : List ByteArray) (ha : (a.length : Int) ≤ 9223372036854775807) : qCC.f a b = some (decide (a = b)) := by
 unfold qCC.f
 by_cases hl : a.length = b.length
 ·
  rw [decide_eq_false (by simp only [qG]; omega), cond_false]
  refine (qVJ (f := qCC.l0 a b) hl (some false) (some true) (fun k i x y hx hy => ?_) (fun k i hi => ?_) _ (by simp only [qG]; omega)).trans ?_
  ·
   have hi := at_lt hx
   rw [qCC.l0, qG, decide_eq_true (by omega), cond_true, qg, hx, Option.bind_some, qg, hy, Option.bind_some, qaG, qw (by omega)]
   by_cases c : x = y
   · simp [c]
   · simp [c]
  · rw [qCC.l0, qG, decide_eq_false (by omega), cond_false]
  · cases decide (a = b) <;> rfl
 · rw [decide_eq_true (by simp only [qG]; omega), cond_true, decide_eq_false (fun e => hl (by rw [e]))]
theorem qGP : ∀ (k : Nat) (a b : Json), dpj a < k → szj a ≤ 9223372036854775807 → qwB.g k a b = some (decide (a = b)) := by
 intro k
 induction k with
 | zero => intro a b h; omega
 | succ k ih =>
  intro a b hd hs
  rw [qGS] at hs
  rw [qRL] at hd
  have l0 := qTR a.List_
  have l1 := szL_0 a.List_
  rw [qwB.g, qwB.b, qaG, qeJ _ _ _ (by omega) (fun x hx y => ih x y (by have := qNU hx; omega) (by have := qaW hx; omega)), qHJ _ _ (by omega)]
  have key : decide (a = b) = (decide (a.Kind = b.Kind) && (decide (a.N = b.N) && (decide (a.S = b.S) && (decide (a.List_ = b.List_) && decide (a.Names = b.Names))))) := by
   have : a = b ↔ (a.Kind = b.Kind ∧ a.N = b.N ∧ a.S = b.S ∧ a.List_ = b.List_ ∧ a.Names = b.Names) := by
    cases a; cases b; simp
   simp only [this, Bool.decide_and]
  rw [key]
  by_cases c1 : a.Kind = b.Kind <;> by_cases c2 : a.N = b.N <;> by_cases c3 : a.S = b.S <;> by_cases c4 : a.List_ = b.List_ <;> by_cases c5 : a.Names = b.Names <;> simp [c1, c2, c3, c4, c5, bo3]
theorem qHN (a b : Json) (ha : qIK a) (hb : qIK b) : qwB.f a b = some (decide (a = b)) := by
 obtain ⟨h1, h2⟩ := qKQ (x := a) (by unfold qIK at ha; omega)
 unfold qIK at ha
 exact qGP 1000 a b (by omega) (by omega)
theorem qmW (s : Store) (b0 : Store_b s) (r0 : Store_r s) (z0 : qGE s ≤ 1048576) (q : Query) (b1 : Query_b q) (r1 : Query_r q) (z1 : qHE q ≤ 1048576) : ∃ v0, qVD.f s q = some v0 ∧ qND.f s q = some v0 ∧ qIK v0 ∧ qtE v0 ≤ 1099511627776 := by
 have hc : In64 q.Show := r1.2.2.2.2.1
 have hl : q.Show.length ≤ 2097152 := by have := qCH q.Where; unfold qHE qAD at z1; omega
 have k : qIK (evalF s q) ∧ qtE (evalF s q) ≤ 1000 := by
  unfold evalF docOfF
  split
  · exact orJ_b _
  ·
   have := orJ_b nullJ
   have e : orJ nullJ = nullJ := by unfold orJ; split <;> rfl
   rwa [e] at this
 exact ⟨evalF s q, qTQ s q b0 b1 hc hl, qXQ s q b0 b1 hc hl, k.1, by omega⟩
theorem laws_FnExactEval_pure (a0 : Store) (b0 : Store_b a0) (r0 : Store_r a0) (a1 : Query) (b1 : Query_b a1) (r1 : Query_r a1) : qQE.f a0 a1 = some true := by
 unfold qQE.f
 have p0 := qqS a0
 rw [qUL _ _ (by omega) b0, Option.bind_some]
 by_cases c0 : 1048576 < qGE a0
 · rw [if_pos c0]; rfl
 rw [if_neg c0, decide_eq_false (by omega), cond_false]
 have p1 := qrS a1
 rw [qWL _ _ (by omega) b1, Option.bind_some]
 by_cases c1 : 1048576 - qGE a0 < qHE a1
 · rw [if_pos c1]; rfl
 rw [if_neg c1, decide_eq_false (by omega), cond_false]
 obtain ⟨v0, hs, hi, bv0, zv0⟩ := qmW a0 b0 r0 (by omega) a1 b1 r1 (by omega)
 have t0 := qqL a0 (by omega)
 have e0 : qeE.f a0 a0 = some true := by rw [qAM _ _ b0 b0, decide_eq_true rfl]
 have t1 := qsL a1 (by omega)
 have e1 : qfE.f a1 a1 = some true := by rw [qCM _ _ b1 b1, decide_eq_true rfl]
 have ev0 : qwB.f v0 v0 = some true := by rw [qHN _ _ bv0 bv0, decide_eq_true rfl]
 obtain ⟨g0_0, g0_1, k0, mk0, dk0, lo0, hi0⟩ := qBT a0 1 (by omega) (by omega)
 obtain ⟨g1_0, g1_1, k1, mk1, dk1, lo1, hi1⟩ := qDT a1 k0 (by omega) (by omega)
 have nk : ¬ k1 < 0 := by omega
 have pv0 := qOU v0
 obtain ⟨gw0_0, gw0_1, w0, mw0, dw0, low0, hiw0⟩ := qQU v0 1 (by omega) (by omega)
 have nw0 : ¬ w0 < 0 := by omega
 simp only [t0, e0, t1, e1, ev0, mk0, mk1, nk, mw0, dw0, nw0, hs, hi, Option.bind_some, qZV, bo3_F, bo3_T, qdC, cond_false, ne_eq, not_true_eq_false, decide_false]
end Go.Proofs.YtgjboegobhafhaaGreatDoor.L
