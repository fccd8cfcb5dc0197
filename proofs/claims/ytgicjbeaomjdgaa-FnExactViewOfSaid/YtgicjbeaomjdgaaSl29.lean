/- Pure operations; what the steps ask, out of them; loops and joins. -/
import Derived.Test.YtgicjbeaomjdgaaSl28
namespace Go.Proofs.Ytgicjbeaomjdgaa.L
set_option linter.unusedVariables false
set_option linter.unusedSimpArgs false
open Go

def lenI {α : Type} (l : List α) : Int := l.length
def getO {α : Type} (l : List α) (i : Int) : Option α := if 0 ≤ i then l[i.toNat]? else none
def setI {α : Type} (l : List α) (i : Int) (x : α) : List α := l.set i.toNat x
def appO {α : Type} (b : Nat) (l m : List α) : Option (List α) := if ((l.length : Int) + m.length) * b ≤ 140737488355328 ∧ (l.length : Int) + m.length ≤ 140737488355328 then some (l ++ m) else none
def mkO {α : Type} (b : Nat) (n : Int) (z : α) : Option (List α) := if 0 ≤ n ∧ n * b ≤ 140737488355328 ∧ n ≤ 140737488355328 then some (List.replicate n.toNat z) else none
def cutO {α : Type} (l : List α) (lo hi : Int) : Option (List α) := if 0 ≤ lo ∧ lo ≤ hi ∧ hi ≤ l.length then some ((l.take hi.toNat).drop lo.toNat) else none
def nzO (x : Int) : Option Unit := if x ≠ 0 then some () else none
def gd {α : Type} [Inhabited α] (b : Bool) (e : Option α) : Option α := bif b then e else some default
def bo3 (c x y : Bool) : Bool := if c then x else y
abbrev w64 (x : Int) : Int := IntKind.i64.wrap x
def joinK {κ R : Type} (K : κ) (f : κ → Option R) : Option R := f K

/-! ### what was asked -/
theorem hq {p : Prop} {r : List Prop} (h : p) (t : AllP r) : AllP (p :: r) := ⟨h, t⟩
theorem hq0 : AllP [] := trivial
theorem bnd {α β : Type} {x : Option α} {f : α → Option β} {r : β} (h : x.bind f = some r) : ∃ a, x = some a ∧ f a = some r := by
  cases x with
  | none => cases h
  | some a => exact ⟨a, rfl, h⟩
theorem if_t {α : Type} {b : Bool} {x y : Option α} {r : α} (hb : b = true) (h : cond b x y = some r) : x = some r := by subst hb; exact h
theorem if_f {α : Type} {b : Bool} {x y : Option α} {r : α} (hb : b = false) (h : cond b x y = some r) : y = some r := by subst hb; exact h
theorem joinE {κ R : Type} {K : κ} {f : κ → Option R} {r : R} (h : joinK K f = some r) : ∃ K', K' = K ∧ f K' = some r := ⟨K, rfl, h⟩
theorem gd_t {α : Type} [Inhabited α] {b : Bool} {e : Option α} {x : α} (h : gd b e = some x) (hb : b = true) : e = some x := by subst hb; exact h
theorem bo_l {c x : Bool} (h : bo3 c x false = true) : c = true := by cases c <;> simp_all [bo3]
theorem bo_r {c x : Bool} (h : bo3 c x false = true) : x = true := by cases c <;> simp_all [bo3]
theorem bo_a {c x : Bool} (h : c = true) (k : x = true) : bo3 c x false = true := by simp_all [bo3]
theorem bo_n {x : Bool} (h : bo3 x false true = true) : x = false := by cases x <;> simp_all [bo3]
theorem bo_m {x : Bool} (h : x = false) : bo3 x false true = true := by simp_all [bo3]
theorem bo_of {c x : Bool} (h : bo3 c true x = false) : c = false := by cases c <;> simp_all [bo3]
theorem bo_og {c x : Bool} (h : bo3 c true x = false) : x = false := by cases c <;> simp_all [bo3]
theorem bo_nt {x : Bool} (h : bo3 x false true = false) : x = true := by cases x <;> simp_all [bo3]

variable {α : Type} {f : α → List T} {l m r : List α} {x y z : α} {i n lo hi : Int} {b : Nat}
theorem get_pos (h : getO l i = some x) : 0 ≤ i ∧ l[i.toNat]? = some x := by
  unfold getO at h
  split at h
  · exact ⟨‹_›, h⟩
  · cases h
theorem get_le (h : getO l i = some x) : Ls.le 0 i := (get_pos h).1
theorem get_lt (h : getO l i = some x) : Ls.lt i (Ls.ln (rowsOf f l)) := by
  obtain ⟨h0, h1⟩ := get_pos h
  have := (List.getElem?_eq_some_iff.1 h1).1
  show i < ((rowsOf f l).length : Int)
  rw [rowsOf_len]
  omega
theorem get_ge (h : getO l i = some x) : Ls.ge (rowsOf f l) i = f x := rowsOf_at (get_pos h).2
theorem ln_eq (f : α → List T) (l : List α) : Ls.ln (rowsOf f l) = lenI l := by show ((rowsOf f l).length : Int) = l.length; rw [rowsOf_len]
theorem ln_eq' {rows : Rws} (h : rows.length = l.length) : Ls.ln rows = lenI l := by show (rows.length : Int) = l.length; rw [h]

theorem app_eq (h : appO b l m = some r) : r = l ++ m := by
  unfold appO at h
  split at h
  · exact (Option.some.inj h).symm
  · cases h
theorem app_ma {a c : Rws} (ha : a.length = l.length) (hc : c.length = m.length) (h : appO b l m = some r) : Ls.ma a c b := by
  unfold appO at h
  split at h
  · rename_i hh
    show ((a.length : Int) + c.length) * b ≤ 140737488355328 ∧ (a.length : Int) + c.length ≤ 140737488355328
    rw [ha, hc]; exact hh
  · cases h
theorem app_le {P : Program} {a c : Rws} (ha : RLe P a (rowsOf f l)) (hc : RLe P c (rowsOf f m)) (h : appO b l m = some r) : RLe P (Ls.ap a c) (rowsOf f r) := by
  rw [app_eq h, rowsOf_app]; exact ha.app hc
theorem mk_eq (h : mkO b n z = some l) : l = List.replicate n.toNat z ∧ 0 ≤ n ∧ n * b ≤ 140737488355328 ∧ n ≤ 140737488355328 := by
  unfold mkO at h
  split at h
  · exact ⟨(Option.some.inj h).symm, ‹_›⟩
  · cases h
theorem mk_0 (h : mkO b n z = some l) : Ls.le 0 n := (mk_eq h).2.1
theorem mk_mm (h : mkO b n z = some l) : Ls.mm n b := (mk_eq h).2.2
theorem mk_le {P : Program} {c : List T} (hl : c.length = (f z).length) (hc : LLe P c (f z)) (h : mkO b n z = some l) : RLe P (Ls.rp n c) (rowsOf f l) := by
  rw [(mk_eq h).1, rowsOf_rep]; exact RLe.rep hl hc _
theorem set_le {P : Program} {j : Nat} {cs : List T} (h : getO l i = some x) (hl : ((f x).take j ++ cs ++ (f x).drop (j + cs.length)).length = (f y).length) (hc : LLe P ((f x).take j ++ cs ++ (f x).drop (j + cs.length)) (f y)) : RLe P (Ls.up (rowsOf f l) i j cs) (rowsOf f (setI l i y)) := by
  have e : (rowsOf f l).getD i.toNat [] = f x := rowsOf_at (get_pos h).2
  show RLe P ((rowsOf f l).set i.toNat (((rowsOf f l).getD i.toNat []).take j ++ cs ++ ((rowsOf f l).getD i.toNat []).drop (j + cs.length))) _
  rw [e, setI, rowsOf_set]
  exact RLe.r.set hl hc _
theorem get_set (h : getO l i = some x) (y : α) : getO (setI l i y) i = some y := by
  obtain ⟨h0, h1⟩ := get_pos h
  have := (List.getElem?_eq_some_iff.1 h1).1
  unfold getO setI
  rw [if_pos h0, List.getElem?_set, if_pos rfl, if_pos this]
theorem cut_eq (h : cutO l lo hi = some m) : m = (l.take hi.toNat).drop lo.toNat ∧ 0 ≤ lo ∧ lo ≤ hi ∧ hi ≤ l.length := by
  unfold cutO at h
  split at h
  · exact ⟨(Option.some.inj h).symm, ‹_›⟩
  · cases h
theorem cut_0 (h : cutO l lo hi = some m) : Ls.le 0 lo := (cut_eq h).2.1
theorem cut_1 (h : cutO l lo hi = some m) : Ls.le lo hi := (cut_eq h).2.2.1
theorem cut_2 (h : cutO l lo hi = some m) : Ls.le hi (Ls.ln (rowsOf f l)) := by show hi ≤ ((rowsOf f l).length : Int); rw [rowsOf_len]; exact (cut_eq h).2.2.2
theorem cut_sr (f : α → List T) (h : cutO l lo hi = some m) : Ls.sr (rowsOf f l) lo hi = rowsOf f m := by
  rw [(cut_eq h).1]
  show ((rowsOf f l).take _).drop _ = _
  simp [rowsOf, List.map_take, List.map_drop]
theorem al_row {n : Nat} (hf : ∀ x, (f x).length = n) (l : List α) : Ls.al n (rowsOf f l) := rowsOf_row hf l
theorem fl_row {n : Nat} (hf : ∀ x, (f x).length = n ∧ ∀ c ∈ f x, ∃ v, c = T.s v) (l : List α) : Ls.fl n (rowsOf f l) := by
  intro r hr
  obtain ⟨x, _, rfl⟩ := List.mem_map.1 hr
  exact hf x
theorem fr_row {g : α → List T} (hf : ∀ x, fzL (f x) = g x) (l : List α) : Ls.fr (rowsOf f l) = rowsOf g l := by
  show fzR _ = _
  rw [fzR_map, rowsOf, List.map_map]
  exact List.map_congr_left fun x _ => hf x
theorem nz_t {u : Unit} (h : nzO n = some u) : Ls.nz n := by
  unfold nzO at h
  split at h
  · rename_i hn; exact hn
  · cases h

theorem app_mb {P : Program} {a c : Rws} (ha : RLe P a (rowsOf f l)) (hc : RLe P c (rowsOf f m)) (h : appO b l m = some r) : Ls.ma a c b :=
  app_ma (ha.len.trans (rowsOf_len _ _)) (hc.len.trans (rowsOf_len _ _)) h
theorem some_le {P : Program} {a : Rws} (h : some m = some l) (hl : RLe P a (rowsOf f m)) : RLe P a (rowsOf f l) := by cases h; exact hl
theorem sto_le {P : Program} {j : Nat} {cs : List T} (h : getO l i = some x) (hs : some (setI l i y) = some r) (hl : ((f x).take j ++ cs ++ (f x).drop (j + cs.length)).length = (f y).length) (hc : LLe P ((f x).take j ++ cs ++ (f x).drop (j + cs.length)) (f y)) : RLe P (Ls.up (rowsOf f l) i j cs) (rowsOf f r) := by
  cases hs; exact set_le h hl hc
theorem fr_rows {g : α → List T} (hf : ∀ x, fzL (f x) = g x) (l : List α) : fzR (rowsOf f l) = rowsOf g l := fr_row hf l
theorem fzL_flat : ∀ {c : List T}, (∀ x ∈ c, ∃ v, x = T.s v) → fzL c = c
  | [], _ => by simp [fzL]
  | x :: c, h => by
    obtain ⟨v, rfl⟩ := h x (by simp)
    rw [fzL, fzL_flat fun x hx => h x (by simp [hx])]
    rfl
theorem cut_1r (h : cutO l lo (lenI l) = some m) : Ls.le lo (Ls.ln (rowsOf f l)) := by
  show lo ≤ ((rowsOf f l).length : Int); rw [rowsOf_len]; exact (cut_eq h).2.2.1

/-! ### loops and joins -/
variable {F : Fr} {σ : St} {c d : Code} {Q : Exit → St → Prop}

theorem Run.loop1 {α0 R : Type} {f : Nat → α0 → Option R} {r : R} (I : α0 → St) {k : Nat} {x0} (h : f k x0 = some r) (h0 : Weak F σ (I x0)) (hz : ∀ x0, f 0 x0 = none)
    (hr : ∀ k x0, f (k + 1) x0 = some r → Run F (I x0) c (thenQ (fun σ' => ∃ y0, f k y0 = some r ∧ Weak F σ' (I y0)) Q)) : Run F σ (.loop c) Q :=
  Run.loop (α := Nat × α0) (fun q => (fun p : α0 => I p) q.2) (fun q => (fun p : α0 => f q.1 p = some r) q.2) (fun q => q.1) (k, x0) h0 h (by
    rintro ⟨k, p⟩ hk
    cases k with
    | zero => rw [show f 0 p = none from hz _] at hk; cases hk
    | succ k => exact (hr k _ hk).mono fun e σ' => by cases e <;> first | exact fun h => h | (rintro ⟨y0, h1, h2⟩; exact ⟨(k, y0), Nat.lt_succ_self k, h1, h2⟩))
theorem Run.join1 {α0 R : Type} (f : α0 → Option R) {r : R} (J : α0 → St) (hx : Run F σ c (thenQ (fun σ' => ∃ y0, f y0 = some r ∧ Weak F σ' (J y0)) Q)) (hy : ∀ y0, f y0 = some r → Run F (J y0) d Q) : Run F σ (.seq c d) Q :=
  Run.seq (hx.mono fun e σ' => by cases e <;> first | exact fun h => h | (rintro ⟨y0, h1, h2⟩; exact (hy _ h1).weak h2))

theorem Run.loop2 {α0 α1 R : Type} {f : Nat → α0 → α1 → Option R} {r : R} (I : α0 → α1 → St) {k : Nat} {x0 x1} (h : f k x0 x1 = some r) (h0 : Weak F σ (I x0 x1)) (hz : ∀ x0 x1, f 0 x0 x1 = none)
    (hr : ∀ k x0 x1, f (k + 1) x0 x1 = some r → Run F (I x0 x1) c (thenQ (fun σ' => ∃ y0 y1, f k y0 y1 = some r ∧ Weak F σ' (I y0 y1)) Q)) : Run F σ (.loop c) Q :=
  Run.loop (α := Nat × α0 × α1) (fun q => (fun p : α0 × α1 => I p.1 p.2) q.2) (fun q => (fun p : α0 × α1 => f q.1 p.1 p.2 = some r) q.2) (fun q => q.1) (k, (x0, x1)) h0 h (by
    rintro ⟨k, p⟩ hk
    cases k with
    | zero => rw [show f 0 p.1 p.2 = none from hz _ _] at hk; cases hk
    | succ k => exact (hr k _ _ hk).mono fun e σ' => by cases e <;> first | exact fun h => h | (rintro ⟨y0, y1, h1, h2⟩; exact ⟨(k, (y0, y1)), Nat.lt_succ_self k, h1, h2⟩))
theorem Run.join2 {α0 α1 R : Type} (f : α0 → α1 → Option R) {r : R} (J : α0 → α1 → St) (hx : Run F σ c (thenQ (fun σ' => ∃ y0 y1, f y0 y1 = some r ∧ Weak F σ' (J y0 y1)) Q)) (hy : ∀ y0 y1, f y0 y1 = some r → Run F (J y0 y1) d Q) : Run F σ (.seq c d) Q :=
  Run.seq (hx.mono fun e σ' => by cases e <;> first | exact fun h => h | (rintro ⟨y0, y1, h1, h2⟩; exact (hy _ _ h1).weak h2))

theorem Run.loop3 {α0 α1 α2 R : Type} {f : Nat → α0 → α1 → α2 → Option R} {r : R} (I : α0 → α1 → α2 → St) {k : Nat} {x0 x1 x2} (h : f k x0 x1 x2 = some r) (h0 : Weak F σ (I x0 x1 x2)) (hz : ∀ x0 x1 x2, f 0 x0 x1 x2 = none)
    (hr : ∀ k x0 x1 x2, f (k + 1) x0 x1 x2 = some r → Run F (I x0 x1 x2) c (thenQ (fun σ' => ∃ y0 y1 y2, f k y0 y1 y2 = some r ∧ Weak F σ' (I y0 y1 y2)) Q)) : Run F σ (.loop c) Q :=
  Run.loop (α := Nat × α0 × α1 × α2) (fun q => (fun p : α0 × α1 × α2 => I p.1 p.2.1 p.2.2) q.2) (fun q => (fun p : α0 × α1 × α2 => f q.1 p.1 p.2.1 p.2.2 = some r) q.2) (fun q => q.1) (k, (x0, x1, x2)) h0 h (by
    rintro ⟨k, p⟩ hk
    cases k with
    | zero => rw [show f 0 p.1 p.2.1 p.2.2 = none from hz _ _ _] at hk; cases hk
    | succ k => exact (hr k _ _ _ hk).mono fun e σ' => by cases e <;> first | exact fun h => h | (rintro ⟨y0, y1, y2, h1, h2⟩; exact ⟨(k, (y0, y1, y2)), Nat.lt_succ_self k, h1, h2⟩))
theorem Run.join3 {α0 α1 α2 R : Type} (f : α0 → α1 → α2 → Option R) {r : R} (J : α0 → α1 → α2 → St) (hx : Run F σ c (thenQ (fun σ' => ∃ y0 y1 y2, f y0 y1 y2 = some r ∧ Weak F σ' (J y0 y1 y2)) Q)) (hy : ∀ y0 y1 y2, f y0 y1 y2 = some r → Run F (J y0 y1 y2) d Q) : Run F σ (.seq c d) Q :=
  Run.seq (hx.mono fun e σ' => by cases e <;> first | exact fun h => h | (rintro ⟨y0, y1, y2, h1, h2⟩; exact (hy _ _ _ h1).weak h2))

theorem Run.loop4 {α0 α1 α2 α3 R : Type} {f : Nat → α0 → α1 → α2 → α3 → Option R} {r : R} (I : α0 → α1 → α2 → α3 → St) {k : Nat} {x0 x1 x2 x3} (h : f k x0 x1 x2 x3 = some r) (h0 : Weak F σ (I x0 x1 x2 x3)) (hz : ∀ x0 x1 x2 x3, f 0 x0 x1 x2 x3 = none)
    (hr : ∀ k x0 x1 x2 x3, f (k + 1) x0 x1 x2 x3 = some r → Run F (I x0 x1 x2 x3) c (thenQ (fun σ' => ∃ y0 y1 y2 y3, f k y0 y1 y2 y3 = some r ∧ Weak F σ' (I y0 y1 y2 y3)) Q)) : Run F σ (.loop c) Q :=
  Run.loop (α := Nat × α0 × α1 × α2 × α3) (fun q => (fun p : α0 × α1 × α2 × α3 => I p.1 p.2.1 p.2.2.1 p.2.2.2) q.2) (fun q => (fun p : α0 × α1 × α2 × α3 => f q.1 p.1 p.2.1 p.2.2.1 p.2.2.2 = some r) q.2) (fun q => q.1) (k, (x0, x1, x2, x3)) h0 h (by
    rintro ⟨k, p⟩ hk
    cases k with
    | zero => rw [show f 0 p.1 p.2.1 p.2.2.1 p.2.2.2 = none from hz _ _ _ _] at hk; cases hk
    | succ k => exact (hr k _ _ _ _ hk).mono fun e σ' => by cases e <;> first | exact fun h => h | (rintro ⟨y0, y1, y2, y3, h1, h2⟩; exact ⟨(k, (y0, y1, y2, y3)), Nat.lt_succ_self k, h1, h2⟩))
theorem Run.join4 {α0 α1 α2 α3 R : Type} (f : α0 → α1 → α2 → α3 → Option R) {r : R} (J : α0 → α1 → α2 → α3 → St) (hx : Run F σ c (thenQ (fun σ' => ∃ y0 y1 y2 y3, f y0 y1 y2 y3 = some r ∧ Weak F σ' (J y0 y1 y2 y3)) Q)) (hy : ∀ y0 y1 y2 y3, f y0 y1 y2 y3 = some r → Run F (J y0 y1 y2 y3) d Q) : Run F σ (.seq c d) Q :=
  Run.seq (hx.mono fun e σ' => by cases e <;> first | exact fun h => h | (rintro ⟨y0, y1, y2, y3, h1, h2⟩; exact (hy _ _ _ _ h1).weak h2))

theorem Run.loop5 {α0 α1 α2 α3 α4 R : Type} {f : Nat → α0 → α1 → α2 → α3 → α4 → Option R} {r : R} (I : α0 → α1 → α2 → α3 → α4 → St) {k : Nat} {x0 x1 x2 x3 x4} (h : f k x0 x1 x2 x3 x4 = some r) (h0 : Weak F σ (I x0 x1 x2 x3 x4)) (hz : ∀ x0 x1 x2 x3 x4, f 0 x0 x1 x2 x3 x4 = none)
    (hr : ∀ k x0 x1 x2 x3 x4, f (k + 1) x0 x1 x2 x3 x4 = some r → Run F (I x0 x1 x2 x3 x4) c (thenQ (fun σ' => ∃ y0 y1 y2 y3 y4, f k y0 y1 y2 y3 y4 = some r ∧ Weak F σ' (I y0 y1 y2 y3 y4)) Q)) : Run F σ (.loop c) Q :=
  Run.loop (α := Nat × α0 × α1 × α2 × α3 × α4) (fun q => (fun p : α0 × α1 × α2 × α3 × α4 => I p.1 p.2.1 p.2.2.1 p.2.2.2.1 p.2.2.2.2) q.2) (fun q => (fun p : α0 × α1 × α2 × α3 × α4 => f q.1 p.1 p.2.1 p.2.2.1 p.2.2.2.1 p.2.2.2.2 = some r) q.2) (fun q => q.1) (k, (x0, x1, x2, x3, x4)) h0 h (by
    rintro ⟨k, p⟩ hk
    cases k with
    | zero => rw [show f 0 p.1 p.2.1 p.2.2.1 p.2.2.2.1 p.2.2.2.2 = none from hz _ _ _ _ _] at hk; cases hk
    | succ k => exact (hr k _ _ _ _ _ hk).mono fun e σ' => by cases e <;> first | exact fun h => h | (rintro ⟨y0, y1, y2, y3, y4, h1, h2⟩; exact ⟨(k, (y0, y1, y2, y3, y4)), Nat.lt_succ_self k, h1, h2⟩))
theorem Run.join5 {α0 α1 α2 α3 α4 R : Type} (f : α0 → α1 → α2 → α3 → α4 → Option R) {r : R} (J : α0 → α1 → α2 → α3 → α4 → St) (hx : Run F σ c (thenQ (fun σ' => ∃ y0 y1 y2 y3 y4, f y0 y1 y2 y3 y4 = some r ∧ Weak F σ' (J y0 y1 y2 y3 y4)) Q)) (hy : ∀ y0 y1 y2 y3 y4, f y0 y1 y2 y3 y4 = some r → Run F (J y0 y1 y2 y3 y4) d Q) : Run F σ (.seq c d) Q :=
  Run.seq (hx.mono fun e σ' => by cases e <;> first | exact fun h => h | (rintro ⟨y0, y1, y2, y3, y4, h1, h2⟩; exact (hy _ _ _ _ _ h1).weak h2))

theorem Run.loop6 {α0 α1 α2 α3 α4 α5 R : Type} {f : Nat → α0 → α1 → α2 → α3 → α4 → α5 → Option R} {r : R} (I : α0 → α1 → α2 → α3 → α4 → α5 → St) {k : Nat} {x0 x1 x2 x3 x4 x5} (h : f k x0 x1 x2 x3 x4 x5 = some r) (h0 : Weak F σ (I x0 x1 x2 x3 x4 x5)) (hz : ∀ x0 x1 x2 x3 x4 x5, f 0 x0 x1 x2 x3 x4 x5 = none)
    (hr : ∀ k x0 x1 x2 x3 x4 x5, f (k + 1) x0 x1 x2 x3 x4 x5 = some r → Run F (I x0 x1 x2 x3 x4 x5) c (thenQ (fun σ' => ∃ y0 y1 y2 y3 y4 y5, f k y0 y1 y2 y3 y4 y5 = some r ∧ Weak F σ' (I y0 y1 y2 y3 y4 y5)) Q)) : Run F σ (.loop c) Q :=
  Run.loop (α := Nat × α0 × α1 × α2 × α3 × α4 × α5) (fun q => (fun p : α0 × α1 × α2 × α3 × α4 × α5 => I p.1 p.2.1 p.2.2.1 p.2.2.2.1 p.2.2.2.2.1 p.2.2.2.2.2) q.2) (fun q => (fun p : α0 × α1 × α2 × α3 × α4 × α5 => f q.1 p.1 p.2.1 p.2.2.1 p.2.2.2.1 p.2.2.2.2.1 p.2.2.2.2.2 = some r) q.2) (fun q => q.1) (k, (x0, x1, x2, x3, x4, x5)) h0 h (by
    rintro ⟨k, p⟩ hk
    cases k with
    | zero => rw [show f 0 p.1 p.2.1 p.2.2.1 p.2.2.2.1 p.2.2.2.2.1 p.2.2.2.2.2 = none from hz _ _ _ _ _ _] at hk; cases hk
    | succ k => exact (hr k _ _ _ _ _ _ hk).mono fun e σ' => by cases e <;> first | exact fun h => h | (rintro ⟨y0, y1, y2, y3, y4, y5, h1, h2⟩; exact ⟨(k, (y0, y1, y2, y3, y4, y5)), Nat.lt_succ_self k, h1, h2⟩))
theorem Run.join6 {α0 α1 α2 α3 α4 α5 R : Type} (f : α0 → α1 → α2 → α3 → α4 → α5 → Option R) {r : R} (J : α0 → α1 → α2 → α3 → α4 → α5 → St) (hx : Run F σ c (thenQ (fun σ' => ∃ y0 y1 y2 y3 y4 y5, f y0 y1 y2 y3 y4 y5 = some r ∧ Weak F σ' (J y0 y1 y2 y3 y4 y5)) Q)) (hy : ∀ y0 y1 y2 y3 y4 y5, f y0 y1 y2 y3 y4 y5 = some r → Run F (J y0 y1 y2 y3 y4 y5) d Q) : Run F σ (.seq c d) Q :=
  Run.seq (hx.mono fun e σ' => by cases e <;> first | exact fun h => h | (rintro ⟨y0, y1, y2, y3, y4, y5, h1, h2⟩; exact (hy _ _ _ _ _ _ h1).weak h2))

theorem Run.loop7 {α0 α1 α2 α3 α4 α5 α6 R : Type} {f : Nat → α0 → α1 → α2 → α3 → α4 → α5 → α6 → Option R} {r : R} (I : α0 → α1 → α2 → α3 → α4 → α5 → α6 → St) {k : Nat} {x0 x1 x2 x3 x4 x5 x6} (h : f k x0 x1 x2 x3 x4 x5 x6 = some r) (h0 : Weak F σ (I x0 x1 x2 x3 x4 x5 x6)) (hz : ∀ x0 x1 x2 x3 x4 x5 x6, f 0 x0 x1 x2 x3 x4 x5 x6 = none)
    (hr : ∀ k x0 x1 x2 x3 x4 x5 x6, f (k + 1) x0 x1 x2 x3 x4 x5 x6 = some r → Run F (I x0 x1 x2 x3 x4 x5 x6) c (thenQ (fun σ' => ∃ y0 y1 y2 y3 y4 y5 y6, f k y0 y1 y2 y3 y4 y5 y6 = some r ∧ Weak F σ' (I y0 y1 y2 y3 y4 y5 y6)) Q)) : Run F σ (.loop c) Q :=
  Run.loop (α := Nat × α0 × α1 × α2 × α3 × α4 × α5 × α6) (fun q => (fun p : α0 × α1 × α2 × α3 × α4 × α5 × α6 => I p.1 p.2.1 p.2.2.1 p.2.2.2.1 p.2.2.2.2.1 p.2.2.2.2.2.1 p.2.2.2.2.2.2) q.2) (fun q => (fun p : α0 × α1 × α2 × α3 × α4 × α5 × α6 => f q.1 p.1 p.2.1 p.2.2.1 p.2.2.2.1 p.2.2.2.2.1 p.2.2.2.2.2.1 p.2.2.2.2.2.2 = some r) q.2) (fun q => q.1) (k, (x0, x1, x2, x3, x4, x5, x6)) h0 h (by
    rintro ⟨k, p⟩ hk
    cases k with
    | zero => rw [show f 0 p.1 p.2.1 p.2.2.1 p.2.2.2.1 p.2.2.2.2.1 p.2.2.2.2.2.1 p.2.2.2.2.2.2 = none from hz _ _ _ _ _ _ _] at hk; cases hk
    | succ k => exact (hr k _ _ _ _ _ _ _ hk).mono fun e σ' => by cases e <;> first | exact fun h => h | (rintro ⟨y0, y1, y2, y3, y4, y5, y6, h1, h2⟩; exact ⟨(k, (y0, y1, y2, y3, y4, y5, y6)), Nat.lt_succ_self k, h1, h2⟩))
theorem Run.join7 {α0 α1 α2 α3 α4 α5 α6 R : Type} (f : α0 → α1 → α2 → α3 → α4 → α5 → α6 → Option R) {r : R} (J : α0 → α1 → α2 → α3 → α4 → α5 → α6 → St) (hx : Run F σ c (thenQ (fun σ' => ∃ y0 y1 y2 y3 y4 y5 y6, f y0 y1 y2 y3 y4 y5 y6 = some r ∧ Weak F σ' (J y0 y1 y2 y3 y4 y5 y6)) Q)) (hy : ∀ y0 y1 y2 y3 y4 y5 y6, f y0 y1 y2 y3 y4 y5 y6 = some r → Run F (J y0 y1 y2 y3 y4 y5 y6) d Q) : Run F σ (.seq c d) Q :=
  Run.seq (hx.mono fun e σ' => by cases e <;> first | exact fun h => h | (rintro ⟨y0, y1, y2, y3, y4, y5, y6, h1, h2⟩; exact (hy _ _ _ _ _ _ _ h1).weak h2))

theorem Run.loop8 {α0 α1 α2 α3 α4 α5 α6 α7 R : Type} {f : Nat → α0 → α1 → α2 → α3 → α4 → α5 → α6 → α7 → Option R} {r : R} (I : α0 → α1 → α2 → α3 → α4 → α5 → α6 → α7 → St) {k : Nat} {x0 x1 x2 x3 x4 x5 x6 x7} (h : f k x0 x1 x2 x3 x4 x5 x6 x7 = some r) (h0 : Weak F σ (I x0 x1 x2 x3 x4 x5 x6 x7)) (hz : ∀ x0 x1 x2 x3 x4 x5 x6 x7, f 0 x0 x1 x2 x3 x4 x5 x6 x7 = none)
    (hr : ∀ k x0 x1 x2 x3 x4 x5 x6 x7, f (k + 1) x0 x1 x2 x3 x4 x5 x6 x7 = some r → Run F (I x0 x1 x2 x3 x4 x5 x6 x7) c (thenQ (fun σ' => ∃ y0 y1 y2 y3 y4 y5 y6 y7, f k y0 y1 y2 y3 y4 y5 y6 y7 = some r ∧ Weak F σ' (I y0 y1 y2 y3 y4 y5 y6 y7)) Q)) : Run F σ (.loop c) Q :=
  Run.loop (α := Nat × α0 × α1 × α2 × α3 × α4 × α5 × α6 × α7) (fun q => (fun p : α0 × α1 × α2 × α3 × α4 × α5 × α6 × α7 => I p.1 p.2.1 p.2.2.1 p.2.2.2.1 p.2.2.2.2.1 p.2.2.2.2.2.1 p.2.2.2.2.2.2.1 p.2.2.2.2.2.2.2) q.2) (fun q => (fun p : α0 × α1 × α2 × α3 × α4 × α5 × α6 × α7 => f q.1 p.1 p.2.1 p.2.2.1 p.2.2.2.1 p.2.2.2.2.1 p.2.2.2.2.2.1 p.2.2.2.2.2.2.1 p.2.2.2.2.2.2.2 = some r) q.2) (fun q => q.1) (k, (x0, x1, x2, x3, x4, x5, x6, x7)) h0 h (by
    rintro ⟨k, p⟩ hk
    cases k with
    | zero => rw [show f 0 p.1 p.2.1 p.2.2.1 p.2.2.2.1 p.2.2.2.2.1 p.2.2.2.2.2.1 p.2.2.2.2.2.2.1 p.2.2.2.2.2.2.2 = none from hz _ _ _ _ _ _ _ _] at hk; cases hk
    | succ k => exact (hr k _ _ _ _ _ _ _ _ hk).mono fun e σ' => by cases e <;> first | exact fun h => h | (rintro ⟨y0, y1, y2, y3, y4, y5, y6, y7, h1, h2⟩; exact ⟨(k, (y0, y1, y2, y3, y4, y5, y6, y7)), Nat.lt_succ_self k, h1, h2⟩))
theorem Run.join8 {α0 α1 α2 α3 α4 α5 α6 α7 R : Type} (f : α0 → α1 → α2 → α3 → α4 → α5 → α6 → α7 → Option R) {r : R} (J : α0 → α1 → α2 → α3 → α4 → α5 → α6 → α7 → St) (hx : Run F σ c (thenQ (fun σ' => ∃ y0 y1 y2 y3 y4 y5 y6 y7, f y0 y1 y2 y3 y4 y5 y6 y7 = some r ∧ Weak F σ' (J y0 y1 y2 y3 y4 y5 y6 y7)) Q)) (hy : ∀ y0 y1 y2 y3 y4 y5 y6 y7, f y0 y1 y2 y3 y4 y5 y6 y7 = some r → Run F (J y0 y1 y2 y3 y4 y5 y6 y7) d Q) : Run F σ (.seq c d) Q :=
  Run.seq (hx.mono fun e σ' => by cases e <;> first | exact fun h => h | (rintro ⟨y0, y1, y2, y3, y4, y5, y6, y7, h1, h2⟩; exact (hy _ _ _ _ _ _ _ _ h1).weak h2))

theorem Run.loop9 {α0 α1 α2 α3 α4 α5 α6 α7 α8 R : Type} {f : Nat → α0 → α1 → α2 → α3 → α4 → α5 → α6 → α7 → α8 → Option R} {r : R} (I : α0 → α1 → α2 → α3 → α4 → α5 → α6 → α7 → α8 → St) {k : Nat} {x0 x1 x2 x3 x4 x5 x6 x7 x8} (h : f k x0 x1 x2 x3 x4 x5 x6 x7 x8 = some r) (h0 : Weak F σ (I x0 x1 x2 x3 x4 x5 x6 x7 x8)) (hz : ∀ x0 x1 x2 x3 x4 x5 x6 x7 x8, f 0 x0 x1 x2 x3 x4 x5 x6 x7 x8 = none)
    (hr : ∀ k x0 x1 x2 x3 x4 x5 x6 x7 x8, f (k + 1) x0 x1 x2 x3 x4 x5 x6 x7 x8 = some r → Run F (I x0 x1 x2 x3 x4 x5 x6 x7 x8) c (thenQ (fun σ' => ∃ y0 y1 y2 y3 y4 y5 y6 y7 y8, f k y0 y1 y2 y3 y4 y5 y6 y7 y8 = some r ∧ Weak F σ' (I y0 y1 y2 y3 y4 y5 y6 y7 y8)) Q)) : Run F σ (.loop c) Q :=
  Run.loop (α := Nat × α0 × α1 × α2 × α3 × α4 × α5 × α6 × α7 × α8) (fun q => (fun p : α0 × α1 × α2 × α3 × α4 × α5 × α6 × α7 × α8 => I p.1 p.2.1 p.2.2.1 p.2.2.2.1 p.2.2.2.2.1 p.2.2.2.2.2.1 p.2.2.2.2.2.2.1 p.2.2.2.2.2.2.2.1 p.2.2.2.2.2.2.2.2) q.2) (fun q => (fun p : α0 × α1 × α2 × α3 × α4 × α5 × α6 × α7 × α8 => f q.1 p.1 p.2.1 p.2.2.1 p.2.2.2.1 p.2.2.2.2.1 p.2.2.2.2.2.1 p.2.2.2.2.2.2.1 p.2.2.2.2.2.2.2.1 p.2.2.2.2.2.2.2.2 = some r) q.2) (fun q => q.1) (k, (x0, x1, x2, x3, x4, x5, x6, x7, x8)) h0 h (by
    rintro ⟨k, p⟩ hk
    cases k with
    | zero => rw [show f 0 p.1 p.2.1 p.2.2.1 p.2.2.2.1 p.2.2.2.2.1 p.2.2.2.2.2.1 p.2.2.2.2.2.2.1 p.2.2.2.2.2.2.2.1 p.2.2.2.2.2.2.2.2 = none from hz _ _ _ _ _ _ _ _ _] at hk; cases hk
    | succ k => exact (hr k _ _ _ _ _ _ _ _ _ hk).mono fun e σ' => by cases e <;> first | exact fun h => h | (rintro ⟨y0, y1, y2, y3, y4, y5, y6, y7, y8, h1, h2⟩; exact ⟨(k, (y0, y1, y2, y3, y4, y5, y6, y7, y8)), Nat.lt_succ_self k, h1, h2⟩))
theorem Run.join9 {α0 α1 α2 α3 α4 α5 α6 α7 α8 R : Type} (f : α0 → α1 → α2 → α3 → α4 → α5 → α6 → α7 → α8 → Option R) {r : R} (J : α0 → α1 → α2 → α3 → α4 → α5 → α6 → α7 → α8 → St) (hx : Run F σ c (thenQ (fun σ' => ∃ y0 y1 y2 y3 y4 y5 y6 y7 y8, f y0 y1 y2 y3 y4 y5 y6 y7 y8 = some r ∧ Weak F σ' (J y0 y1 y2 y3 y4 y5 y6 y7 y8)) Q)) (hy : ∀ y0 y1 y2 y3 y4 y5 y6 y7 y8, f y0 y1 y2 y3 y4 y5 y6 y7 y8 = some r → Run F (J y0 y1 y2 y3 y4 y5 y6 y7 y8) d Q) : Run F σ (.seq c d) Q :=
  Run.seq (hx.mono fun e σ' => by cases e <;> first | exact fun h => h | (rintro ⟨y0, y1, y2, y3, y4, y5, y6, y7, y8, h1, h2⟩; exact (hy _ _ _ _ _ _ _ _ _ h1).weak h2))

theorem Run.loop10 {α0 α1 α2 α3 α4 α5 α6 α7 α8 α9 R : Type} {f : Nat → α0 → α1 → α2 → α3 → α4 → α5 → α6 → α7 → α8 → α9 → Option R} {r : R} (I : α0 → α1 → α2 → α3 → α4 → α5 → α6 → α7 → α8 → α9 → St) {k : Nat} {x0 x1 x2 x3 x4 x5 x6 x7 x8 x9} (h : f k x0 x1 x2 x3 x4 x5 x6 x7 x8 x9 = some r) (h0 : Weak F σ (I x0 x1 x2 x3 x4 x5 x6 x7 x8 x9)) (hz : ∀ x0 x1 x2 x3 x4 x5 x6 x7 x8 x9, f 0 x0 x1 x2 x3 x4 x5 x6 x7 x8 x9 = none)
    (hr : ∀ k x0 x1 x2 x3 x4 x5 x6 x7 x8 x9, f (k + 1) x0 x1 x2 x3 x4 x5 x6 x7 x8 x9 = some r → Run F (I x0 x1 x2 x3 x4 x5 x6 x7 x8 x9) c (thenQ (fun σ' => ∃ y0 y1 y2 y3 y4 y5 y6 y7 y8 y9, f k y0 y1 y2 y3 y4 y5 y6 y7 y8 y9 = some r ∧ Weak F σ' (I y0 y1 y2 y3 y4 y5 y6 y7 y8 y9)) Q)) : Run F σ (.loop c) Q :=
  Run.loop (α := Nat × α0 × α1 × α2 × α3 × α4 × α5 × α6 × α7 × α8 × α9) (fun q => (fun p : α0 × α1 × α2 × α3 × α4 × α5 × α6 × α7 × α8 × α9 => I p.1 p.2.1 p.2.2.1 p.2.2.2.1 p.2.2.2.2.1 p.2.2.2.2.2.1 p.2.2.2.2.2.2.1 p.2.2.2.2.2.2.2.1 p.2.2.2.2.2.2.2.2.1 p.2.2.2.2.2.2.2.2.2) q.2) (fun q => (fun p : α0 × α1 × α2 × α3 × α4 × α5 × α6 × α7 × α8 × α9 => f q.1 p.1 p.2.1 p.2.2.1 p.2.2.2.1 p.2.2.2.2.1 p.2.2.2.2.2.1 p.2.2.2.2.2.2.1 p.2.2.2.2.2.2.2.1 p.2.2.2.2.2.2.2.2.1 p.2.2.2.2.2.2.2.2.2 = some r) q.2) (fun q => q.1) (k, (x0, x1, x2, x3, x4, x5, x6, x7, x8, x9)) h0 h (by
    rintro ⟨k, p⟩ hk
    cases k with
    | zero => rw [show f 0 p.1 p.2.1 p.2.2.1 p.2.2.2.1 p.2.2.2.2.1 p.2.2.2.2.2.1 p.2.2.2.2.2.2.1 p.2.2.2.2.2.2.2.1 p.2.2.2.2.2.2.2.2.1 p.2.2.2.2.2.2.2.2.2 = none from hz _ _ _ _ _ _ _ _ _ _] at hk; cases hk
    | succ k => exact (hr k _ _ _ _ _ _ _ _ _ _ hk).mono fun e σ' => by cases e <;> first | exact fun h => h | (rintro ⟨y0, y1, y2, y3, y4, y5, y6, y7, y8, y9, h1, h2⟩; exact ⟨(k, (y0, y1, y2, y3, y4, y5, y6, y7, y8, y9)), Nat.lt_succ_self k, h1, h2⟩))
theorem Run.join10 {α0 α1 α2 α3 α4 α5 α6 α7 α8 α9 R : Type} (f : α0 → α1 → α2 → α3 → α4 → α5 → α6 → α7 → α8 → α9 → Option R) {r : R} (J : α0 → α1 → α2 → α3 → α4 → α5 → α6 → α7 → α8 → α9 → St) (hx : Run F σ c (thenQ (fun σ' => ∃ y0 y1 y2 y3 y4 y5 y6 y7 y8 y9, f y0 y1 y2 y3 y4 y5 y6 y7 y8 y9 = some r ∧ Weak F σ' (J y0 y1 y2 y3 y4 y5 y6 y7 y8 y9)) Q)) (hy : ∀ y0 y1 y2 y3 y4 y5 y6 y7 y8 y9, f y0 y1 y2 y3 y4 y5 y6 y7 y8 y9 = some r → Run F (J y0 y1 y2 y3 y4 y5 y6 y7 y8 y9) d Q) : Run F σ (.seq c d) Q :=
  Run.seq (hx.mono fun e σ' => by cases e <;> first | exact fun h => h | (rintro ⟨y0, y1, y2, y3, y4, y5, y6, y7, y8, y9, h1, h2⟩; exact (hy _ _ _ _ _ _ _ _ _ _ h1).weak h2))

theorem Run.loop11 {α0 α1 α2 α3 α4 α5 α6 α7 α8 α9 α10 R : Type} {f : Nat → α0 → α1 → α2 → α3 → α4 → α5 → α6 → α7 → α8 → α9 → α10 → Option R} {r : R} (I : α0 → α1 → α2 → α3 → α4 → α5 → α6 → α7 → α8 → α9 → α10 → St) {k : Nat} {x0 x1 x2 x3 x4 x5 x6 x7 x8 x9 x10} (h : f k x0 x1 x2 x3 x4 x5 x6 x7 x8 x9 x10 = some r) (h0 : Weak F σ (I x0 x1 x2 x3 x4 x5 x6 x7 x8 x9 x10)) (hz : ∀ x0 x1 x2 x3 x4 x5 x6 x7 x8 x9 x10, f 0 x0 x1 x2 x3 x4 x5 x6 x7 x8 x9 x10 = none)
    (hr : ∀ k x0 x1 x2 x3 x4 x5 x6 x7 x8 x9 x10, f (k + 1) x0 x1 x2 x3 x4 x5 x6 x7 x8 x9 x10 = some r → Run F (I x0 x1 x2 x3 x4 x5 x6 x7 x8 x9 x10) c (thenQ (fun σ' => ∃ y0 y1 y2 y3 y4 y5 y6 y7 y8 y9 y10, f k y0 y1 y2 y3 y4 y5 y6 y7 y8 y9 y10 = some r ∧ Weak F σ' (I y0 y1 y2 y3 y4 y5 y6 y7 y8 y9 y10)) Q)) : Run F σ (.loop c) Q :=
  Run.loop (α := Nat × α0 × α1 × α2 × α3 × α4 × α5 × α6 × α7 × α8 × α9 × α10) (fun q => (fun p : α0 × α1 × α2 × α3 × α4 × α5 × α6 × α7 × α8 × α9 × α10 => I p.1 p.2.1 p.2.2.1 p.2.2.2.1 p.2.2.2.2.1 p.2.2.2.2.2.1 p.2.2.2.2.2.2.1 p.2.2.2.2.2.2.2.1 p.2.2.2.2.2.2.2.2.1 p.2.2.2.2.2.2.2.2.2.1 p.2.2.2.2.2.2.2.2.2.2) q.2) (fun q => (fun p : α0 × α1 × α2 × α3 × α4 × α5 × α6 × α7 × α8 × α9 × α10 => f q.1 p.1 p.2.1 p.2.2.1 p.2.2.2.1 p.2.2.2.2.1 p.2.2.2.2.2.1 p.2.2.2.2.2.2.1 p.2.2.2.2.2.2.2.1 p.2.2.2.2.2.2.2.2.1 p.2.2.2.2.2.2.2.2.2.1 p.2.2.2.2.2.2.2.2.2.2 = some r) q.2) (fun q => q.1) (k, (x0, x1, x2, x3, x4, x5, x6, x7, x8, x9, x10)) h0 h (by
    rintro ⟨k, p⟩ hk
    cases k with
    | zero => rw [show f 0 p.1 p.2.1 p.2.2.1 p.2.2.2.1 p.2.2.2.2.1 p.2.2.2.2.2.1 p.2.2.2.2.2.2.1 p.2.2.2.2.2.2.2.1 p.2.2.2.2.2.2.2.2.1 p.2.2.2.2.2.2.2.2.2.1 p.2.2.2.2.2.2.2.2.2.2 = none from hz _ _ _ _ _ _ _ _ _ _ _] at hk; cases hk
    | succ k => exact (hr k _ _ _ _ _ _ _ _ _ _ _ hk).mono fun e σ' => by cases e <;> first | exact fun h => h | (rintro ⟨y0, y1, y2, y3, y4, y5, y6, y7, y8, y9, y10, h1, h2⟩; exact ⟨(k, (y0, y1, y2, y3, y4, y5, y6, y7, y8, y9, y10)), Nat.lt_succ_self k, h1, h2⟩))
theorem Run.join11 {α0 α1 α2 α3 α4 α5 α6 α7 α8 α9 α10 R : Type} (f : α0 → α1 → α2 → α3 → α4 → α5 → α6 → α7 → α8 → α9 → α10 → Option R) {r : R} (J : α0 → α1 → α2 → α3 → α4 → α5 → α6 → α7 → α8 → α9 → α10 → St) (hx : Run F σ c (thenQ (fun σ' => ∃ y0 y1 y2 y3 y4 y5 y6 y7 y8 y9 y10, f y0 y1 y2 y3 y4 y5 y6 y7 y8 y9 y10 = some r ∧ Weak F σ' (J y0 y1 y2 y3 y4 y5 y6 y7 y8 y9 y10)) Q)) (hy : ∀ y0 y1 y2 y3 y4 y5 y6 y7 y8 y9 y10, f y0 y1 y2 y3 y4 y5 y6 y7 y8 y9 y10 = some r → Run F (J y0 y1 y2 y3 y4 y5 y6 y7 y8 y9 y10) d Q) : Run F σ (.seq c d) Q :=
  Run.seq (hx.mono fun e σ' => by cases e <;> first | exact fun h => h | (rintro ⟨y0, y1, y2, y3, y4, y5, y6, y7, y8, y9, y10, h1, h2⟩; exact (hy _ _ _ _ _ _ _ _ _ _ _ h1).weak h2))

theorem Run.loop12 {α0 α1 α2 α3 α4 α5 α6 α7 α8 α9 α10 α11 R : Type} {f : Nat → α0 → α1 → α2 → α3 → α4 → α5 → α6 → α7 → α8 → α9 → α10 → α11 → Option R} {r : R} (I : α0 → α1 → α2 → α3 → α4 → α5 → α6 → α7 → α8 → α9 → α10 → α11 → St) {k : Nat} {x0 x1 x2 x3 x4 x5 x6 x7 x8 x9 x10 x11} (h : f k x0 x1 x2 x3 x4 x5 x6 x7 x8 x9 x10 x11 = some r) (h0 : Weak F σ (I x0 x1 x2 x3 x4 x5 x6 x7 x8 x9 x10 x11)) (hz : ∀ x0 x1 x2 x3 x4 x5 x6 x7 x8 x9 x10 x11, f 0 x0 x1 x2 x3 x4 x5 x6 x7 x8 x9 x10 x11 = none)
    (hr : ∀ k x0 x1 x2 x3 x4 x5 x6 x7 x8 x9 x10 x11, f (k + 1) x0 x1 x2 x3 x4 x5 x6 x7 x8 x9 x10 x11 = some r → Run F (I x0 x1 x2 x3 x4 x5 x6 x7 x8 x9 x10 x11) c (thenQ (fun σ' => ∃ y0 y1 y2 y3 y4 y5 y6 y7 y8 y9 y10 y11, f k y0 y1 y2 y3 y4 y5 y6 y7 y8 y9 y10 y11 = some r ∧ Weak F σ' (I y0 y1 y2 y3 y4 y5 y6 y7 y8 y9 y10 y11)) Q)) : Run F σ (.loop c) Q :=
  Run.loop (α := Nat × α0 × α1 × α2 × α3 × α4 × α5 × α6 × α7 × α8 × α9 × α10 × α11) (fun q => (fun p : α0 × α1 × α2 × α3 × α4 × α5 × α6 × α7 × α8 × α9 × α10 × α11 => I p.1 p.2.1 p.2.2.1 p.2.2.2.1 p.2.2.2.2.1 p.2.2.2.2.2.1 p.2.2.2.2.2.2.1 p.2.2.2.2.2.2.2.1 p.2.2.2.2.2.2.2.2.1 p.2.2.2.2.2.2.2.2.2.1 p.2.2.2.2.2.2.2.2.2.2.1 p.2.2.2.2.2.2.2.2.2.2.2) q.2) (fun q => (fun p : α0 × α1 × α2 × α3 × α4 × α5 × α6 × α7 × α8 × α9 × α10 × α11 => f q.1 p.1 p.2.1 p.2.2.1 p.2.2.2.1 p.2.2.2.2.1 p.2.2.2.2.2.1 p.2.2.2.2.2.2.1 p.2.2.2.2.2.2.2.1 p.2.2.2.2.2.2.2.2.1 p.2.2.2.2.2.2.2.2.2.1 p.2.2.2.2.2.2.2.2.2.2.1 p.2.2.2.2.2.2.2.2.2.2.2 = some r) q.2) (fun q => q.1) (k, (x0, x1, x2, x3, x4, x5, x6, x7, x8, x9, x10, x11)) h0 h (by
    rintro ⟨k, p⟩ hk
    cases k with
    | zero => rw [show f 0 p.1 p.2.1 p.2.2.1 p.2.2.2.1 p.2.2.2.2.1 p.2.2.2.2.2.1 p.2.2.2.2.2.2.1 p.2.2.2.2.2.2.2.1 p.2.2.2.2.2.2.2.2.1 p.2.2.2.2.2.2.2.2.2.1 p.2.2.2.2.2.2.2.2.2.2.1 p.2.2.2.2.2.2.2.2.2.2.2 = none from hz _ _ _ _ _ _ _ _ _ _ _ _] at hk; cases hk
    | succ k => exact (hr k _ _ _ _ _ _ _ _ _ _ _ _ hk).mono fun e σ' => by cases e <;> first | exact fun h => h | (rintro ⟨y0, y1, y2, y3, y4, y5, y6, y7, y8, y9, y10, y11, h1, h2⟩; exact ⟨(k, (y0, y1, y2, y3, y4, y5, y6, y7, y8, y9, y10, y11)), Nat.lt_succ_self k, h1, h2⟩))
theorem Run.join12 {α0 α1 α2 α3 α4 α5 α6 α7 α8 α9 α10 α11 R : Type} (f : α0 → α1 → α2 → α3 → α4 → α5 → α6 → α7 → α8 → α9 → α10 → α11 → Option R) {r : R} (J : α0 → α1 → α2 → α3 → α4 → α5 → α6 → α7 → α8 → α9 → α10 → α11 → St) (hx : Run F σ c (thenQ (fun σ' => ∃ y0 y1 y2 y3 y4 y5 y6 y7 y8 y9 y10 y11, f y0 y1 y2 y3 y4 y5 y6 y7 y8 y9 y10 y11 = some r ∧ Weak F σ' (J y0 y1 y2 y3 y4 y5 y6 y7 y8 y9 y10 y11)) Q)) (hy : ∀ y0 y1 y2 y3 y4 y5 y6 y7 y8 y9 y10 y11, f y0 y1 y2 y3 y4 y5 y6 y7 y8 y9 y10 y11 = some r → Run F (J y0 y1 y2 y3 y4 y5 y6 y7 y8 y9 y10 y11) d Q) : Run F σ (.seq c d) Q :=
  Run.seq (hx.mono fun e σ' => by cases e <;> first | exact fun h => h | (rintro ⟨y0, y1, y2, y3, y4, y5, y6, y7, y8, y9, y10, y11, h1, h2⟩; exact (hy _ _ _ _ _ _ _ _ _ _ _ _ h1).weak h2))

theorem Run.loop13 {α0 α1 α2 α3 α4 α5 α6 α7 α8 α9 α10 α11 α12 R : Type} {f : Nat → α0 → α1 → α2 → α3 → α4 → α5 → α6 → α7 → α8 → α9 → α10 → α11 → α12 → Option R} {r : R} (I : α0 → α1 → α2 → α3 → α4 → α5 → α6 → α7 → α8 → α9 → α10 → α11 → α12 → St) {k : Nat} {x0 x1 x2 x3 x4 x5 x6 x7 x8 x9 x10 x11 x12} (h : f k x0 x1 x2 x3 x4 x5 x6 x7 x8 x9 x10 x11 x12 = some r) (h0 : Weak F σ (I x0 x1 x2 x3 x4 x5 x6 x7 x8 x9 x10 x11 x12)) (hz : ∀ x0 x1 x2 x3 x4 x5 x6 x7 x8 x9 x10 x11 x12, f 0 x0 x1 x2 x3 x4 x5 x6 x7 x8 x9 x10 x11 x12 = none)
    (hr : ∀ k x0 x1 x2 x3 x4 x5 x6 x7 x8 x9 x10 x11 x12, f (k + 1) x0 x1 x2 x3 x4 x5 x6 x7 x8 x9 x10 x11 x12 = some r → Run F (I x0 x1 x2 x3 x4 x5 x6 x7 x8 x9 x10 x11 x12) c (thenQ (fun σ' => ∃ y0 y1 y2 y3 y4 y5 y6 y7 y8 y9 y10 y11 y12, f k y0 y1 y2 y3 y4 y5 y6 y7 y8 y9 y10 y11 y12 = some r ∧ Weak F σ' (I y0 y1 y2 y3 y4 y5 y6 y7 y8 y9 y10 y11 y12)) Q)) : Run F σ (.loop c) Q :=
  Run.loop (α := Nat × α0 × α1 × α2 × α3 × α4 × α5 × α6 × α7 × α8 × α9 × α10 × α11 × α12) (fun q => (fun p : α0 × α1 × α2 × α3 × α4 × α5 × α6 × α7 × α8 × α9 × α10 × α11 × α12 => I p.1 p.2.1 p.2.2.1 p.2.2.2.1 p.2.2.2.2.1 p.2.2.2.2.2.1 p.2.2.2.2.2.2.1 p.2.2.2.2.2.2.2.1 p.2.2.2.2.2.2.2.2.1 p.2.2.2.2.2.2.2.2.2.1 p.2.2.2.2.2.2.2.2.2.2.1 p.2.2.2.2.2.2.2.2.2.2.2.1 p.2.2.2.2.2.2.2.2.2.2.2.2) q.2) (fun q => (fun p : α0 × α1 × α2 × α3 × α4 × α5 × α6 × α7 × α8 × α9 × α10 × α11 × α12 => f q.1 p.1 p.2.1 p.2.2.1 p.2.2.2.1 p.2.2.2.2.1 p.2.2.2.2.2.1 p.2.2.2.2.2.2.1 p.2.2.2.2.2.2.2.1 p.2.2.2.2.2.2.2.2.1 p.2.2.2.2.2.2.2.2.2.1 p.2.2.2.2.2.2.2.2.2.2.1 p.2.2.2.2.2.2.2.2.2.2.2.1 p.2.2.2.2.2.2.2.2.2.2.2.2 = some r) q.2) (fun q => q.1) (k, (x0, x1, x2, x3, x4, x5, x6, x7, x8, x9, x10, x11, x12)) h0 h (by
    rintro ⟨k, p⟩ hk
    cases k with
    | zero => rw [show f 0 p.1 p.2.1 p.2.2.1 p.2.2.2.1 p.2.2.2.2.1 p.2.2.2.2.2.1 p.2.2.2.2.2.2.1 p.2.2.2.2.2.2.2.1 p.2.2.2.2.2.2.2.2.1 p.2.2.2.2.2.2.2.2.2.1 p.2.2.2.2.2.2.2.2.2.2.1 p.2.2.2.2.2.2.2.2.2.2.2.1 p.2.2.2.2.2.2.2.2.2.2.2.2 = none from hz _ _ _ _ _ _ _ _ _ _ _ _ _] at hk; cases hk
    | succ k => exact (hr k _ _ _ _ _ _ _ _ _ _ _ _ _ hk).mono fun e σ' => by cases e <;> first | exact fun h => h | (rintro ⟨y0, y1, y2, y3, y4, y5, y6, y7, y8, y9, y10, y11, y12, h1, h2⟩; exact ⟨(k, (y0, y1, y2, y3, y4, y5, y6, y7, y8, y9, y10, y11, y12)), Nat.lt_succ_self k, h1, h2⟩))
theorem Run.join13 {α0 α1 α2 α3 α4 α5 α6 α7 α8 α9 α10 α11 α12 R : Type} (f : α0 → α1 → α2 → α3 → α4 → α5 → α6 → α7 → α8 → α9 → α10 → α11 → α12 → Option R) {r : R} (J : α0 → α1 → α2 → α3 → α4 → α5 → α6 → α7 → α8 → α9 → α10 → α11 → α12 → St) (hx : Run F σ c (thenQ (fun σ' => ∃ y0 y1 y2 y3 y4 y5 y6 y7 y8 y9 y10 y11 y12, f y0 y1 y2 y3 y4 y5 y6 y7 y8 y9 y10 y11 y12 = some r ∧ Weak F σ' (J y0 y1 y2 y3 y4 y5 y6 y7 y8 y9 y10 y11 y12)) Q)) (hy : ∀ y0 y1 y2 y3 y4 y5 y6 y7 y8 y9 y10 y11 y12, f y0 y1 y2 y3 y4 y5 y6 y7 y8 y9 y10 y11 y12 = some r → Run F (J y0 y1 y2 y3 y4 y5 y6 y7 y8 y9 y10 y11 y12) d Q) : Run F σ (.seq c d) Q :=
  Run.seq (hx.mono fun e σ' => by cases e <;> first | exact fun h => h | (rintro ⟨y0, y1, y2, y3, y4, y5, y6, y7, y8, y9, y10, y11, y12, h1, h2⟩; exact (hy _ _ _ _ _ _ _ _ _ _ _ _ _ h1).weak h2))

theorem Run.loop14 {α0 α1 α2 α3 α4 α5 α6 α7 α8 α9 α10 α11 α12 α13 R : Type} {f : Nat → α0 → α1 → α2 → α3 → α4 → α5 → α6 → α7 → α8 → α9 → α10 → α11 → α12 → α13 → Option R} {r : R} (I : α0 → α1 → α2 → α3 → α4 → α5 → α6 → α7 → α8 → α9 → α10 → α11 → α12 → α13 → St) {k : Nat} {x0 x1 x2 x3 x4 x5 x6 x7 x8 x9 x10 x11 x12 x13} (h : f k x0 x1 x2 x3 x4 x5 x6 x7 x8 x9 x10 x11 x12 x13 = some r) (h0 : Weak F σ (I x0 x1 x2 x3 x4 x5 x6 x7 x8 x9 x10 x11 x12 x13)) (hz : ∀ x0 x1 x2 x3 x4 x5 x6 x7 x8 x9 x10 x11 x12 x13, f 0 x0 x1 x2 x3 x4 x5 x6 x7 x8 x9 x10 x11 x12 x13 = none)
    (hr : ∀ k x0 x1 x2 x3 x4 x5 x6 x7 x8 x9 x10 x11 x12 x13, f (k + 1) x0 x1 x2 x3 x4 x5 x6 x7 x8 x9 x10 x11 x12 x13 = some r → Run F (I x0 x1 x2 x3 x4 x5 x6 x7 x8 x9 x10 x11 x12 x13) c (thenQ (fun σ' => ∃ y0 y1 y2 y3 y4 y5 y6 y7 y8 y9 y10 y11 y12 y13, f k y0 y1 y2 y3 y4 y5 y6 y7 y8 y9 y10 y11 y12 y13 = some r ∧ Weak F σ' (I y0 y1 y2 y3 y4 y5 y6 y7 y8 y9 y10 y11 y12 y13)) Q)) : Run F σ (.loop c) Q :=
  Run.loop (α := Nat × α0 × α1 × α2 × α3 × α4 × α5 × α6 × α7 × α8 × α9 × α10 × α11 × α12 × α13) (fun q => (fun p : α0 × α1 × α2 × α3 × α4 × α5 × α6 × α7 × α8 × α9 × α10 × α11 × α12 × α13 => I p.1 p.2.1 p.2.2.1 p.2.2.2.1 p.2.2.2.2.1 p.2.2.2.2.2.1 p.2.2.2.2.2.2.1 p.2.2.2.2.2.2.2.1 p.2.2.2.2.2.2.2.2.1 p.2.2.2.2.2.2.2.2.2.1 p.2.2.2.2.2.2.2.2.2.2.1 p.2.2.2.2.2.2.2.2.2.2.2.1 p.2.2.2.2.2.2.2.2.2.2.2.2.1 p.2.2.2.2.2.2.2.2.2.2.2.2.2) q.2) (fun q => (fun p : α0 × α1 × α2 × α3 × α4 × α5 × α6 × α7 × α8 × α9 × α10 × α11 × α12 × α13 => f q.1 p.1 p.2.1 p.2.2.1 p.2.2.2.1 p.2.2.2.2.1 p.2.2.2.2.2.1 p.2.2.2.2.2.2.1 p.2.2.2.2.2.2.2.1 p.2.2.2.2.2.2.2.2.1 p.2.2.2.2.2.2.2.2.2.1 p.2.2.2.2.2.2.2.2.2.2.1 p.2.2.2.2.2.2.2.2.2.2.2.1 p.2.2.2.2.2.2.2.2.2.2.2.2.1 p.2.2.2.2.2.2.2.2.2.2.2.2.2 = some r) q.2) (fun q => q.1) (k, (x0, x1, x2, x3, x4, x5, x6, x7, x8, x9, x10, x11, x12, x13)) h0 h (by
    rintro ⟨k, p⟩ hk
    cases k with
    | zero => rw [show f 0 p.1 p.2.1 p.2.2.1 p.2.2.2.1 p.2.2.2.2.1 p.2.2.2.2.2.1 p.2.2.2.2.2.2.1 p.2.2.2.2.2.2.2.1 p.2.2.2.2.2.2.2.2.1 p.2.2.2.2.2.2.2.2.2.1 p.2.2.2.2.2.2.2.2.2.2.1 p.2.2.2.2.2.2.2.2.2.2.2.1 p.2.2.2.2.2.2.2.2.2.2.2.2.1 p.2.2.2.2.2.2.2.2.2.2.2.2.2 = none from hz _ _ _ _ _ _ _ _ _ _ _ _ _ _] at hk; cases hk
    | succ k => exact (hr k _ _ _ _ _ _ _ _ _ _ _ _ _ _ hk).mono fun e σ' => by cases e <;> first | exact fun h => h | (rintro ⟨y0, y1, y2, y3, y4, y5, y6, y7, y8, y9, y10, y11, y12, y13, h1, h2⟩; exact ⟨(k, (y0, y1, y2, y3, y4, y5, y6, y7, y8, y9, y10, y11, y12, y13)), Nat.lt_succ_self k, h1, h2⟩))
theorem Run.join14 {α0 α1 α2 α3 α4 α5 α6 α7 α8 α9 α10 α11 α12 α13 R : Type} (f : α0 → α1 → α2 → α3 → α4 → α5 → α6 → α7 → α8 → α9 → α10 → α11 → α12 → α13 → Option R) {r : R} (J : α0 → α1 → α2 → α3 → α4 → α5 → α6 → α7 → α8 → α9 → α10 → α11 → α12 → α13 → St) (hx : Run F σ c (thenQ (fun σ' => ∃ y0 y1 y2 y3 y4 y5 y6 y7 y8 y9 y10 y11 y12 y13, f y0 y1 y2 y3 y4 y5 y6 y7 y8 y9 y10 y11 y12 y13 = some r ∧ Weak F σ' (J y0 y1 y2 y3 y4 y5 y6 y7 y8 y9 y10 y11 y12 y13)) Q)) (hy : ∀ y0 y1 y2 y3 y4 y5 y6 y7 y8 y9 y10 y11 y12 y13, f y0 y1 y2 y3 y4 y5 y6 y7 y8 y9 y10 y11 y12 y13 = some r → Run F (J y0 y1 y2 y3 y4 y5 y6 y7 y8 y9 y10 y11 y12 y13) d Q) : Run F σ (.seq c d) Q :=
  Run.seq (hx.mono fun e σ' => by cases e <;> first | exact fun h => h | (rintro ⟨y0, y1, y2, y3, y4, y5, y6, y7, y8, y9, y10, y11, y12, y13, h1, h2⟩; exact (hy _ _ _ _ _ _ _ _ _ _ _ _ _ _ h1).weak h2))

end Go.Proofs.Ytgicjbeaomjdgaa.L
