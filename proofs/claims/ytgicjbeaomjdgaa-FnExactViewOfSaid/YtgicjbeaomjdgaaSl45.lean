/- Two elements of a row change places: both are taken out, both are laid back. -/
import Derived.Test.YtgicjbeaomjdgaaSl44
namespace Go.Proofs.Ytgicjbeaomjdgaa.L
set_option linter.unusedVariables false
set_option linter.unusedSimpArgs false
open Go
variable {F : Fr} {w : World} {S : Nat → Prop} {G : Gh} {φ : Nat → Nat → Prop} {tab : List (Nat × Ty)}

theorem WeakS.take2 {n nx : Nat} {env : List (Nat × V)} {objs : List (Nat × O)} (ht : TabOk F.P tab) (id : Nat) (i1 i2 : Int) (j nid1 gt1 nid2 gt2 : Nat) {ver e sz e2 : Nat} {rows r1 r2 : Rws} {ty2 : Ty} (ho : look .dead objs id = .row ver e sz rows) (hty : getTy tab e2 = some ty2)
    (hf1 : freshB nx objs nid1 = true) (hf2 : freshB nx objs nid2 = true) (hnn : nq nid1 nid2 = false) (hnid : nq id nid1 = false)
    (h01 : 0 ≤ i1) (h11 : i1 < (rows.length : Int)) (hc1 : (rows.getD i1.toNat [])[j]? = some (.ow e2 r1)) (hgt1 : nl n gt1 = true)
    (h02 : 0 ≤ i2) (h12 : i2 < (rows.length : Int)) (hne : i1 ≠ i2) (hc2 : (rows.getD i2.toNat [])[j]? = some (.ow e2 r2)) (hgt2 : nl n gt2 = true) (hgg : nq gt2 gt1 = false)
    (rows' : Rws) (hrows : Ls.up (Ls.up rows i1 j [.jk]) i2 j [.jk] = rows') :
    WeakS F ⟨n, nx, env, objs⟩ ⟨n, nx, (gt2, .hl id (ver + 2) i2 j nid2) :: (gt1, .hl id (ver + 2) i1 j nid1) :: env, (nid2, .row 0 e2 ty2.size r2) :: (id, .row (ver + 2) e sz rows') :: (nid1, .row 0 e2 ty2.size r1) :: objs⟩ := by
  subst hrows
  rintro a w ⟨S, G, φ, hr⟩
  have d21 : ¬ nid2 = nid1 := by rintro rfl; simp [nq_self] at hnn
  have d1 : ¬ id = nid1 := by rintro rfl; simp [nq_self] at hnid
  have d2 : ¬ id = nid2 := by
    rintro rfl
    exact (fresh_dom hr hf2) (hr.row ho).1
  have dg : ¬ gt2 = gt1 := by rintro rfl; simp [nq_self] at hgg
  obtain ⟨G1, φ1, k1, g1, us, x1, y1⟩ := take_core ht id i1 j nid1 gt1 ho hty hf1 h01 h11 hc1 hgt1 _ rfl hr
  have ho2 : look O.dead ((nid1, O.row 0 e2 ty2.size r1) :: (id, O.row (ver + 1) e sz (Ls.up rows i1 j [.jk])) :: objs) id = .row (ver + 1) e sz (Ls.up rows i1 j [.jk]) := by
    rw [look_cons, if_neg d1, look_cons, if_pos rfl]
  have hf2' : freshB nx ((nid1, O.row 0 e2 ty2.size r1) :: (id, O.row (ver + 1) e sz (Ls.up rows i1 j [.jk])) :: objs) nid2 = true := fresh_cons (fresh_cons hf2 (fun e => d2 e.symm)) d21
  have hl : (Ls.up rows i1 j [.jk]).length = rows.length := by show (rows.set _ _).length = _; simp
  have hg2 : (Ls.up rows i1 j [.jk]).getD i2.toNat [] = rows.getD i2.toNat [] := by
    show (rows.set i1.toNat _).getD i2.toNat [] = _
    rw [List.getD_eq_getElem?_getD, List.getElem?_set, if_neg (by omega), ← List.getD_eq_getElem?_getD]
  obtain ⟨G2, φ2, k2, g2, us2, x2, y2⟩ := take_core ht id i2 j nid2 gt2 ho2 hty hf2' h02 (by rw [hl]; exact h12) (by rw [hg2]; exact hc2) hgt2 _ rfl k1
  rw [y1] at x2
  obtain rfl : us = us2 := (Prod.mk.inj (Option.some.inj x2)).2
  refine ⟨S, G2, φ2, ?_, ?_, k2.n, k2.KS, k2.Slt, ?_, ?_, k2.dj, k2.own, k2.kept, k2.defs, k2.anc⟩
  · intro x hx
    rcases k2.nx x hx with h | h
    · exact .inl h
    · right
      rcases (hasKey_cons _ _ _ _).1 h with h | h
      · exact (hasKey_cons _ _ _ _).2 (.inl h)
      rcases (hasKey_cons _ _ _ _).1 h with h | h
      · exact (hasKey_cons _ _ _ _).2 (.inr ((hasKey_cons _ _ _ _).2 (.inl h)))
      rcases (hasKey_cons _ _ _ _).1 h with h | h
      · exact (hasKey_cons _ _ _ _).2 (.inr ((hasKey_cons _ _ _ _).2 (.inr ((hasKey_cons _ _ _ _).2 (.inl h)))))
      rcases (hasKey_cons _ _ _ _).1 h with h | h
      · exact (hasKey_cons _ _ _ _).2 (.inr ((hasKey_cons _ _ _ _).2 (.inl h)))
      · exact (hasKey_cons _ _ _ _).2 (.inr ((hasKey_cons _ _ _ _).2 (.inr ((hasKey_cons _ _ _ _).2 (.inr h)))))
  · intro x v y hx
    obtain ⟨q1, q2⟩ := k2.kd x v y hx
    refine ⟨q1, fun ver' e' sz' rows' hlk => q2 ver' e' sz' rows' ?_⟩
    rw [← hlk]
    show look O.dead ((nid2, O.row 0 e2 ty2.size r2) :: (id, O.row (ver + 1 + 1) e sz _) :: (nid1, O.row 0 e2 ty2.size r1) :: (id, O.row (ver + 1) e sz _) :: objs) x = look O.dead ((nid2, O.row 0 e2 ty2.size r2) :: (id, O.row (ver + 2) e sz _) :: (nid1, O.row 0 e2 ty2.size r1) :: objs) x
    simp only [look_cons]
    by_cases c1 : x = nid2
    · rw [if_pos c1, if_pos c1]
    · rw [if_neg c1, if_neg c1]
      by_cases c2 : x = id
      · rw [if_pos c2, if_pos c2]
      · rw [if_neg c2, if_neg c2, if_neg c2]
  · intro t
    show VR _ _ _ _ _ (look .u ((gt2, V.hl id (ver + 2) i2 j nid2) :: (gt1, .hl id (ver + 2) i1 j nid1) :: env) t) _
    have h := k2.env t
    change VR _ _ _ _ _ (look .u ((gt2, V.hl id (ver + 1 + 1) i2 j nid2) :: (gt1, .hl id (ver + 1) i1 j nid1) :: env) t) _ at h
    rw [look_cons, look_cons] at h ⊢
    by_cases c1 : t = gt2
    · rw [if_pos c1] at h ⊢; exact h
    · rw [if_neg c1] at h ⊢
      by_cases c2 : t = gt1
      · rw [if_pos c2] at h ⊢
        generalize a.tmps.getD t undef = z at h ⊢
        cases h with
        | hl hid hd2 hi r0 u0 hk hu _ =>
          have hk' := g2.κ _ _ _ y1
          rw [hk] at hk'
          have e2 := Option.some.inj hk'
          obtain ⟨_, rfl⟩ := Prod.mk.inj e2
          exact .hl hid hd2 hi _ _ y2 hu .nil
      · rw [if_neg c2] at h ⊢; exact h
  · intro x
    have h := k2.obj x
    show OR _ _ _ _ _ _ _ (look .dead ((nid2, O.row 0 e2 ty2.size r2) :: (id, O.row (ver + 2) e sz _) :: (nid1, O.row 0 e2 ty2.size r1) :: objs) x)
    change OR _ _ _ _ _ _ _ (look .dead ((nid2, O.row 0 e2 ty2.size r2) :: (id, O.row (ver + 1 + 1) e sz _) :: (nid1, O.row 0 e2 ty2.size r1) :: (id, O.row (ver + 1) e sz _) :: objs) x) at h
    rw [look_cons, look_cons] at h ⊢
    by_cases c1 : x = nid2
    · rw [if_pos c1] at h ⊢; exact h
    · rw [if_neg c1] at h ⊢
      by_cases c2 : x = id
      · rw [if_pos c2] at h ⊢; exact h
      · rw [if_neg c2, look_cons, look_cons, if_neg c2] at h
        rw [if_neg c2, look_cons]
        exact h

theorem Weak.take2 {n nx : Nat} {env : List (Nat × V)} {objs : List (Nat × O)} (ht : TabOk F.P tab) (id : Nat) (i1 i2 : Int) (j nid1 gt1 nid2 gt2 : Nat) {ver e sz e2 : Nat} {rows r1 r2 : Rws} {ty2 : Ty} (ho : look .dead objs id = .row ver e sz rows) (hty : getTy tab e2 = some ty2)
    (hf1 : freshB nx objs nid1 = true) (hf2 : freshB nx objs nid2 = true) (hnn : nq nid1 nid2 = false) (hnid : nq id nid1 = false)
    (h01 : 0 ≤ i1) (h11 : i1 < (rows.length : Int)) (hc1 : (rows.getD i1.toNat [])[j]? = some (.ow e2 r1)) (hgt1 : nl n gt1 = true)
    (h02 : 0 ≤ i2) (h12 : i2 < (rows.length : Int)) (hne : i1 ≠ i2) (hc2 : (rows.getD i2.toNat [])[j]? = some (.ow e2 r2)) (hgt2 : nl n gt2 = true) (hgg : nq gt2 gt1 = false)
    (rows' : Rws) (hrows : Ls.up (Ls.up rows i1 j [.jk]) i2 j [.jk] = rows') :
    Weak F ⟨n, nx, env, objs⟩ ⟨n, nx, (gt2, .hl id (ver + 2) i2 j nid2) :: (gt1, .hl id (ver + 2) i1 j nid1) :: env, (nid2, .row 0 e2 ty2.size r2) :: (id, .row (ver + 2) e sz rows') :: (nid1, .row 0 e2 ty2.size r1) :: objs⟩ :=
  Weak.up fun K => WeakS.take2 (F := F.up K) ht id i1 i2 j nid1 gt1 nid2 gt2 ho hty hf1 hf2 hnn hnid h01 h11 hc1 hgt1 h02 h12 hne hc2 hgt2 hgg rows' hrows

/-! ### what is told of a row while two elements are out -/
def neO (i j : Int) : Option Unit := if i = j then none else some ()
theorem ne_t {i j : Int} {u : Unit} (h : neO i j = some u) : i ≠ j := by
  unfold neO at h; split at h <;> simp_all
variable {α : Type} {f : α → List T} {l r : List α} {i i1 i2 i3 : Int} {x x1 x2 : α} {j j' j3 : Nat} {c d cs ds : List T}
theorem sw_lt (f : α → List T) (h : getO l i = some x) : Ls.lt i (Ls.ln (Ls.up (Ls.up (rowsOf f l) i1 j c) i2 j' d)) := by
  show i < ((Ls.up (Ls.up (rowsOf f l) i1 j c) i2 j' d).length : Int)
  rw [up_len', up_len']; exact get_lt' f h
theorem sw_lt3 (f : α → List T) (h : getO l i = some x) : Ls.lt i (Ls.ln (Ls.up (Ls.up (Ls.up (rowsOf f l) i1 j c) i2 j' d) i3 j3 cs)) := by
  show i < ((Ls.up (Ls.up (Ls.up (rowsOf f l) i1 j c) i2 j' d) i3 j3 cs).length : Int)
  rw [up_len', up_len', up_len']; exact get_lt' f h
theorem up_ne {rows : Rws} (h1 : 0 ≤ i1) (h2 : 0 ≤ i2) (hne : i1 ≠ i2) : Ls.ge (Ls.up rows i1 j c) i2 = Ls.ge rows i2 := by
  show (rows.set i1.toNat _).getD i2.toNat [] = rows.getD i2.toNat []
  rw [List.getD_eq_getElem?_getD, List.getElem?_set, if_neg (by omega), ← List.getD_eq_getElem?_getD]
theorem sw_ge1 (f : α → List T) (h1 : getO l i1 = some x1) (h2 : getO l i2 = some x2) (hne : i1 ≠ i2) {c : T} : Ls.ge (Ls.up (Ls.up (rowsOf f l) i1 j [c]) i2 j' d) i1 = (f x1).take j ++ [c] ++ (f x1).drop (j + 1) := by
  rw [up_ne (get_le' h2) (get_le' h1) (fun e => hne e.symm)]; exact up_ge f h1
theorem sw_ge2 (f : α → List T) (h1 : getO l i1 = some x1) (h2 : getO l i2 = some x2) (hne : i1 ≠ i2) {d : T} : Ls.ge (Ls.up (Ls.up (rowsOf f l) i1 j c) i2 j' [d]) i2 = (f x2).take j' ++ [d] ++ (f x2).drop (j' + 1) := by
  have h3 := sw_lt (i1 := i1) (i2 := i2) (j := j) (j' := j') (c := c) (d := [d]) f h2
  have h4 := get_le' h2
  have e : (rowsOf f l).getD i2.toNat [] = f x2 := get_ge h2
  have h5 := get_lt' f h2
  have e2 : (Ls.up (rowsOf f l) i1 j c).getD i2.toNat [] = f x2 := (up_ne (get_le' h1) h4 hne).trans e
  show ((Ls.up (rowsOf f l) i1 j c).set i2.toNat _).getD i2.toNat [] = _
  rw [List.getD_eq_getElem?_getD, List.getElem?_set, if_pos rfl, if_pos (by rw [up_len']; omega), e2]
  rfl
theorem up_full {rows : Rws} {cs : List T} (h : (rows.getD i.toNat []).length ≤ cs.length) : Ls.up rows i 0 cs = rows.set i.toNat cs := by
  show rows.set i.toNat ((rows.getD i.toNat []).take 0 ++ cs ++ (rows.getD i.toNat []).drop (0 + cs.length)) = _
  rw [List.take_zero, List.nil_append, Nat.zero_add, List.drop_eq_nil_of_le h, List.append_nil]
theorem set4 {A : Rws} {p q : Nat} {a b c d : List T} (h : p ≠ q) : (((A.set p a).set q b).set p c).set q d = (A.set p c).set q d := by
  rw [List.set_comm (i := q) (j := p) _ _ (fun e => h e.symm), List.set_set, List.set_set]
theorem set4' {A : Rws} {p q : Nat} {a b c d : List T} (h : p ≠ q) : (((A.set p a).set q b).set q c).set p d = (A.set q c).set p d := by
  rw [List.set_set, List.set_comm (i := q) (j := p) _ _ (fun e => h e.symm), List.set_set, List.set_comm (i := p) (j := q) _ _ h]
theorem swap_le {P : Program} {n : Nat} (hn : ∀ x, (f x).length = n) (h1 : getO l i1 = some x1) (h2 : getO l i2 = some x2) (hne : i1 ≠ i2) (hj : j < n) {k1 k2 : Int} {y1 y2 : α} (hk : (k1 = i1 ∧ k2 = i2) ∨ (k1 = i2 ∧ k2 = i1)) {c d : T}
    (hs : some (setI (setI l k1 y1) k2 y2) = some r) (hc : cs = f y1) (hd : ds = f y2) : RLe P (Ls.up (Ls.up (Ls.up (Ls.up (rowsOf f l) i1 j [c]) i2 j [d]) k1 0 cs) k2 0 ds) (rowsOf f r) := by
  subst hc hd
  have hs : r = setI (setI l k1 y1) k2 y2 := (Option.some.inj hs).symm
  subst hs
  have a1 : Ls.ge (Ls.up (Ls.up (rowsOf f l) i1 j [c]) i2 j [d]) i1 = _ := sw_ge1 f h1 h2 hne
  have a2 : Ls.ge (Ls.up (Ls.up (rowsOf f l) i1 j [c]) i2 j [d]) i2 = _ := sw_ge2 f h1 h2 hne
  have l1 : ((f x1).take j ++ [c] ++ (f x1).drop (j + 1)).length = n := by have := hn x1; simp; omega
  have l2 : ((f x2).take j ++ [d] ++ (f x2).drop (j + 1)).length = n := by have := hn x2; simp; omega
  have b1 : ((Ls.up (Ls.up (rowsOf f l) i1 j [c]) i2 j [d]).getD i1.toNat []).length = n := by
    have : (Ls.up (Ls.up (rowsOf f l) i1 j [c]) i2 j [d]).getD i1.toNat [] = _ := a1
    rw [this]; exact l1
  have b2 : ((Ls.up (Ls.up (rowsOf f l) i1 j [c]) i2 j [d]).getD i2.toNat []).length = n := by
    have : (Ls.up (Ls.up (rowsOf f l) i1 j [c]) i2 j [d]).getD i2.toNat [] = _ := a2
    rw [this]; exact l2
  have g1 := get_le' h1
  have g2 := get_le' h2
  have hz : ∀ {rows : Rws} {p : Int} {q : Nat} {u : List T}, Ls.up rows p q u = rows.set p.toNat ((rows.getD p.toNat []).take q ++ u ++ (rows.getD p.toNat []).drop (q + u.length)) := rfl
  refine RLe.eq ?_
  rcases hk with ⟨rfl, rfl⟩ | ⟨rfl, rfl⟩
  · have e1 := up_full (i := k1) (rows := Ls.up (Ls.up (rowsOf f l) k1 j [c]) k2 j [d]) (cs := f y1) (by rw [b1, hn]; exact Nat.le_refl _)
    rw [e1, up_full (by
      rw [List.getD_eq_getElem?_getD, List.getElem?_set, if_neg (by omega), ← List.getD_eq_getElem?_getD, b2, hn]; exact Nat.le_refl _)]
    rw [hz, hz]
    unfold setI rowsOf
    rw [List.map_set, List.map_set, set4 (by omega)]
  · have e1 := up_full (i := k1) (rows := Ls.up (Ls.up (rowsOf f l) k2 j [c]) k1 j [d]) (cs := f y1) (by rw [b2, hn]; exact Nat.le_refl _)
    rw [e1, up_full (by
      rw [List.getD_eq_getElem?_getD, List.getElem?_set, if_neg (by omega), ← List.getD_eq_getElem?_getD, b1, hn]; exact Nat.le_refl _)]
    rw [hz, hz]
    unfold setI rowsOf
    rw [List.map_set, List.map_set, set4' (by omega)]
end Go.Proofs.Ytgicjbeaomjdgaa.L
