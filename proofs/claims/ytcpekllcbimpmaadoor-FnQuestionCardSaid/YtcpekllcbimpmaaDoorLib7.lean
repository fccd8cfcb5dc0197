/- Two elements of a row change places: both are taken out, both are laid back. -/
import Derived.Test.YtcpekllcbimpmaaDoorLib6
import Derived.Laws.BytesString
import Derived.Laws.Cells
import Derived.Laws.Small
namespace Go.Proofs.YtcpekllcbimpmaaDoor.L
set_option linter.unusedVariables false
set_option linter.unusedSimpArgs false
open Go
variable {F : Fr} {w : World} {S : Nat → Prop} {G : Gh} {φ : Nat → Nat → Prop} {tab : List (Nat × Ty)}

theorem WeakS.take2 {n nx : Nat} {env : List (Nat × V)} {objs : List (Nat × O)} (ht : TabOk F.P tab) (id : Nat) (i1 i2 : Int) (j nid1 gt1 nid2 gt2 : Nat) {ver e sz e2 : Nat} {rows r1 r2 : Rws} {ty2 : Ty} (ho : look .dead objs id = .row ver e sz rows) (hty : getTy tab e2 = some ty2)
    (hf1 : freshB nx objs nid1 = true) (hf2 : freshB nx objs nid2 = true) (hnn : nq nid1 nid2 = false) (hnid : nq id nid1 = false)
    (h01 : 0 ≤ i1) (h11 : i1 < (rows.length : Int)) (hc1 : (rows.getD i1.toNat [])[j]? = some (.ow e2 r1)) (hgt1 : nl n gt1 = true)
    (h02 : 0 ≤ i2) (h12 : i2 < (rows.length : Int)) (hne : i1 ≠ i2) (hc2 : (rows.getD i2.toNat [])[j]? = some (.ow e2 r2)) (hgt2 : nl n gt2 = true) (hgg : nq gt2 gt1 = false)
    (rows' : Rws) (hrows : Ls.up (Ls.up rows i1 j [.jk]) i2 j [.jk] = rows') :
    WeakS F ⟨n, nx, env, objs⟩ ⟨n, nx, (gt2, .hl id (ver + 2) i2 j nid2) :: (gt1, .hl id (ver + 2) i1 j nid1) :: env, (nid2, .row 0 e2 ty2.size r2) :: (id, .row (ver + 2) e sz rows') :: (nid1, .row 0 e2 ty2.size r1) :: objs⟩ := by
  subst hrows
  rintro a w ⟨S, G, φ, hr⟩
  have d21 : ¬ nid2 = nid1 := by rintro rfl; simp [nq_self] at hnn
  have d1 : ¬ id = nid1 := by rintro rfl; simp [nq_self] at hnid
  have d2 : ¬ id = nid2 := by
    rintro rfl
    exact (fresh_dom hr hf2) (hr.row ho).1
  have dg : ¬ gt2 = gt1 := by rintro rfl; simp [nq_self] at hgg
  obtain ⟨G1, φ1, k1, g1, us, x1, y1⟩ := take_core ht id i1 j nid1 gt1 ho hty hf1 h01 h11 hc1 hgt1 _ rfl hr
  have ho2 : look O.dead ((nid1, O.row 0 e2 ty2.size r1) :: (id, O.row (ver + 1) e sz (Ls.up rows i1 j [.jk])) :: objs) id = .row (ver + 1) e sz (Ls.up rows i1 j [.jk]) := by
    rw [look_cons, if_neg d1, look_cons, if_pos rfl]
  have hf2' : freshB nx ((nid1, O.row 0 e2 ty2.size r1) :: (id, O.row (ver + 1) e sz (Ls.up rows i1 j [.jk])) :: objs) nid2 = true := fresh_cons (fresh_cons hf2 (fun e => d2 e.symm)) d21
  have hl : (Ls.up rows i1 j [.jk]).length = rows.length := by show (rows.set _ _).length = _; simp
  have hg2 : (Ls.up rows i1 j [.jk]).getD i2.toNat [] = rows.getD i2.toNat [] := by
    show (rows.set i1.toNat _).getD i2.toNat [] = _
    rw [List.getD_eq_getElem?_getD, List.getElem?_set, if_neg (by omega), ← List.getD_eq_getElem?_getD]
  obtain ⟨G2, φ2, k2, g2, us2, x2, y2⟩ := take_core ht id i2 j nid2 gt2 ho2 hty hf2' h02 (by rw [hl]; exact h12) (by rw [hg2]; exact hc2) hgt2 _ rfl k1
  rw [y1] at x2
  obtain rfl : us = us2 := (Prod.mk.inj (Option.some.inj x2)).2
  refine ⟨S, G2, φ2, ?_, ?_, k2.n, k2.KS, k2.Slt, ?_, ?_, k2.dj, k2.own, k2.kept, k2.defs, k2.anc⟩
  · intro x hx
    rcases k2.nx x hx with h | h
    · exact .inl h
    · right
      rcases (hasKey_cons _ _ _ _).1 h with h | h
      · exact (hasKey_cons _ _ _ _).2 (.inl h)
      rcases (hasKey_cons _ _ _ _).1 h with h | h
      · exact (hasKey_cons _ _ _ _).2 (.inr ((hasKey_cons _ _ _ _).2 (.inl h)))
      rcases (hasKey_cons _ _ _ _).1 h with h | h
      · exact (hasKey_cons _ _ _ _).2 (.inr ((hasKey_cons _ _ _ _).2 (.inr ((hasKey_cons _ _ _ _).2 (.inl h)))))
      rcases (hasKey_cons _ _ _ _).1 h with h | h
      · exact (hasKey_cons _ _ _ _).2 (.inr ((hasKey_cons _ _ _ _).2 (.inl h)))
      · exact (hasKey_cons _ _ _ _).2 (.inr ((hasKey_cons _ _ _ _).2 (.inr ((hasKey_cons _ _ _ _).2 (.inr h)))))
  · intro x v y hx
    obtain ⟨q1, q2⟩ := k2.kd x v y hx
    refine ⟨q1, fun ver' e' sz' rows' hlk => q2 ver' e' sz' rows' ?_⟩
    rw [← hlk]
    show look O.dead ((nid2, O.row 0 e2 ty2.size r2) :: (id, O.row (ver + 1 + 1) e sz _) :: (nid1, O.row 0 e2 ty2.size r1) :: (id, O.row (ver + 1) e sz _) :: objs) x = look O.dead ((nid2, O.row 0 e2 ty2.size r2) :: (id, O.row (ver + 2) e sz _) :: (nid1, O.row 0 e2 ty2.size r1) :: objs) x
    simp only [look_cons]
    by_cases c1 : x = nid2
    · rw [if_pos c1, if_pos c1]
    · rw [if_neg c1, if_neg c1]
      by_cases c2 : x = id
      · rw [if_pos c2, if_pos c2]
      · rw [if_neg c2, if_neg c2, if_neg c2]
  · intro t
    show VR _ _ _ _ _ (look .u ((gt2, V.hl id (ver + 2) i2 j nid2) :: (gt1, .hl id (ver + 2) i1 j nid1) :: env) t) _
    have h := k2.env t
    change VR _ _ _ _ _ (look .u ((gt2, V.hl id (ver + 1 + 1) i2 j nid2) :: (gt1, .hl id (ver + 1) i1 j nid1) :: env) t) _ at h
    rw [look_cons, look_cons] at h ⊢
    by_cases c1 : t = gt2
    · rw [if_pos c1] at h ⊢; exact h
    · rw [if_neg c1] at h ⊢
      by_cases c2 : t = gt1
      · rw [if_pos c2] at h ⊢
        generalize a.tmps.getD t undef = z at h ⊢
        cases h with
        | hl hid hd2 hi r0 u0 hk hu _ =>
          have hk' := g2.κ _ _ _ y1
          rw [hk] at hk'
          have e2 := Option.some.inj hk'
          obtain ⟨_, rfl⟩ := Prod.mk.inj e2
          exact .hl hid hd2 hi _ _ y2 hu .nil
      · rw [if_neg c2] at h ⊢; exact h
  · intro x
    have h := k2.obj x
    show OR _ _ _ _ _ _ _ (look .dead ((nid2, O.row 0 e2 ty2.size r2) :: (id, O.row (ver + 2) e sz _) :: (nid1, O.row 0 e2 ty2.size r1) :: objs) x)
    change OR _ _ _ _ _ _ _ (look .dead ((nid2, O.row 0 e2 ty2.size r2) :: (id, O.row (ver + 1 + 1) e sz _) :: (nid1, O.row 0 e2 ty2.size r1) :: (id, O.row (ver + 1) e sz _) :: objs) x) at h
    rw [look_cons, look_cons] at h ⊢
    by_cases c1 : x = nid2
    · rw [if_pos c1] at h ⊢; exact h
    · rw [if_neg c1] at h ⊢
      by_cases c2 : x = id
      · rw [if_pos c2] at h ⊢; exact h
      · rw [if_neg c2, look_cons, look_cons, if_neg c2] at h
        rw [if_neg c2, look_cons]
        exact h

theorem Weak.take2 {n nx : Nat} {env : List (Nat × V)} {objs : List (Nat × O)} (ht : TabOk F.P tab) (id : Nat) (i1 i2 : Int) (j nid1 gt1 nid2 gt2 : Nat) {ver e sz e2 : Nat} {rows r1 r2 : Rws} {ty2 : Ty} (ho : look .dead objs id = .row ver e sz rows) (hty : getTy tab e2 = some ty2)
    (hf1 : freshB nx objs nid1 = true) (hf2 : freshB nx objs nid2 = true) (hnn : nq nid1 nid2 = false) (hnid : nq id nid1 = false)
    (h01 : 0 ≤ i1) (h11 : i1 < (rows.length : Int)) (hc1 : (rows.getD i1.toNat [])[j]? = some (.ow e2 r1)) (hgt1 : nl n gt1 = true)
    (h02 : 0 ≤ i2) (h12 : i2 < (rows.length : Int)) (hne : i1 ≠ i2) (hc2 : (rows.getD i2.toNat [])[j]? = some (.ow e2 r2)) (hgt2 : nl n gt2 = true) (hgg : nq gt2 gt1 = false)
    (rows' : Rws) (hrows : Ls.up (Ls.up rows i1 j [.jk]) i2 j [.jk] = rows') :
    Weak F ⟨n, nx, env, objs⟩ ⟨n, nx, (gt2, .hl id (ver + 2) i2 j nid2) :: (gt1, .hl id (ver + 2) i1 j nid1) :: env, (nid2, .row 0 e2 ty2.size r2) :: (id, .row (ver + 2) e sz rows') :: (nid1, .row 0 e2 ty2.size r1) :: objs⟩ :=
  Weak.up fun K => WeakS.take2 (F := F.up K) ht id i1 i2 j nid1 gt1 nid2 gt2 ho hty hf1 hf2 hnn hnid h01 h11 hc1 hgt1 h02 h12 hne hc2 hgt2 hgg rows' hrows

/-! ### what is told of a row while two elements are out -/
def neO (i j : Int) : Option Unit := if i = j then none else some ()
theorem ne_t {i j : Int} {u : Unit} (h : neO i j = some u) : i ≠ j := by
  unfold neO at h; split at h <;> simp_all
variable {α : Type} {f : α → List T} {l r : List α} {i i1 i2 i3 : Int} {x x1 x2 : α} {j j' j3 : Nat} {c d cs ds : List T}
theorem sw_lt (f : α → List T) (h : getO l i = some x) : Ls.lt i (Ls.ln (Ls.up (Ls.up (rowsOf f l) i1 j c) i2 j' d)) := by
  show i < ((Ls.up (Ls.up (rowsOf f l) i1 j c) i2 j' d).length : Int)
  rw [up_len', up_len']; exact get_lt' f h
theorem sw_lt3 (f : α → List T) (h : getO l i = some x) : Ls.lt i (Ls.ln (Ls.up (Ls.up (Ls.up (rowsOf f l) i1 j c) i2 j' d) i3 j3 cs)) := by
  show i < ((Ls.up (Ls.up (Ls.up (rowsOf f l) i1 j c) i2 j' d) i3 j3 cs).length : Int)
  rw [up_len', up_len', up_len']; exact get_lt' f h
theorem up_ne {rows : Rws} (h1 : 0 ≤ i1) (h2 : 0 ≤ i2) (hne : i1 ≠ i2) : Ls.ge (Ls.up rows i1 j c) i2 = Ls.ge rows i2 := by
  show (rows.set i1.toNat _).getD i2.toNat [] = rows.getD i2.toNat []
  rw [List.getD_eq_getElem?_getD, List.getElem?_set, if_neg (by omega), ← List.getD_eq_getElem?_getD]
theorem sw_ge1 (f : α → List T) (h1 : getO l i1 = some x1) (h2 : getO l i2 = some x2) (hne : i1 ≠ i2) {c : T} : Ls.ge (Ls.up (Ls.up (rowsOf f l) i1 j [c]) i2 j' d) i1 = (f x1).take j ++ [c] ++ (f x1).drop (j + 1) := by
  rw [up_ne (get_le' h2) (get_le' h1) (fun e => hne e.symm)]; exact up_ge f h1
theorem sw_ge2 (f : α → List T) (h1 : getO l i1 = some x1) (h2 : getO l i2 = some x2) (hne : i1 ≠ i2) {d : T} : Ls.ge (Ls.up (Ls.up (rowsOf f l) i1 j c) i2 j' [d]) i2 = (f x2).take j' ++ [d] ++ (f x2).drop (j' + 1) := by
  have h3 := sw_lt (i1 := i1) (i2 := i2) (j := j) (j' := j') (c := c) (d := [d]) f h2
  have h4 := get_le' h2
  have e : (rowsOf f l).getD i2.toNat [] = f x2 := get_ge h2
  have h5 := get_lt' f h2
  have e2 : (Ls.up (rowsOf f l) i1 j c).getD i2.toNat [] = f x2 := (up_ne (get_le' h1) h4 hne).trans e
  show ((Ls.up (rowsOf f l) i1 j c).set i2.toNat _).getD i2.toNat [] = _
  rw [List.getD_eq_getElem?_getD, List.getElem?_set, if_pos rfl, if_pos (by rw [up_len']; omega), e2]
  rfl
theorem up_full {rows : Rws} {cs : List T} (h : (rows.getD i.toNat []).length ≤ cs.length) : Ls.up rows i 0 cs = rows.set i.toNat cs := by
  show rows.set i.toNat ((rows.getD i.toNat []).take 0 ++ cs ++ (rows.getD i.toNat []).drop (0 + cs.length)) = _
  rw [List.take_zero, List.nil_append, Nat.zero_add, List.drop_eq_nil_of_le h, List.append_nil]
theorem set4 {A : Rws} {p q : Nat} {a b c d : List T} (h : p ≠ q) : (((A.set p a).set q b).set p c).set q d = (A.set p c).set q d := by
  rw [List.set_comm (i := q) (j := p) _ _ (fun e => h e.symm), List.set_set, List.set_set]
theorem set4' {A : Rws} {p q : Nat} {a b c d : List T} (h : p ≠ q) : (((A.set p a).set q b).set q c).set p d = (A.set q c).set p d := by
  rw [List.set_set, List.set_comm (i := q) (j := p) _ _ (fun e => h e.symm), List.set_set, List.set_comm (i := p) (j := q) _ _ h]
theorem swap_le {P : Program} {n : Nat} (hn : ∀ x, (f x).length = n) (h1 : getO l i1 = some x1) (h2 : getO l i2 = some x2) (hne : i1 ≠ i2) (hj : j < n) {k1 k2 : Int} {y1 y2 : α} (hk : (k1 = i1 ∧ k2 = i2) ∨ (k1 = i2 ∧ k2 = i1)) {c d : T}
    (hs : some (setI (setI l k1 y1) k2 y2) = some r) (hc : cs = f y1) (hd : ds = f y2) : RLe P (Ls.up (Ls.up (Ls.up (Ls.up (rowsOf f l) i1 j [c]) i2 j [d]) k1 0 cs) k2 0 ds) (rowsOf f r) := by
  subst hc hd
  have hs : r = setI (setI l k1 y1) k2 y2 := (Option.some.inj hs).symm
  subst hs
  have a1 : Ls.ge (Ls.up (Ls.up (rowsOf f l) i1 j [c]) i2 j [d]) i1 = _ := sw_ge1 f h1 h2 hne
  have a2 : Ls.ge (Ls.up (Ls.up (rowsOf f l) i1 j [c]) i2 j [d]) i2 = _ := sw_ge2 f h1 h2 hne
  have l1 : ((f x1).take j ++ [c] ++ (f x1).drop (j + 1)).length = n := by have := hn x1; simp; omega
  have l2 : ((f x2).take j ++ [d] ++ (f x2).drop (j + 1)).length = n := by have := hn x2; simp; omega
  have b1 : ((Ls.up (Ls.up (rowsOf f l) i1 j [c]) i2 j [d]).getD i1.toNat []).length = n := by
    have : (Ls.up (Ls.up (rowsOf f l) i1 j [c]) i2 j [d]).getD i1.toNat [] = _ := a1
    rw [this]; exact l1
  have b2 : ((Ls.up (Ls.up (rowsOf f l) i1 j [c]) i2 j [d]).getD i2.toNat []).length = n := by
    have : (Ls.up (Ls.up (rowsOf f l) i1 j [c]) i2 j [d]).getD i2.toNat [] = _ := a2
    rw [this]; exact l2
  have g1 := get_le' h1
  have g2 := get_le' h2
  have hz : ∀ {rows : Rws} {p : Int} {q : Nat} {u : List T}, Ls.up rows p q u = rows.set p.toNat ((rows.getD p.toNat []).take q ++ u ++ (rows.getD p.toNat []).drop (q + u.length)) := rfl
  refine RLe.eq ?_
  rcases hk with ⟨rfl, rfl⟩ | ⟨rfl, rfl⟩
  · have e1 := up_full (i := k1) (rows := Ls.up (Ls.up (rowsOf f l) k1 j [c]) k2 j [d]) (cs := f y1) (by rw [b1, hn]; exact Nat.le_refl _)
    rw [e1, up_full (by
      rw [List.getD_eq_getElem?_getD, List.getElem?_set, if_neg (by omega), ← List.getD_eq_getElem?_getD, b2, hn]; exact Nat.le_refl _)]
    rw [hz, hz]
    unfold setI rowsOf
    rw [List.map_set, List.map_set, set4 (by omega)]
  · have e1 := up_full (i := k1) (rows := Ls.up (Ls.up (rowsOf f l) k2 j [c]) k1 j [d]) (cs := f y1) (by rw [b2, hn]; exact Nat.le_refl _)
    rw [e1, up_full (by
      rw [List.getD_eq_getElem?_getD, List.getElem?_set, if_neg (by omega), ← List.getD_eq_getElem?_getD, b1, hn]; exact Nat.le_refl _)]
    rw [hz, hz]
    unfold setI rowsOf
    rw [List.map_set, List.map_set, set4' (by omega)]
end Go.Proofs.YtcpekllcbimpmaaDoor.L

namespace Go.Proofs.YtcpekllcbimpmaaDoor.L
set_option linter.unusedVariables false
set_option linter.unusedSimpArgs false
open Go
variable {P : Program} {F : Fr} {w : World} {S : Nat → Prop} {G : Gh} {φ : Nat → Nat → Prop} {tab : List (Nat × Ty)}

theorem foldl_bytes : ∀ (ns : List Int) (s : ByteArray), (ns.foldl (fun r n => r.push (UInt8.ofNat n.toNat)) s) = ⟨s.data ++ (ns.map fun n => UInt8.ofNat n.toNat).toArray⟩
  | [], s => by simp
  | n :: ns, s => by
    rw [List.foldl_cons, foldl_bytes ns]
    apply congrArg ByteArray.mk
    show (s.push _).data ++ _ = _
    simp [ByteArray.push]
theorem CR.u8 {K S : Nat → Prop} : ∀ {ns : List Int} {us : List Value} {ψ : Nat → Prop}, CR P w K S (ns.map fun n => T.s (.int .u8 n)) us ψ → us = ns.map (Value.int .u8)
  | [], us, ψ, h => by cases h; rfl
  | n :: ns, us, ψ, h => by
    cases h with
    | s _ h => rw [CR.u8 h]; rfl
def u8rows (ns : List Int) : Rws := ns.map fun n => [T.s (.int .u8 n)]
theorem u8_flat : ∀ ns : List Int, (u8rows ns).flatten = ns.map fun n => T.s (.int .u8 n)
  | [] => rfl
  | n :: ns => by
    have := u8_flat ns
    unfold u8rows at *
    rw [List.map_cons, List.flatten_cons, this]; rfl
theorem bs_u8 (ns : List Int) : Ls.bs (u8rows ns) = ⟨(ns.map fun n => UInt8.ofNat n.toNat).toArray⟩ := by
  show (⟨((u8rows ns).map _).toArray⟩ : ByteArray) = _
  unfold u8rows
  rw [List.map_map]
  rfl
/-- A row of bytes of the call's own, made a string. -/
theorem hand_conv (htab : TabOk P tab) {src dst : Nat} {ts te td : Ty} (h1 : getTy tab src = some ts) (h2 : ts.isS = true) (h3 : getTy tab ts.elem = some te) (h4 : te.ik = some .u8) (h5 : getTy tab dst = some td) (h6 : td.isT = true) {x : Operand} {id ver e : Nat} {ns : List Int} {rows : Rws} {s : ByteArray} (hr : rows = u8rows ns) (hs : Ls.bs rows = s) :
    HandOk P (.convert src dst x) [.rf id] [(id, .row ver e 1 rows)] (.t (.s (.string s))) [] := by
  subst hr hs
  intro F σ a w S G φ hP hr hv ho _
  subst hP
  have ho := ho _ (List.mem_singleton.2 rfl)
  obtain ⟨hdom, hsz, hGs, us, hkk, hrs, hown, ψ, hψb, hψ, hcr⟩ := hr.row ho
  have hu8 : F.P.underlying ts.elem = some (.int .u8) := by
    obtain ⟨d, hd, _, hx⟩ := (htab _ _ h3).desc
    cases d <;> simp_all
  have hsrc := (htab _ _ h1).isS h2
  have hdst := (htab _ _ h5).isT h6
  simp [Op.operands] at hv
  obtain ⟨u, us1, e1, v1, r1⟩ := hv.uncons
  cases r1
  simp only [List.cons.injEq, and_true] at e1
  rw [u8_flat] at hcr
  have hus := hcr.u8
  have hlen : (u8rows ns).length = ns.length := by simp [u8rows]
  have hval : a.eval x = G.β id := by
    rw [e1]; cases v1 with | rf _ hu _ _ => exact hu
  have hrun : (convert src dst (a.eval x)).run F.P w = .ok (.string (Ls.bs (u8rows ns))) w := by
    rw [hval, bs_u8]
    rcases hown.2 with ⟨hb, hn⟩ | ⟨g, cap, cur, hb, _, hh, hle, hcap, hcs, htk⟩
    · rw [hb, run_convert_bytes_string w src dst ts.elem none 0 0 hsrc hu8 hdst]
      have : ns = [] := by rw [hlen] at hn; exact List.length_eq_zero_iff.1 hn
      subst this
      simp [Conv.bytesToString]
      rfl
    · rw [hb, run_convert_bytes_string w src dst ts.elem _ _ _ hsrc hu8 hdst]
      rw [run_bytesToString (ns := ns) w ⟨g, 0, none⟩ _ _ (by
        rw [hlen]
        have := run_loadCells_list (P := F.P) (w := w) ⟨g, 0, none⟩ us (fun j v hj => by
          have := own_cell hown (g := g) (by rw [hb]; rfl) hj
          by_cases h0 : j = 0
          · subst h0; simpa [Addr.add] using this
          · simpa [Addr.add, h0] using this)
        rw [hus] at this
        simpa using this)]
      rw [foldl_bytes]
      simp [ByteArray.empty, ByteArray.emptyWithCapacity]
      rfl
  refine ⟨_, w, G, φ, fun o hop => ?_, by simpa using hr, VR.s rfl⟩
  obtain ⟨dst', op, type, pos, after, guard⟩ := o
  simp only at hop
  subst hop
  simp [execOp, hrun]

/-! ### what is asked of strings -/
def smO (x y : ByteArray) : Option Unit := if (x.size + y.size : Int) ≤ 9223372036854775807 then some () else none
theorem sm_t {x y : ByteArray} {u : Unit} (h : smO x y = some u) : Ls.sm x y := by unfold smO at h; split at h <;> simp_all [Ls]
def inS (s : ByteArray) (i : Int) : Option Unit := if 0 ≤ i ∧ i < (s.size : Int) then some () else none
theorem inS_0 {s : ByteArray} {i : Int} {u : Unit} (h : inS s i = some u) : Ls.le 0 i := by unfold inS at h; split at h <;> simp_all [Ls]
theorem inS_1 {s : ByteArray} {i : Int} {u : Unit} (h : inS s i = some u) : Ls.lt i (Ls.sl s) := by unfold inS at h; split at h <;> simp_all [Ls]
def cutS (s : ByteArray) (lo hi : Int) : Option Unit := if 0 ≤ lo ∧ lo ≤ hi ∧ hi ≤ (s.size : Int) then some () else none
theorem cutS_0 {s : ByteArray} {lo hi : Int} {u : Unit} (h : cutS s lo hi = some u) : Ls.le 0 lo := by unfold cutS at h; split at h <;> simp_all [Ls]
theorem cutS_1 {s : ByteArray} {lo hi : Int} {u : Unit} (h : cutS s lo hi = some u) : Ls.le lo hi := by unfold cutS at h; split at h <;> simp_all [Ls]
theorem cutS_2 {s : ByteArray} {lo hi : Int} {u : Unit} (h : cutS s lo hi = some u) : Ls.le hi (Ls.sl s) := by unfold cutS at h; split at h <;> simp_all [Ls]
/-- The bytes, as a string. -/
def bsO (ns : List Int) : ByteArray := ⟨(ns.map fun n => UInt8.ofNat n.toNat).toArray⟩

theorem conv_row {l : List Int} {r : ByteArray} {f : Int → List T} (h : some (bsO l) = some r) (hf : ∀ n, f n = [T.s (.int .u8 n)] := by intro _; rfl) : Ls.bs (rowsOf f l) = r := by
  obtain rfl : f = fun n => [T.s (.int .u8 n)] := funext hf
  cases h; exact bs_u8 l
theorem conv_lit {l lit : List Int} {r : ByteArray} (hl : some lit = some l) (h : some (bsO l) = some r) : Ls.bs (u8rows lit) = r := by
  cases hl; cases h; exact bs_u8 _

/-! ### elements whose cells are told by an equation -/
variable {α : Type} {f u : α → List T} {l r lit : List α} {i : Int} {x y : α} {j : Nat} {c d : T} {raw : Rws} {cs : List T}
theorem get_geU (hu : ∀ x, f x = u x) (h : getO l i = some x) : Ls.ge (rowsOf f l) i = u x := by rw [← hu]; exact get_ge h
theorem some_leU (hu : ∀ x, f x = u x) (h : some lit = some l) (e : RLe P raw (rowsOf u lit)) : RLe P raw (rowsOf f l) := by
  obtain rfl : f = u := funext hu
  exact some_le h e
theorem sto_leU (hu : ∀ x, f x = u x) (h : getO l i = some x) (hs : some (setI l i y) = some r) (hl : ((u x).take j ++ cs ++ (u x).drop (j + cs.length)).length = (u y).length) (hc : LLe P ((u x).take j ++ cs ++ (u x).drop (j + cs.length)) (u y)) : RLe P (Ls.up (rowsOf f l) i j cs) (rowsOf f r) := by
  obtain rfl : f = u := funext hu
  exact sto_le h hs hl hc
theorem up_geU (hu : ∀ x, f x = u x) (h : getO l i = some x) : Ls.ge (Ls.up (rowsOf f l) i j [c]) i = (u x).take j ++ [c] ++ (u x).drop (j + 1) := by
  obtain rfl : f = u := funext hu
  exact up_ge f h
theorem up_atU (hu : ∀ x, f x = u x) (h : getO l i = some x) : (Ls.up (rowsOf f l) i j [c]).getD i.toNat [] = (u x).take j ++ [c] ++ (u x).drop (j + 1) := by
  obtain rfl : f = u := funext hu
  exact up_at f h
theorem hole_leU (hu : ∀ x, f x = u x) (h : getO l i = some x) (hs : some (setI l i y) = some r) (hj : j < (u x).length) (hl : ((u x).take j ++ [d] ++ (u x).drop (j + [d].length)).length = (u y).length) (hc : LLe P ((u x).take j ++ [d] ++ (u x).drop (j + [d].length)) (u y)) : RLe P (Ls.up (Ls.up (rowsOf f l) i j [c]) i j [d]) (rowsOf f r) := by
  obtain rfl : f = u := funext hu
  exact hole_le h hs hj hl hc
theorem hole_eqU (hu : ∀ x, f x = u x) (h : getO l i = some x) (hd : (u x)[j]? = some d) : Ls.up (Ls.up (rowsOf f l) i j [c]) i j [d] = rowsOf f l := by
  obtain rfl : f = u := funext hu
  exact hole_eq h hd
end Go.Proofs.YtcpekllcbimpmaaDoor.L

namespace Go.Proofs.YtcpekllcbimpmaaDoor.L
set_option linter.unusedVariables false
set_option linter.unusedSimpArgs false
open Go
variable {P : Program} {F : Fr} {σ : St} {a : Act} {w : World} {S : Nat → Prop} {G G' : Gh} {φ : Nat → Nat → Prop} {tab : List (Nat × Ty)}

theorem Weak.keepL {n nx : Nat} {env : List (Nat × V)} {objs : List (Nat × O)} (id : Nat) {ver e sz : Nat} {rows : Rws} (ho : look .dead objs id = .row ver e sz rows) (rows' : Rws) (hk : LLe F.P [.im true (Ls.fr rows)] [.im true rows']) :
    Weak F ⟨n, nx, env, objs⟩ ⟨n, nx, frzE id (.im true rows') env, (id, .dead) :: frzO id (.im true rows') objs⟩ := by
  refine Weak.of_keep fun F' hP _ a w S G φ hr => ?_
  rw [← hP] at hk
  clear hP
  revert hk hr
  generalize F' = F
  intro hk hr
  have hx0 : ∀ S', CR F.P w (fun b => F.K b ∨ φ id b) S' [.im true (Ls.fr rows)] [G.β id] no := fun S' => by
    have := ((row_ow hr ho).moreK (K' := fun b => F.K b ∨ φ id b) (fun _ h => .inl h) (S' := fun b => F.K b ∨ φ id b) (fun _ h => .inl h)).lend (S' := fun b => F.K b ∨ φ id b) (fun _ h => h) (fun _ h => h) (fun _ h => .inr h)
    refine CR.im01 ?_
    simpa [fzL, T.fz, Ls] using this
  have hx : ∀ S', Sub (fun b => F.K b ∨ φ id b) S' → CR F.P w (fun b => F.K b ∨ φ id b) S' [.im true rows'] [G.β id] no := fun S' hs => hk _ _ _ _ _ hs (hx0 S')
  have hsb : Sub (fun b => F.K b ∨ φ id b) (fun b => S b ∨ φ id b) := fun b h => h.imp (hr.KS b) (fun h => h)
  refine hr.keep (χ := φ id) (φ' := fun i b => if i = id then False else φ i b) (Gh.le.refl G) (fun _ h => h) (fun b h => ⟨id, h⟩) (fun i b h => ?_) rfl rfl (fun i h => (hasKey_cons _ _ _ _).2 (.inr ((look_frzO _ _ _ _).2.trans h))) (fun i v y hy => ⟨(hr.kd i v y hy).1, fun ver' e' sz' r' hl => ?_⟩) (fun t h => ?_) fun i => ?_
  · have h : if i = id then False else φ i b := h
    split at h
    · exact h.elim
    · rename_i hne
      exact ⟨h, fun h' => hr.dj i id hne b h h'⟩
  · rw [look_cons] at hl
    split at hl
    · cases hl
    · rw [(look_frzO _ _ _ _).1] at hl
      cases hq : look .dead objs i with
      | box e2 cs => rw [hq] at hl; cases hl
      | dead => rw [hq] at hl; cases hl
      | row v1 e1 s1 r1 =>
        rw [hq] at hl
        simp only [O.row.injEq] at hl
        have := (hr.kd i v y hy).2 _ _ _ _ hq
        omega
  · show VR F.P w _ _ G (look .u (frzE id (.im true rows') env) t) _
    rw [look_frzE]
    have := frz_sound (fun _ h => h) (hx _ hsb) h
    simpa [frzL] using this
  · have key : ∀ k : Nat, OR F.P w (fun b => F.K b ∨ φ id b) (fun b => S b ∨ φ id b) G (fun b => if k = id then False else φ k b) k (look .dead ((id, .dead) :: frzO id (.im true rows') objs) k) := by
      intro k
      rw [look_cons]
      by_cases hk : k = id
      · rw [if_pos hk]; trivial
      · rw [if_neg hk, (look_frzO _ _ _ _).1]
        have e : (fun b => if k = id then False else φ k b) = φ k := by funext b; rw [if_neg hk]
        rw [e]
        have hok : OR F.P w (fun b => F.K b ∨ φ id b) (fun b => S b ∨ φ id b) G (φ k) k (look .dead objs k) := (hr.obj k).moreK (fun _ h => .inl h) (fun _ h => .inl h)
        cases hq : look .dead objs k with
        | dead => trivial
        | row v1 e1 s1 r1 => rw [hq] at hok; exact hok
        | box e1 cs =>
          rw [hq] at hok
          obtain ⟨h1, g, us, h2, h3, h4, h5⟩ := hok
          exact ⟨h1, g, us, h2, h3, h4, frz_sound (fun _ h => h) (hx _ hsb) h5⟩
    exact key i


/-- The greater, the smaller of two numbers. -/
def maxO (x y : Int) : Int := if x < y then y else x
def minO (x y : Int) : Int := if y < x then y else x
theorem hand_max {x y : Operand} {ts : Array TypeId} {a b r : Int} (h : some (maxO a b) = some r) : HandOk P (.call ⟨.builtin .max, #[x, y], ts⟩) [.t (.s (.int .i64 a)), .t (.s (.int .i64 b))] [] (.t (.s (.int .i64 r))) [] := by
  cases h
  intro F σ c w S G φ hP hr hv _ _
  refine ⟨.int .i64 (maxO a b), w, G, φ, fun o hop => ?_, by simpa using hr, VR.s rfl⟩
  simp [Op.operands, Call.operands] at hv
  obtain ⟨u1, us1, e1, v1, r1⟩ := hv.uncons
  obtain ⟨u2, us2, e2, v2, r2⟩ := r1.uncons
  cases r2
  subst e2
  simp only [List.cons.injEq, and_true] at e1
  have w1 := v1.s_inv.1
  have w2 := v2.s_inv.1
  obtain ⟨dst, op, type, pos, after, guard⟩ := o
  simp only at hop
  subst hop
  simp [execOp, resolve, invoke, builtin, e1.1, e1.2, w1, w2, run_max_int2, maxO]
theorem hand_min {x y : Operand} {ts : Array TypeId} {a b r : Int} (h : some (minO a b) = some r) : HandOk P (.call ⟨.builtin .min, #[x, y], ts⟩) [.t (.s (.int .i64 a)), .t (.s (.int .i64 b))] [] (.t (.s (.int .i64 r))) [] := by
  cases h
  intro F σ c w S G φ hP hr hv _ _
  refine ⟨.int .i64 (minO a b), w, G, φ, fun o hop => ?_, by simpa using hr, VR.s rfl⟩
  simp [Op.operands, Call.operands] at hv
  obtain ⟨u1, us1, e1, v1, r1⟩ := hv.uncons
  obtain ⟨u2, us2, e2, v2, r2⟩ := r1.uncons
  cases r2
  subst e2
  simp only [List.cons.injEq, and_true] at e1
  have w1 := v1.s_inv.1
  have w2 := v2.s_inv.1
  obtain ⟨dst, op, type, pos, after, guard⟩ := o
  simp only at hop
  subst hop
  simp [execOp, resolve, invoke, builtin, e1.1, e1.2, w1, w2, run_min_int2, minO]

/-- A box's cell, told with less. -/
theorem WeakS.cellB {n nx : Nat} {env : List (Nat × V)} {objs : List (Nat × O)} (b : Nat) {eb : Nat} {l r : List V} {x y : T} (hb : look .dead objs b = .box eb (l ++ .t x :: r)) (hle : LLe F.P [x] [y]) :
    WeakS F ⟨n, nx, env, objs⟩ ⟨n, nx, env, (b, .box eb (l ++ .t y :: r)) :: objs⟩ := by
  rintro a w ⟨S, G, φ, hr⟩
  refine ⟨S, G, φ, fun i hi => ?_, fun i v x hx => ⟨(hr.kd i v x hx).1, fun ver e' sz rows hl => ?_⟩, hr.n, hr.KS, hr.Slt, hr.env, fun i => ?_, hr.dj, hr.own, hr.kept, hr.defs, hr.anc⟩
  · rcases hr.nx i hi with h | h
    · exact .inl h
    · exact .inr ((hasKey_cons _ _ _ _).2 (.inr h))
  · rw [look_cons] at hl
    split at hl
    · cases hl
    · exact (hr.kd i v x hx).2 _ _ _ _ hl
  · show OR F.P w F.K S G (φ i) i (look .dead ((b, .box eb (l ++ .t y :: r)) :: objs) i)
    rw [look_cons]
    split
    · rename_i he
      subst he
      have h := hr.obj i
      change OR F.P w F.K S G (φ i) i (look .dead objs i) at h
      rw [hb] at h
      obtain ⟨h1, g, us, h2, h3, h4, h5⟩ := h
      obtain ⟨ua, ub, rfl, h6, h7⟩ := h5.unappend
      obtain ⟨u, us', rfl, h8, h9⟩ := h7.uncons
      refine ⟨h1, g, _, h2, h3, h4, h6.append (.cons ?_ h9)⟩
      cases h8 with
      | t hx _ => exact .t (hle _ _ _ _ _ hr.KS hx) .nil
    · exact hr.obj i
theorem Weak.cellB {n nx : Nat} {env : List (Nat × V)} {objs : List (Nat × O)} (b : Nat) {eb : Nat} {l r : List V} {x y : T} (hb : look .dead objs b = .box eb (l ++ .t x :: r)) (hle : LLe F.P [x] [y]) :
    Weak F ⟨n, nx, env, objs⟩ ⟨n, nx, env, (b, .box eb (l ++ .t y :: r)) :: objs⟩ := Weak.up fun K => WeakS.cellB (F := F.up K) b hb hle

/-- Where all that nobody writes may be kept. -/
def KLL (P : Program) (xs ys : List T) : Prop := ∀ (w : World) (K : Nat → Prop) (us : List Value) (φ : Nat → Prop), CR P w K K xs us φ → CR P w K K ys us φ
theorem KLL.r {xs : List T} : KLL P xs xs := fun _ _ _ _ h => h
theorem KLL.app {a a' b b' : List T} (h : KLL P a a') (k : KLL P b b') : KLL P (a ++ b) (a' ++ b') := by
  intro w K us φ hc
  obtain ⟨u1, u2, φ1, φ2, rfl, ha, hb, hd, s1, s2⟩ := CR.split hc
  exact (h _ _ _ _ ha).join (k _ _ _ _ hb) hd s1 s2
theorem KLL.cons {x y : T} {xs ys : List T} (h : KLL P [x] [y]) (t : KLL P xs ys) : KLL P (x :: xs) (y :: ys) := KLL.app h t
theorem KLL.c {x : T} {xs ys : List T} (t : KLL P xs ys) : KLL P (x :: xs) (x :: ys) := KLL.app (a := [x]) (a' := [x]) .r t
inductive KRe (P : Program) : Rws → Rws → Prop
  | nil : KRe P [] []
  | cons {r r' rs rs'} (hl : r.length = r'.length) (h : KLL P r r') (t : KRe P rs rs') : KRe P (r :: rs) (r' :: rs')
theorem KRe.r : ∀ {rows : Rws}, KRe P rows rows
  | [] => .nil
  | _ :: _ => .cons rfl .r KRe.r
theorem KRe.len {a b : Rws} (h : KRe P a b) : a.length = b.length := by induction h <;> simp_all
theorem KRe.flat {a b : Rws} (h : KRe P a b) : KLL P a.flatten b.flatten := by
  induction h with
  | nil => exact .r
  | cons hl h _ ih => simpa using KLL.app h ih
theorem KRe.row {a b : Rws} {n : Nat} (h : KRe P a b) : (∀ r ∈ a, r.length = n) → ∀ r ∈ b, r.length = n := by
  induction h with
  | nil => exact fun h => h
  | cons hl h _ ih =>
    intro ha r hr
    rcases List.mem_cons.1 hr with rfl | hr
    · rw [← hl]; exact ha _ (by simp)
    · exact ih (fun r hr => ha r (by simp [hr])) r hr
theorem KLL.im {k : Bool} {a b : Rws} (h : KRe P a b) : KLL P [.im k a] [.im true b] := by
  intro w K us φ c
  cases c with
  | im0 hn hc sz hs vs hA hr h0 =>
    cases h0
    exact .im1 (hn.trans h.len) hc sz (h.row hs) vs hA (h.flat _ _ _ _ hr) .nil
  | im1 hn hc sz hs vs hA hr h0 =>
    cases h0
    exact .im1 (hn.trans h.len) hc sz (h.row hs) vs hA (h.flat _ _ _ _ hr) .nil
theorem LLe.kk {a b : Rws} (h : KRe P a b) : LLe P [.im true a] [.im true b] := by
  intro w K S us φ _ c
  cases c with
  | im1 hn hc sz hs vs hA hr h0 =>
    cases h0
    exact .im1 (hn.trans h.len) hc sz (h.row hs) vs hA (h.flat _ _ _ _ hr) .nil
theorem LLe.kk_eq {a b c : Rws} (e : a = c) (h : KRe P c b) : LLe P [.im true a] [.im true b] := e ▸ LLe.kk h
end Go.Proofs.YtcpekllcbimpmaaDoor.L
