/- Objects that nobody writes again, told as what may be kept. -/
import Derived.Test.YtgicjbeaomjdgaaSl43
namespace Go.Proofs.Ytgicjbeaomjdgaa.L
set_option linter.unusedVariables false
set_option linter.unusedSimpArgs false
open Go
variable {P : Program} {F : Fr} {σ : St} {a : Act} {w : World} {S : Nat → Prop} {G G' : Gh} {φ : Nat → Nat → Prop} {tab : List (Nat × Ty)}

/-- More blocks may be kept: those of χ, which are no object's any more. -/
theorem Rel0.keep (hr : Rel0 F σ a w S G φ) {χ : Nat → Prop} {φ' : Nat → Nat → Prop} {G' : Gh} {τ : St} (hG : G.le G') (hdom : ∀ i, G'.dom i → G.dom i) (hχ : ∀ b, χ b → ∃ i, φ i b) (hφ : ∀ i b, φ' i b → φ i b ∧ ¬ χ b) (hnx : τ.nx = σ.nx) (hn : τ.n = σ.n) (hk : ∀ i, hasKey σ.objs i = true → hasKey τ.objs i = true)
    (hkd : ∀ i v x, G'.κ i v = some x → G'.dom i ∧ ∀ ver e sz rows, look .dead τ.objs i = .row ver e sz rows → v ≤ ver)
    (henv : ∀ t, VR F.P w (fun b => F.K b ∨ χ b) (fun b => S b ∨ χ b) G' (look .u σ.env t) (a.tmps.getD t undef) → VR F.P w (fun b => F.K b ∨ χ b) (fun b => S b ∨ χ b) G' (look .u τ.env t) (a.tmps.getD t undef))
    (hobj : ∀ i, OR F.P w (fun b => F.K b ∨ χ b) (fun b => S b ∨ χ b) G' (φ' i) i (look .dead τ.objs i)) :
    ∃ K, KLe F K ∧ ∃ S G φ, Rel0 (F.up K) τ a w S G φ := by
  refine ⟨fun b => F.K b ∨ χ b, ⟨fun b h => .inl h, fun b h => h.imp (fun h => h) fun h => ?_⟩, fun b => S b ∨ χ b, G', φ', fun i hi => ?_, hkd, hr.n.trans hn.symm, fun b h => h.imp (hr.KS b) (fun h => h), fun b h => ?_, fun t => henv t (((hr.env t).moreK (fun _ h => .inl h) (fun _ h => .inl h)).move (fun _ _ => rfl) (fun _ _ => rfl) hG), hobj, fun i j hij b h1 h2 => hr.dj i j hij b (hφ i b h1).1 (hφ j b h2).1, fun i b h => ?_, hr.kept, hr.defs, fun i v hi => ⟨hG.dom _ (hr.anc i v hi).1, (hG.β _ (hr.anc i v hi).1).trans (hr.anc i v hi).2⟩⟩
  · obtain ⟨i, hi⟩ := hχ b h; exact (hr.own i b hi).2.2
  · rw [hnx]; exact (hr.nx i (hdom i hi)).imp (fun h => h) (hk i)
  · rcases h with h | h
    · exact hr.Slt b h
    · obtain ⟨i, hi⟩ := hχ b h; exact (hr.own i b hi).1
  · obtain ⟨h1, h2⟩ := hφ i b h
    obtain ⟨p1, p2, p3⟩ := hr.own i b h1
    exact ⟨p1, fun h => h.elim p2 h2, p3⟩

theorem Weak.of_keep {τ : St} (h : ∀ (F' : Fr), F'.P = F.P → F'.anc = F.anc → ∀ a w S G φ, Rel0 F' σ a w S G φ → ∃ K, KLe F' K ∧ ∃ S G φ, Rel0 (F'.up K) τ a w S G φ) : Weak F σ τ := by
  rintro a w ⟨K, hK, S, G, φ, hr⟩
  obtain ⟨K', hK', S', G', φ', hr'⟩ := h (F.up K) rfl rfl a w S G φ hr
  exact ⟨K', hK.trans hK', S', G', φ', hr'⟩

theorem CR.im01 {K S : Nat → Prop} {rows : Rws} {u : Value} (h : CR P w K K [.im false rows] [u] no) : CR P w K S [.im true rows] [u] no := by
  cases h with
  | im0 hn hcc sz hs vs hA hr _ => exact .im1 hn hcc sz hs vs hA hr .nil

/-- An object that is never written again may be kept. -/
theorem Weak.keep {n nx : Nat} {env : List (Nat × V)} {objs : List (Nat × O)} (id : Nat) {ver e sz : Nat} {rows : Rws} (ho : look .dead objs id = .row ver e sz rows) (rows' : Rws) (hrows : Ls.fr rows = rows') :
    Weak F ⟨n, nx, env, objs⟩ ⟨n, nx, frzE id (.im true rows') env, (id, .dead) :: frzO id (.im true rows') objs⟩ := by
  subst hrows
  refine Weak.of_keep fun F _ _ a w S G φ hr => ?_
  have hx : ∀ S', CR F.P w (fun b => F.K b ∨ φ id b) S' [.im true (Ls.fr rows)] [G.β id] no := fun S' => by
    have := ((row_ow hr ho).moreK (K' := fun b => F.K b ∨ φ id b) (fun _ h => .inl h) (S' := fun b => F.K b ∨ φ id b) (fun _ h => .inl h)).lend (S' := fun b => F.K b ∨ φ id b) (fun _ h => h) (fun _ h => h) (fun _ h => .inr h)
    refine CR.im01 ?_
    simpa [fzL, T.fz, Ls] using this
  refine hr.keep (χ := φ id) (φ' := fun i b => if i = id then False else φ i b) (Gh.le.refl G) (fun _ h => h) (fun b h => ⟨id, h⟩) (fun i b h => ?_) rfl rfl (fun i h => (hasKey_cons _ _ _ _).2 (.inr ((look_frzO _ _ _ _).2.trans h))) (fun i v y hy => ⟨(hr.kd i v y hy).1, fun ver' e' sz' r' hl => ?_⟩) (fun t h => ?_) fun i => ?_
  · have h : if i = id then False else φ i b := h
    split at h
    · exact h.elim
    · rename_i hne
      exact ⟨h, fun h' => hr.dj i id hne b h h'⟩
  · rw [look_cons] at hl
    split at hl
    · cases hl
    · rw [(look_frzO _ _ _ _).1] at hl
      cases hq : look .dead objs i with
      | box e2 cs => rw [hq] at hl; cases hl
      | dead => rw [hq] at hl; cases hl
      | row v1 e1 s1 r1 =>
        rw [hq] at hl
        simp only [O.row.injEq] at hl
        have := (hr.kd i v y hy).2 _ _ _ _ hq
        omega
  · show VR F.P w _ _ G (look .u (frzE id (.im true (Ls.fr rows)) env) t) _
    rw [look_frzE]
    have := frz_sound (fun _ h => h) (hx _) h
    simpa [frzL] using this
  · have key : ∀ k : Nat, OR F.P w (fun b => F.K b ∨ φ id b) (fun b => S b ∨ φ id b) G (fun b => if k = id then False else φ k b) k (look .dead ((id, .dead) :: frzO id (.im true (Ls.fr rows)) objs) k) := by
      intro k
      rw [look_cons]
      by_cases hk : k = id
      · rw [if_pos hk]; trivial
      · rw [if_neg hk, (look_frzO _ _ _ _).1]
        have e : (fun b => if k = id then False else φ k b) = φ k := by funext b; rw [if_neg hk]
        rw [e]
        have hok : OR F.P w (fun b => F.K b ∨ φ id b) (fun b => S b ∨ φ id b) G (φ k) k (look .dead objs k) := (hr.obj k).moreK (fun _ h => .inl h) (fun _ h => .inl h)
        cases hq : look .dead objs k with
        | dead => trivial
        | row v1 e1 s1 r1 => rw [hq] at hok; exact hok
        | box e1 cs =>
          rw [hq] at hok
          obtain ⟨h1, g, us, h2, h3, h4, h5⟩ := hok
          exact ⟨h1, g, us, h2, h3, h4, frz_sound (fun _ h => h) (hx _) h5⟩
    exact key i

theorem keep_part (hr : Rel0 F σ a w S G φ) {id ver e sz : Nat} {rows : Rws} (ho : look .dead σ.objs id = .row ver e sz rows) {lo hi : Int} {u : Value} {K' S' S2 : Nat → Prop} (hK : Sub F.K K') (hφ : Sub (φ id) K') (hv : VR F.P w K' S2 G (.sb id lo hi) u) : CR F.P w K' S' [.im true (Ls.sr (Ls.fr rows) lo hi)] [u] no := by
  obtain ⟨hid, hsz, hGs, us, hk, hrs, hown, ψ, hψb, hψ, hcr⟩ := hr.row ho
  cases hv with
  | @sb _ _ _ A n c _ _ _ h0 h1 hn hm hc hA hb _ =>
    obtain ⟨A0, m, cp, hβ, hhm, hcp, hA0⟩ := hb
    have hmr : m = rows.length := by
      rcases hown.2 with ⟨h, hn⟩ | ⟨g, cap, cur, h, _, _, hnc, _⟩
      · rw [hβ] at h; cases h; exact hn.symm
      · rw [hβ] at h; cases h; rfl
    have hcr' : CR F.P w K' K' (fzL rows.flatten) us no := ((hcr.moreK hK (S' := K') hK)).lend (fun _ h => h) (fun _ h => h) (fun b h => hφ b (hψ b h))
    have hrs' : ∀ r ∈ fzR rows, r.length = sz := by
      rw [fzR_map]
      intro r hr
      obtain ⟨q, hq, rfl⟩ := List.mem_map.1 hr
      rw [fzL_len]; exact hrs q hq
    have hl : (Ls.sr (fzR rows) lo hi).length = n := by
      show (((fzR rows).take hi.toNat).drop lo.toNat).length = n
      rw [List.length_drop, List.length_take, fzR_len]; omega
    have hflat : (Ls.sr (fzR rows) lo hi).flatten = ((fzL rows.flatten).take (hi.toNat * sz)).drop (lo.toNat * sz) := by
      show (((fzR rows).take hi.toNat).drop lo.toNat).flatten = _
      rw [drop_flatten _ _ (fun r h => hrs' r (List.mem_of_mem_take h)), take_flatten _ _ hrs', fzR_flatten]
    refine .im1 hl.symm hc sz (fun r h => hrs' r (List.mem_of_mem_take (List.mem_of_mem_drop h))) ((us.take (hi.toNat * sz)).drop (lo.toNat * sz)) (fun hp => ?_) ?_ .nil
    · obtain ⟨g, hg, rfl⟩ := hA (by omega)
      refine ⟨g, _, rfl, hφ _ ?_, fun j y hy => ?_⟩
      · refine (hψb g ?_).1
        rw [hβ] at hg ⊢
        cases A0 with
        | none => simp [blk] at hg
        | some d => simpa [blk, Value.ownBlock] using hg
      · rw [hGs]
        rw [List.getElem?_drop, List.getElem?_take] at hy
        split at hy
        · exact own_cell hown hg hy
        · cases hy
    · show CR F.P w K' K' (Ls.sr (fzR rows) lo hi).flatten _ no
      rw [hflat]
      exact (hcr'.take _).drop _

/-- A part of a row, in a variable's block, told as what may be kept; the row is gone. -/
theorem Weak.keepB {n nx : Nat} {env : List (Nat × V)} {objs : List (Nat × O)} (b id : Nat) {ver e sz eb : Nat} {rows : Rws} {l r : List V} {lo hi : Int} (hb : look .dead objs b = .box eb (l ++ .sb id lo hi :: r)) (ho : look .dead objs id = .row ver e sz rows) (rows' : Rws) (hrows : Ls.sr (Ls.fr rows) lo hi = rows') :
    Weak F ⟨n, nx, env, objs⟩ ⟨n, nx, env, (b, .box eb (l ++ .t (.im true rows') :: r)) :: (id, .dead) :: objs⟩ := by
  subst hrows
  refine Weak.of_keep fun F _ _ a w S G φ hr => ?_
  have hne : b ≠ id := by rintro rfl; rw [ho] at hb; cases hb
  refine hr.keep (χ := φ id) (φ' := fun i b => if i = id then False else φ i b) (Gh.le.refl G) (fun _ h => h) (fun b h => ⟨id, h⟩) (fun i b h => ?_) rfl rfl (fun i h => (hasKey_cons _ _ _ _).2 (.inr ((hasKey_cons _ _ _ _).2 (.inr h)))) (fun i v y hy => ⟨(hr.kd i v y hy).1, fun ver' e' sz' r' hl => ?_⟩) (fun t h => h) fun i => ?_
  · have h : if i = id then False else φ i b := h
    split at h
    · exact h.elim
    · rename_i hne
      exact ⟨h, fun h' => hr.dj i id hne b h h'⟩
  · rw [look_cons, look_cons] at hl
    split at hl
    · cases hl
    · split at hl
      · cases hl
      · exact (hr.kd i v y hy).2 _ _ _ _ hl
  · have key : ∀ k : Nat, OR F.P w (fun b => F.K b ∨ φ id b) (fun b => S b ∨ φ id b) G (fun b => if k = id then False else φ k b) k (look .dead ((b, .box eb (l ++ .t (.im true (Ls.sr (Ls.fr rows) lo hi)) :: r)) :: (id, .dead) :: objs) k) := by
      intro k
      rw [look_cons, look_cons]
      by_cases hkb : k = b
      · subst hkb
        rw [if_pos rfl]
        have e : (fun x => if k = id then False else φ k x) = φ k := by funext x; rw [if_neg hne]
        rw [e]
        have hok : OR F.P w (fun b => F.K b ∨ φ id b) (fun b => S b ∨ φ id b) G (φ k) k (look .dead objs k) := (hr.obj k).moreK (fun _ h => .inl h) (fun _ h => .inl h)
        rw [hb] at hok
        obtain ⟨h1, g, us, h2, h3, h4, h5⟩ := hok
        refine ⟨h1, g, us, h2, h3, h4, ?_⟩
        obtain ⟨ua, ub, rfl, h6, h7⟩ := h5.unappend
        obtain ⟨u, us', rfl, h8, h9⟩ := h7.uncons
        exact h6.append (.cons (.t (keep_part hr ho (fun _ h => .inl h) (fun _ h => .inr h) h8) .nil) h9)
      · rw [if_neg hkb]
        by_cases hk : k = id
        · rw [if_pos hk]; trivial
        · rw [if_neg hk]
          have e : (fun b => if k = id then False else φ k b) = φ k := by funext b; rw [if_neg hk]
          rw [e]
          exact (hr.obj k).moreK (fun _ h => .inl h) (fun _ h => .inl h)
    exact key i

/-- The same, in a temporary. -/
theorem Weak.keepT {n nx : Nat} {env : List (Nat × V)} {objs : List (Nat × O)} (t id : Nat) {ver e sz : Nat} {rows : Rws} {lo hi : Int} (hb : look .u env t = .sb id lo hi) (ho : look .dead objs id = .row ver e sz rows) (rows' : Rws) (hrows : Ls.sr (Ls.fr rows) lo hi = rows') :
    Weak F ⟨n, nx, env, objs⟩ ⟨n, nx, (t, .t (.im true rows')) :: env, (id, .dead) :: objs⟩ := by
  subst hrows
  refine Weak.of_keep fun F _ _ a w S G φ hr => ?_
  refine hr.keep (χ := φ id) (φ' := fun i b => if i = id then False else φ i b) (Gh.le.refl G) (fun _ h => h) (fun b h => ⟨id, h⟩) (fun i b h => ?_) rfl rfl (fun i h => (hasKey_cons _ _ _ _).2 (.inr h)) (fun i v y hy => ⟨(hr.kd i v y hy).1, fun ver' e' sz' r' hl => ?_⟩) (fun t' h => ?_) fun i => ?_
  · have h : if i = id then False else φ i b := h
    split at h
    · exact h.elim
    · rename_i hne
      exact ⟨h, fun h' => hr.dj i id hne b h h'⟩
  · rw [look_cons] at hl
    split at hl
    · cases hl
    · exact (hr.kd i v y hy).2 _ _ _ _ hl
  · show VR F.P w _ _ G (look .u ((t, .t (.im true (Ls.sr (Ls.fr rows) lo hi))) :: env) t') _
    rw [look_cons]
    split
    · rename_i e
      subst e
      have h : VR F.P w (fun b => F.K b ∨ φ id b) (fun b => S b ∨ φ id b) G (look .u env t') (a.tmps.getD t' undef) := h
      rw [hb] at h
      exact .t (keep_part hr ho (fun _ h => .inl h) (fun _ h => .inr h) h) .nil
    · exact h
  · have key : ∀ k : Nat, OR F.P w (fun b => F.K b ∨ φ id b) (fun b => S b ∨ φ id b) G (fun b => if k = id then False else φ k b) k (look .dead ((id, .dead) :: objs) k) := by
      intro k
      rw [look_cons]
      by_cases hk : k = id
      · rw [if_pos hk]; trivial
      · rw [if_neg hk]
        have e : (fun b => if k = id then False else φ k b) = φ k := by funext b; rw [if_neg hk]
        rw [e]
        exact (hr.obj k).moreK (fun _ h => .inl h) (fun _ h => .inl h)
    exact key i

/-! ### rows whose elements' cells may be kept -/
def kpT : T → T
  | .ow _ rows => .im true (fzR rows)
  | .bx _ _ => .jk
  | t => t
def kpL (ts : List T) : List T := ts.map kpT
def kpR (rows : Rws) : Rws := rows.map kpL

theorem CR.kp {K S : Nat → Prop} {ts us φ'} (h : CR P w K S ts us φ') : ∀ {K' S' : Nat → Prop}, Sub K K' → Sub φ' K' → Sub S S' → CR P w K' S' (kpL ts) us no := by
  induction h with
  | nil => intro K' S' _ _ _; exact .nil
  | s h1 _ ih => intro K' S' a b c; exact .s h1 (ih a b c)
  | jk h1 _ ih => intro K' S' a b c; exact .jk h1 (ih a b c)
  | er _ ih => intro K' S' a b c; exact .er (ih a b c)
  | im0 hn hc sz hss vs hA hr _ _ ih => intro K' S' a b c; exact .im0 hn hc sz hss vs (fun hp => let ⟨x, o, e, hb, hx⟩ := hA hp; ⟨x, o, e, c x hb, hx⟩) (hr.moreK a c) (ih a b c)
  | im1 hn hc sz hss vs hA hr _ _ ih => intro K' S' a b c; exact .im1 hn hc sz hss vs (fun hp => let ⟨x, o, e, hb, hx⟩ := hA hp; ⟨x, o, e, a x hb, hx⟩) (hr.moreK a a) (ih a b c)
  | ow hs vs ho ψ hb hψ hr h hd h1 h2 _ ih =>
    intro K' S' a b c
    have h0 := (CR.ow (φ2 := no) hs vs ho ψ hb hψ hr (.nil (S := K')) (fun _ _ h => h.elim) (fun _ h => h) (fun _ h => h.elim) : CR P w K K' [.ow _ _] [_] _)
    have h3 := CR.im01 (S := S') (by simpa [fzL, T.fz] using (h0.moreK a (fun _ h => h)).lend (S' := K') (fun _ h => h) (fun _ h => h) (fun x hx => b x (h1 x hx)))
    exact CR.join (a := [.im true _]) (u1 := [_]) h3 (ih a (fun x hx => b x (h2 x hx)) c) (fun _ h => h.elim) (fun _ h => h) (fun _ h => h)
  | ip vs hS hA hr _ _ ih => intro K' S' a b c; exact .ip vs (fun hp => c _ (hS hp)) hA (hr.moreK a c) (ih a b c)
  | bx vs hg ψ hb hψ hr h hd h1 h2 _ ih => intro K' S' a b c; exact .jk rfl (ih a (fun x hx => b x (h2 x hx)) c)
  | fn vs hr _ _ ih => intro K' S' a b c; exact .fn vs (hr.moreK a c) (ih a b c)

/-- What an object's elements own may be kept; the object itself is as it was. -/
theorem Weak.deep {n nx : Nat} {env : List (Nat × V)} {objs : List (Nat × O)} (id : Nat) {ver e sz : Nat} {rows : Rws} (ho : look .dead objs id = .row ver e sz rows) (rows' : Rws) (hrows : kpR rows = rows') :
    Weak F ⟨n, nx, env, objs⟩ ⟨n, nx, env, (id, .row (ver + 1) e sz rows') :: objs⟩ := by
  subst hrows
  refine Weak.of_keep fun F _ _ a w S G φ hr => ?_
  obtain ⟨hid, hsz, hGs, us, hk, hrs, hown, ψ, hψb, hψ, hcr⟩ := hr.row ho
  have hno : G.κ id (ver + 1) = none := by
    cases hk : G.κ id (ver + 1) with
    | none => rfl
    | some x => have := (hr.kd id (ver + 1) x hk).2 _ _ _ _ ho; omega
  refine hr.keep (χ := ψ) (φ' := fun i b => if i = id then (G.β id).ownBlock = some b else φ i b) (G' := G.ver id (ver + 1) (kpR rows, us)) (Gh.le_ver hno) (fun _ h => h) (fun b h => ⟨id, hψ b h⟩) (fun i b h => ?_) rfl rfl (fun i h => (hasKey_cons _ _ _ _).2 (.inr h)) (fun i v y hy => ?_) (fun t h => h) fun i => ?_
  · have h : if i = id then (G.β id).ownBlock = some b else φ i b := h
    split at h
    · rename_i e; subst e; exact hψb b h
    · rename_i hne
      exact ⟨h, fun h' => hr.dj i id hne b h (hψ b h')⟩
  · simp only [Gh.ver] at hy
    split at hy
    · rename_i he
      refine ⟨by show G.dom i; rw [he.1]; exact hid, fun ver' e' sz' r' hl => ?_⟩
      rw [look_cons, if_pos he.1] at hl
      simp only [O.row.injEq] at hl
      omega
    · obtain ⟨k1, k2⟩ := hr.kd i v y hy
      refine ⟨k1, fun ver' e' sz' r' hl => ?_⟩
      rw [look_cons] at hl
      split at hl
      · rename_i e
        subst e
        simp only [O.row.injEq] at hl
        have := k2 _ _ _ _ ho
        omega
      · exact k2 _ _ _ _ hl
  · have key : ∀ k : Nat, OR F.P w (fun b => F.K b ∨ ψ b) (fun b => S b ∨ ψ b) (G.ver id (ver + 1) (kpR rows, us)) (fun b => if k = id then (G.β id).ownBlock = some b else φ k b) k (look .dead ((id, .row (ver + 1) e sz (kpR rows)) :: objs) k) := by
      intro k
      rw [look_cons]
      by_cases hk : k = id
      · subst hk
        rw [if_pos rfl]
        refine ⟨hid, hsz, hGs, us, by simp [Gh.ver], fun r h => ?_, ?_, no, fun b hb => ⟨by show if k = k then (G.β k).ownBlock = some b else φ k b; rw [if_pos rfl]; exact hb, fun h => h⟩, fun _ h => h.elim, ?_⟩
        · obtain ⟨q, hq, rfl⟩ := List.mem_map.1 h
          rw [kpL, List.length_map]; exact hrs q hq
        · show w.ownsRow 0 e sz (G.β k) (kpR rows).length us
          rw [kpR, List.length_map]; exact hown
        · have := hcr.kp (K' := fun b => F.K b ∨ ψ b) (S' := fun b => F.K b ∨ ψ b) (fun _ h => .inl h) (fun _ h => .inr h) (fun _ h => .inl h)
          rw [show (kpR rows).flatten = kpL rows.flatten by rw [kpR, kpL, List.map_flatten]; rfl]
          exact this
      · rw [if_neg hk]
        have e : (fun b => if k = id then (G.β id).ownBlock = some b else φ k b) = φ k := by funext b; rw [if_neg hk]
        rw [e]
        exact ((hr.obj k).moreK (fun _ h => .inl h) (fun _ h => .inl h)).move (fun _ _ => rfl) (fun _ _ => rfl) (fun _ _ => rfl) (Gh.le_ver hno)
    exact key i

theorem bo_cf {c x : Bool} (h : c = false) : bo3 c x false = false := by subst h; rfl
theorem bo_xf {c x : Bool} (h : x = false) : bo3 c x false = false := by subst h; cases c <;> rfl
theorem kp_row {α : Type} {f g : α → List T} (h : ∀ x, kpL (f x) = g x) (l : List α) : kpR (rowsOf f l) = rowsOf g l := by
  rw [kpR, rowsOf, rowsOf, List.map_map]
  exact List.map_congr_left fun x _ => h x
end Go.Proofs.Ytgicjbeaomjdgaa.L
