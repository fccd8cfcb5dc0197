/- A load that takes a whole element out of a row for good: the row is gone, what the element's cells own are objects. -/
import Derived.Test.YtgicjbeaomjdgaaSl42
namespace Go.Proofs.Ytgicjbeaomjdgaa.L
set_option linter.unusedVariables false
set_option linter.unusedSimpArgs false
open Go
variable {P : Program} {F : Fr} {σ : St} {a : Act} {w : World} {S : Nat → Prop} {G G' : Gh} {φ : Nat → Nat → Prop} {tab : List (Nat × Ty)}

def takeE (tab : List (Nat × Ty)) : Nat → List T → Option (List V × List (Nat × O))
  | _, [] => some ([], [])
  | id, c :: cs => match c with
    | .s v => match takeE tab id cs with
      | some (vs, os) => some (.t (.s v) :: vs, os)
      | none => none
    | .im true r => match takeE tab id cs with
      | some (vs, os) => some (.t (.im true r) :: vs, os)
      | none => none
    | .ow e rows => match getTy tab e with
      | some ty => match takeE tab (id + 256) cs with
        | some (vs, os) => some (.rf id :: vs, os ++ [(id, .row 0 e ty.size rows)])
        | none => none
      | none => none
    | _ => none

theorem takeE_key : ∀ {cs : List T} {id : Nat} {vs : List V} {os : List (Nat × O)}, takeE tab id cs = some (vs, os) → ∀ p ∈ os, id ≤ p.1
  | [], id, vs, os, h, p, hp => by
    simp only [takeE, Option.some.injEq, Prod.mk.injEq] at h
    rw [← h.2] at hp
    simp at hp
  | c :: cs, id, vs, os, h, p, hp => by
    simp only [takeE] at h
    split at h
    · split at h
      · rename_i hrec
        simp only [Option.some.injEq, Prod.mk.injEq] at h
        obtain ⟨rfl, rfl⟩ := h
        exact takeE_key hrec p hp
      · simp at h
    · split at h
      · rename_i hrec
        simp only [Option.some.injEq, Prod.mk.injEq] at h
        obtain ⟨rfl, rfl⟩ := h
        exact takeE_key hrec p hp
      · simp at h
    · split at h
      · split at h
        · rename_i hrec
          simp only [Option.some.injEq, Prod.mk.injEq] at h
          obtain ⟨rfl, rfl⟩ := h
          rcases List.mem_append.1 hp with hp | hp
          · have := takeE_key hrec p hp; omega
          · rw [List.mem_singleton.1 hp]; exact Nat.le_refl _
        · simp at h
      · simp at h
    · simp at h

theorem fresh_cons {nx : Nat} {objs : List (Nat × O)} {k id : Nat} {o : O} (h : freshB nx objs k = true) (hne : k ≠ id) : freshB nx ((id, o) :: objs) k = true := by
  unfold freshB at h ⊢
  have hb : nq k id = false := by
    cases hc : nq k id with
    | false => rfl
    | true => exact absurd (nq_eq hc) hne
  rw [hasKey, hb]
  exact h

theorem takeE_open {nx : Nat} : ∀ {cs : List T} {id : Nat} {objs : List (Nat × O)} {vs : List V} {os : List (Nat × O)}, takeE tab id cs = some (vs, os) → (∀ p ∈ os, freshB nx objs p.1 = true) → ∃ id', openCells tab nx objs id cs = some (vs, os ++ objs, id')
  | [], id, objs, vs, os, h, hf => by
    simp only [takeE, Option.some.injEq, Prod.mk.injEq] at h
    obtain ⟨rfl, rfl⟩ := h
    exact ⟨id, rfl⟩
  | c :: cs, id, objs, vs, os, h, hf => by
    simp only [takeE] at h
    split at h
    · split at h
      · rename_i hrec
        simp only [Option.some.injEq, Prod.mk.injEq] at h
        obtain ⟨rfl, rfl⟩ := h
        obtain ⟨id', e⟩ := takeE_open hrec hf
        exact ⟨id', by simp only [openCells, e]⟩
      · simp at h
    · split at h
      · rename_i hrec
        simp only [Option.some.injEq, Prod.mk.injEq] at h
        obtain ⟨rfl, rfl⟩ := h
        obtain ⟨id', e⟩ := takeE_open hrec hf
        exact ⟨id', by simp only [openCells, e]⟩
      · simp at h
    · rename_i e rows
      split at h
      · rename_i ty hty
        split at h
        · rename_i vs' os' hrec
          simp only [Option.some.injEq, Prod.mk.injEq] at h
          obtain ⟨rfl, rfl⟩ := h
          have hk := takeE_key hrec
          obtain ⟨id', e'⟩ := takeE_open (nx := nx) (objs := (id, .row 0 e ty.size rows) :: objs) hrec (fun p hp => fresh_cons (hf p (List.mem_append_left _ hp)) (by have := hk p hp; omega))
          exact ⟨id', by simp only [openCells, hty, hf (id, _) (List.mem_append_right _ (List.mem_singleton.2 rfl)), e', List.append_assoc, List.singleton_append]⟩
        · simp at h
      · simp at h
    · simp at h

theorem hand_load_take (htab : TabOk P tab) {t : Nat} {ty : Ty} (ht : getTy tab t = some ty) {x : Operand} {id nid ver e sz : Nat} {i : Int} {rows : Rws} {es : List T} {vs : List V} {os os' : List (Nat × O)} {v : V} (hs : ty.size = sz) (hid : nl (id + 1) nid = true) (h0 : Ls.le 0 i) (h1 : Ls.lt i (Ls.ln rows)) (he : Ls.ge rows i = es)
    (hk : takeE tab nid es = some (vs, os)) (hf : fit ty vs = some v) (hos : os' = os ++ [(id, .dead)]) : HandOk P (.load t x) [.pt id i 0] [(id, .row ver e sz rows)] v os' := by
  subst hs hos
  intro F σ a w S G φ hP hr hv ho hfr
  subst hP
  have ho := ho _ (List.mem_singleton.2 rfl)
  obtain ⟨hdom, hsz, hGs, us, hkk, hrs, hown, ψ, hψb, hψ, hcr⟩ := hr.row ho
  simp [Op.operands] at hv
  obtain ⟨u, us1, e1, v1, r1⟩ := hv.uncons
  cases r1
  simp only [List.cons.injEq, and_true] at e1
  have h0 : 0 ≤ i := h0
  have h1 : i < Ls.ln rows := h1
  have hlt : i.toNat < rows.length := by simp only [Ls] at h1; omega
  have hfl := flatten_len rows hrs
  have hul : us.length = rows.length * ty.size := hcr.len.trans hfl
  have hbd : i.toNat * ty.size + ty.size ≤ rows.length * ty.size := by rw [← Nat.succ_mul]; exact Nat.mul_le_mul_right _ hlt
  have hcr' : CR F.P w F.K F.K es ((us.drop (i.toNat * ty.size)).take ty.size) ψ := by
    have h2 := (hcr.drop (i.toNat * ty.size)).take ty.size
    rwa [flatten_at rows i.toNat hrs hlt, ge_eq he] at h2
  have hD := hr.lent (w' := w) (ids := [id]) (by simpa using hdom) (Kept.refl w _)
  have hone : (G.β id).oneCell' = true := by rcases hown.2 with ⟨h, _⟩ | ⟨g, cap, cur, h, _⟩ <;> rw [h] <;> rfl
  have hx : Loose F w S (fun j b => if j ∈ [id] then False else φ j b) ψ := by
    intro b hb
    obtain ⟨a1, a2, a3⟩ := hr.own id b (hψ b hb)
    refine ⟨a1, a2, a3, fun j hj => ?_⟩
    simp only [List.mem_singleton] at hj
    split at hj
    · exact hj
    · rename_i hne
      exact hr.dj j id hne b hj (hψ b hb)
  obtain ⟨G1, φ1, χ1, g1, b1, b2, b3⟩ := back_sound (σ := σ) (objs := σ.objs) (ds := [some id]) (ts := [.jk]) (rest := es) (us := [G.β id]) (us' := (us.drop (i.toNat * ty.size)).take ty.size) (objs' := (id, .dead) :: σ.objs) (by rfl) hD (by simp [idsOf]) ⟨rfl, hdom, trivial⟩ rfl (fun j hj ver e sz rows hro => by
    obtain ⟨_, h1, h2, _⟩ := hr.row hro
    exact ⟨h1, h2⟩) (.jk hone hcr') hx
  have hne : ∀ p ∈ os, p.1 ≠ id := fun p hp => by
    have := takeE_key hk p hp
    have := nl_le hid
    omega
  have hfr' : ∀ p ∈ os, freshB σ.nx ((id, O.dead) :: σ.objs) p.1 = true := fun p hp => by
    rcases hfr p (List.mem_append_left _ hp) with ⟨q, hq, e⟩ | h
    · rw [List.mem_singleton.1 hq] at e; exact absurd e.symm (hne p hp)
    · exact fresh_cons h (hne p hp)
  obtain ⟨id', hop⟩ := takeE_open (nx := σ.nx) hk hfr'
  obtain ⟨G2, φ2, χ2, g2, c1, c2, _, _⟩ := openCells_sound (σ := σ) htab hop b1 (rest := []) (us' := []) hcr'.len (by simpa using b2) b3
  cases v1 with
  | pt hid' hi' hg _ =>
    rename_i g _
    have hrun : (Instr.loadAt t (a.eval x)).run F.P w = .ok (one ty ((us.drop (i.toNat * ty.size)).take ty.size)) w := by
      rw [e1]
      simp only [Instr.loadAt, Instr.sureAddr, Sem.run_bind, Sem.run_pure, Result.andThen_ok]
      refine run_loadVar (htab _ _ ht) (by rw [List.length_take, List.length_drop, hul]; omega) (fun k y hy => ?_)
      rw [List.getElem?_take] at hy
      split at hy
      · rw [List.getElem?_drop] at hy
        rw [hGs]
        exact own_cell hown hg hy
      · cases hy
    refine ⟨_, w, G2, φ2, fun o hop => ?_, by simpa using c1.rel, fit_sound hf c2⟩
    obtain ⟨dst, op, type, pos, after, guard⟩ := o
    simp only at hop
    subst hop
    simp [execOp, hrun]

/-- A literal row, lent. -/
theorem fr_litO {α : Type} {f f' : α → List T} {lit l : List α} {raw : Rws} (h : (some lit : Option (List α)) = some l) (e : raw = rowsOf f lit) (z : Ls.fr (rowsOf f l) = rowsOf f' l) : LLe P [.im false (Ls.fr raw)] [.im false (rowsOf f' l)] := by
  cases h; rw [e, z]; exact LLe.im (RLe.eq rfl)
end Go.Proofs.Ytgicjbeaomjdgaa.L
