/- A region in the text's order. -/
import Derived.Test.YtplgbjbpimbcbaaSl13
namespace Go.Proofs.Ytplgbjbpimbcbaa.L
set_option linter.unusedVariables false
set_option linter.unusedSimpArgs false
open Go

variable {F : Fr} {σ : St} {a : Act} {w : World} {S : Nat → Prop} {G : Gh} {φ : Nat → Nat → Prop} {tab : List (Nat × Ty)}

/-- Whether a guarded operation is wanted. -/
def gate (L : Lf) (env : List (Nat × V)) (t : Nat) (want : Bool) : Option Bool :=
  match look .u env t with
  | .t (.s (.bool x)) => match want with
    | true => some x
    | false => some (L.bo x false true)
  | .cd c (.t (.s (.bool x))) => match want with
    | true => some (L.bo c x false)
    | false => some (L.bo c (L.bo x false true) false)
  | _ => none

def constsB (op : Op) : Bool := op.operands.toList.all fun x => match x with
  | .const v => v.oneCell'
  | _ => true

abbrev SR := Option (List Prop × V × List (Nat × O))

/-- Which kind of step: plain, making, storing, calling. -/
inductive Kd where
  | q | a | s | c

def kindOf : Op → Kd
  | .box _ _ => .a
  | .alloc _ => .a
  | .buildSlice _ _ _ => .a
  | .makeSlice _ _ _ => .a
  | .store _ _ _ => .s
  | .call c => match c.callee with
    | .builtin .append => .a
    | .value _ => .c
    | _ => .q
  | _ => .q

/-- An operation that is wanted. -/
def stepW (P : Program) (L : Lf) (tab : List (Nat × Ty)) (σ : St) (id : Nat) (op : Op) (sup : Option Sup) : SR :=
  match kindOf op with
  | .q => match stepQ L tab σ op sup with
    | some (ps, v, _) => some (ps, v, [])
    | none => none
  | .a => match freshB σ.nx σ.objs id with
    | true => stepA L tab σ id op
    | false => none
  | .s => match stepS L tab σ op with
    | some (ps, os) => some (ps, .u, os)
    | none => none
  | .c => match op with
    | .call c => match stepC P L tab σ id c sup with
      | some (ps, v, objs) => some (ps, v, takeN (lenN objs - lenN σ.objs) objs)
      | none => none
    | _ => none

def dstB (n : Nat) : Option Nat → Bool
  | none => true
  | some d => nl (d + 1) n

def stepO (P : Program) (L : Lf) (tab : List (Nat × Ty)) (σ : St) (id : Nat) (ops : List Oper) (o : Oper) (sup : Option Sup) : SR :=
  match constsB o.op, dstB σ.n o.dst with
  | true, true => match o.guard with
    | none => stepW P L tab σ id o.op sup
    | some (g, want) => match nth ops g with
      | none => none
      | some og => match og.dst with
        | none => none
        | some t => match gate L σ.env t want with
          | none => none
          | some b => match stepW P L tab σ id o.op sup with
            | some (ps, v, []) => match strip v with
              | (qs, v') => some ([b = true → AllP (qs ++ ps)], .cd b v', [])
            | _ => none
  | _, _ => none

def St.upd (σ : St) (d : Option Nat) (v : V) (os : List (Nat × O)) : St :=
  ⟨σ.n, σ.nx, (match d with | some d => (d, v) :: σ.env | none => σ.env), os ++ σ.objs⟩

def supOf : List (Nat × Sup) → Nat → Option Sup
  | [], _ => none
  | (k, s) :: r, n => bif nq n k then some s else supOf r n

inductive RR where
  | ok (ps : List Prop) (σ : St)
  | bad (i : Nat)

/-- The operations from i on, in the text's order. -/
def runL (P : Program) (L : Lf) (tab : List (Nat × Ty)) (ops : List Oper) (sups : List (Nat × Sup)) : Nat → List Oper → St → RR
  | _, [], σ => .ok [] σ
  | i, o :: r, σ => match stepO P L tab σ (σ.nx + i) ops o (supOf sups i) with
    | none => .bad i
    | some (ps, v, os) => match runL P L tab ops sups (i + 1) r (σ.upd o.dst v os) with
      | .ok ps' σ' => .ok (ps ++ ps') σ'
      | .bad j => .bad j

def St.bump (σ : St) : St := ⟨σ.n, σ.nx + 4096, σ.env, σ.objs⟩

theorem consts_ok {op : Op} (h : constsB op = true) : ConstsOk op := by
  intro x hx v hv
  subst hv
  have := List.all_eq_true.1 h _ (Array.mem_toList_iff.2 hx)
  exact this

theorem back_ext : ∀ {ds : List (Option Nat)} {ts : List T} {objs objs' : List (Nat × O)}, back objs ds ts = some objs' → ∃ δ, objs' = δ ++ objs
  | [], ts, objs, objs', h => by simp only [back, Option.some.injEq] at h; exact ⟨[], by simp [h]⟩
  | none :: ds, [], objs, objs', h => by simp [back] at h
  | some _ :: ds, [], objs, objs', h => by simp [back] at h
  | none :: ds, t :: ts, objs, objs', h => back_ext (by simpa only [back] using h)
  | some id :: ds, t :: ts, objs, objs', h => by
    simp only [back] at h
    split at h
    · split at h
      · obtain ⟨δ, rfl⟩ := back_ext h
        exact ⟨δ ++ [_], by simp; rfl⟩
      · simp at h
    · obtain ⟨δ, rfl⟩ := back_ext h
      exact ⟨δ ++ [_], by simp; rfl⟩
    · split at h
      · obtain ⟨δ, rfl⟩ := back_ext h
        exact ⟨δ ++ [_], by simp; rfl⟩
      · simp at h
    · simp at h

theorem openCells_ext {nx : Nat} : ∀ {cs : List T} {objs objs' : List (Nat × O)} {id id' : Nat} {vs : List V}, openCells tab nx objs id cs = some (vs, objs', id') → ∃ δ, objs' = δ ++ objs
  | [], objs, objs', id, id', vs, h => by simp only [openCells, Option.some.injEq, Prod.mk.injEq] at h; exact ⟨[], by simp [h.2.1]⟩
  | c :: cs, objs, objs', id, id', vs, h => by
    simp only [openCells] at h
    split at h
    · split at h
      · rename_i hrec
        simp only [Option.some.injEq, Prod.mk.injEq] at h
        obtain ⟨δ, hδ⟩ := openCells_ext hrec
        exact ⟨δ, by rw [← h.2.1]; exact hδ⟩
      · simp at h
    · split at h
      · rename_i hrec
        simp only [Option.some.injEq, Prod.mk.injEq] at h
        obtain ⟨δ, hδ⟩ := openCells_ext hrec
        exact ⟨δ, by rw [← h.2.1]; exact hδ⟩
      · simp at h
    · split at h
      · rename_i hrec
        simp only [Option.some.injEq, Prod.mk.injEq] at h
        obtain ⟨δ, hδ⟩ := openCells_ext hrec
        exact ⟨δ, by rw [← h.2.1]; exact hδ⟩
      · simp at h
    · split at h
      · split at h
        · rename_i hrec
          simp only [Option.some.injEq, Prod.mk.injEq] at h
          obtain ⟨δ, hδ⟩ := openCells_ext hrec
          exact ⟨δ ++ [_], by rw [← h.2.1, hδ]; simp; rfl⟩
        · simp at h
      · simp at h
    · split at h
      · split at h
        · rename_i hrec
          simp only [Option.some.injEq, Prod.mk.injEq] at h
          obtain ⟨δ, hδ⟩ := openCells_ext hrec
          exact ⟨δ ++ [_], by rw [← h.2.1, hδ]; simp; rfl⟩
        · simp at h
      · simp at h
    · simp at h

theorem openRes_ext {nx : Nat} : ∀ {res : List A} {objs objs' : List (Nat × O)} {id : Nat} {vs : List V}, openRes tab nx objs id res = some (vs, objs') → ∃ δ, objs' = δ ++ objs
  | [], objs, objs', id, vs, h => by simp only [openRes, Option.some.injEq, Prod.mk.injEq] at h; exact ⟨[], by simp [h.2]⟩
  | .v x :: r, objs, objs', id, vs, h => by
    simp only [openRes] at h
    split at h
    · rename_i hc
      split at h
      · rename_i hrec
        simp only [Option.some.injEq, Prod.mk.injEq] at h
        obtain ⟨δ, hδ⟩ := openRes_ext hrec
        obtain ⟨δ', hδ'⟩ := openCells_ext hc
        exact ⟨δ ++ δ', by rw [← h.2, hδ, hδ']; simp⟩
      · simp at h
    · simp at h
  | .ag xs :: r, objs, objs', id, vs, h => by
    simp only [openRes] at h
    split at h
    · rename_i hc
      split at h
      · rename_i hrec
        simp only [Option.some.injEq, Prod.mk.injEq] at h
        obtain ⟨δ, hδ⟩ := openRes_ext hrec
        obtain ⟨δ', hδ'⟩ := openCells_ext hc
        exact ⟨δ ++ δ', by rw [← h.2, hδ, hδ']; simp⟩
      · simp at h
    · simp at h

theorem stepC_ext {P : Program} {L : Lf} {id : Nat} {c : Call} {sup : Option Sup} {ps : List Prop} {v : V} {objs : List (Nat × O)} (h : stepC P L tab σ id c sup = some (ps, v, objs)) : ∃ δ, objs = δ ++ σ.objs := by
  unfold stepC at h
  split at h
  · split at h
    · split at h
      · split at h
        · split at h
          · rename_i hb
            split at h
            · rename_i hres
              obtain ⟨δ, hδ⟩ := back_ext hb
              obtain ⟨δ', hδ'⟩ := openRes_ext hres
              split at h <;> simp only [Option.some.injEq, Prod.mk.injEq] at h <;> exact ⟨δ' ++ δ, by rw [← h.2.2, hδ', hδ]; simp⟩
            · simp at h
          · simp at h
        · simp at h
      · simp at h
    · simp at h
  · simp at h

theorem delta_eq {α : Type} (δ l : List α) : takeN (lenN (δ ++ l) - lenN l) (δ ++ l) = δ := by
  rw [lenN_eq, lenN_eq, takeN_eq]
  simp

theorem put_none (a : Act) (u : Value) : a.put none u = a := rfl

theorem upd_sound {os : List (Nat × O)} (h : Rel0 F ⟨σ.n, σ.nx, σ.env, os ++ σ.objs⟩ a w S G φ) {d : Option Nat} {v : V} {u : Value} (hd : dstB σ.n d = true) (hv : VR F.P w F.K S G v u) : Rel0 F (σ.upd d v os) (a.put d u) w S G φ := by
  cases d with
  | none => exact h
  | some d =>
    have := h.set (d := d) (nl_le (by simpa only [dstB] using hd)) hv
    simpa [St.put, St.upd] using this

theorem stepW_sound (hr : Rel0 F σ a w S G φ) (ht : TabOk F.P tab) {o : Oper} {id : Nat} {sup : Option Sup} {ps : List Prop} {v : V} {os : List (Nat × O)} (h : stepW F.P Ls tab σ id o.op sup = some (ps, v, os)) (hp : AllP ps) (hc : ConstsOk o.op)
    {next : Act → World → Prop} {Q : Exit → Act → World → Prop} (hnext : ∀ u w' G' φ', Rel0 F ⟨σ.n, σ.nx, σ.env, os ++ σ.objs⟩ a w' S G' φ' → VR F.P w' F.K S G' v u → next (a.put o.dst u) w') : o.wp F.P a w next Q := by
  unfold stepW at h
  split at h
  · split at h
    · rename_i hq
      simp only [Option.some.injEq, Prod.mk.injEq] at h
      obtain ⟨rfl, rfl, rfl⟩ := h
      obtain ⟨u, he, hv⟩ := stepQ_sound hr ht hq hp hc
      unfold Oper.wp
      rw [he, Oper.upon_value]
      exact hnext u w G φ hr hv
    · simp at h
  · split at h
    · rename_i hf
      obtain ⟨u, w', G', φ', he, h1, hv⟩ := stepA_sound hr ht h hp hc hf
      unfold Oper.wp
      rw [he, Oper.upon_value]
      exact hnext u w' G' φ' h1 hv
    · simp at h
  · split at h
    · rename_i hs
      simp only [Option.some.injEq, Prod.mk.injEq] at h
      obtain ⟨rfl, rfl, rfl⟩ := h
      obtain ⟨w', G', φ', he, h1⟩ := stepS_sound hr ht hs hp hc
      unfold Oper.wp
      rw [he, Oper.upon_skip]
      exact hnext _ w' G' φ' h1 (.any _)
    · simp at h
  · split at h
    · rename_i c hop
      split at h
      · rename_i hcl
        simp only [Option.some.injEq, Prod.mk.injEq] at h
        obtain ⟨rfl, rfl, rfl⟩ := h
        obtain ⟨δ, rfl⟩ := stepC_ext hcl
        rw [delta_eq] at hnext
        exact stepC_sound hr ht hop hcl hp hc hnext
      · simp at h
    · simp at h

theorem gate_sound (hr : Rel0 F σ a w S G φ) {ops : List Oper} {g t : Nat} {want b : Bool} {og : Oper} (hg : nth ops g = some og) (ht : og.dst = some t) (h : gate Ls σ.env t want = some b) : (yielded ops.toArray a.tmps g == some want) = b := by
  have hy : yielded ops.toArray a.tmps g = match a.tmps.getD t undef with | .bool x => some x | _ => none := by
    unfold yielded
    rw [nth_eq] at hg
    simp only [List.getElem?_toArray, hg, ht, Option.bind_some]
    cases hx : a.tmps[t]? with
    | none => simp [Array.getD_eq_getD_getElem?, hx, undef]
    | some x => simp [Array.getD_eq_getD_getElem?, hx]; cases x <;> rfl
  have hv := hr.env t
  rw [hy]
  unfold gate at h
  split at h
  · rename_i x hx
    rw [hx] at hv
    generalize a.tmps.getD t undef = u at *
    cases hv with
    | t hc _ =>
      cases hc
      cases want <;> simp only [Option.some.injEq] at h <;> subst h <;> cases x <;> simp [Ls]
  · rename_i c x hx
    rw [hx] at hv
    generalize a.tmps.getD t undef = u at *
    cases hv with
    | cd0 _ => cases want <;> simp only [Option.some.injEq] at h <;> subst h <;> simp [Ls, undef]
    | cd1 hv _ =>
      cases hv with
      | t hc _ =>
        cases hc
        cases want <;> simp only [Option.some.injEq] at h <;> subst h <;> cases x <;> simp [Ls]
  · simp at h

/-- The step of an operation, as the region's walk asks. -/
theorem stepO_sound (hr : Rel0 F σ a w S G φ) (ht : TabOk F.P tab) {ops : List Oper} {o : Oper} {id : Nat} {sup : Option Sup} {ps : List Prop} {v : V} {os : List (Nat × O)} (h : stepO F.P Ls tab σ id ops o sup = some (ps, v, os)) (hp : AllP ps)
    {next : Act → World → Prop} {Q : Exit → Act → World → Prop} (hnext : ∀ a' w' G' φ', Rel0 F (σ.upd o.dst v os) a' w' S G' φ' → next a' w') :
    if Region.wanted o (yielded ops.toArray a.tmps) then o.wp F.P a w next Q else next (a.put o.dst undef) w := by
  unfold stepO at h
  split at h
  · rename_i hcb hdb
    split at h
    · rename_i hg
      rw [if_pos (by simp [Region.wanted, hg])]
      exact stepW_sound hr ht h hp (consts_ok hcb) fun u w' G' φ' h1 hv => hnext _ _ _ _ (upd_sound h1 hdb hv)
    · rename_i g want hg
      split at h
      · simp at h
      · rename_i og hog
        split at h
        · simp at h
        · rename_i t hdt
          split at h
          · simp at h
          · rename_i b hb
            split at h
            · rename_i ps' v' hw
              simp only [Option.some.injEq, Prod.mk.injEq] at h
              obtain ⟨rfl, rfl, rfl⟩ := h
              have hwant : Region.wanted o (yielded ops.toArray a.tmps) = b := by
                unfold Region.wanted
                rw [hg]
                exact gate_sound hr hog hdt hb
              rw [hwant]
              cases b with
              | true =>
                rw [if_pos rfl]
                have hp1 := (AllP_append _ _).1 (hp.1 rfl)
                exact stepW_sound hr ht hw hp1.2 (consts_ok hcb) fun u w' G' φ' h1 hv => hnext _ _ _ _ (upd_sound h1 hdb (.cd1 (VR.strip hv hp1.1) .nil))
              | false =>
                rw [if_neg (by simp)]
                exact hnext _ _ _ _ (upd_sound hr hdb (.cd0 .nil))
            · simp at h
  · simp at h

theorem runL_sound (ht : TabOk F.P tab) {ops : List Oper} {sups : List (Nat × Sup)} {Q : Exit → Act → World → Prop} : ∀ {l : List Oper} {i : Nat} {σ σ' : St} {a : Act} {w : World} {G : Gh} {φ : Nat → Nat → Prop} {ps : List Prop}, runL F.P Ls tab ops sups i l σ = .ok ps σ' → AllP ps → Rel0 F σ a w S G φ →
    (∀ a' w' G' φ', Rel0 F σ' a' w' S G' φ' → Q .normal a' w') → wpList F.P ops.toArray Q l a w
  | [], i, σ, σ', a, w, G, φ, ps, h, hp, hr, hq => by
    simp only [runL, RR.ok.injEq] at h
    obtain ⟨rfl, rfl⟩ := h
    exact hq _ _ _ _ hr
  | o :: r, i, σ, σ', a, w, G, φ, ps, h, hp, hr, hq => by
    simp only [runL] at h
    split at h
    · simp at h
    · rename_i ps1 v os hs
      split at h
      · rename_i ps2 σ2 hrec
        simp only [RR.ok.injEq] at h
        obtain ⟨rfl, rfl⟩ := h
        rw [AllP_append] at hp
        refine wpList_step fun K hK => ?_
        exact stepO_sound hr ht hs hp.1 fun a' w' G' φ' h1 => hK _ _ (runL_sound ht hrec hp.2 h1 hq)
      · simp at h

end Go.Proofs.Ytplgbjbpimbcbaa.L
