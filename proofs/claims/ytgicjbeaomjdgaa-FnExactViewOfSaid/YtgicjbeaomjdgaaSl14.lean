/- A region in the text's order. -/
import Derived.Test.YtgicjbeaomjdgaaSl13
namespace Go.Proofs.Ytgicjbeaomjdgaa.L
set_option linter.unusedVariables false
set_option linter.unusedSimpArgs false
open Go

variable {F : Fr} {σ : St} {a : Act} {w : World} {S : Nat → Prop} {G : Gh} {φ : Nat → Nat → Prop} {tab : List (Nat × Ty)}

/-- Whether a guarded operation is wanted. -/
def gate (L : Lf) (env : List (Nat × V)) (t : Nat) (want : Bool) : Option Bool :=
  match look .u env t with
  | .t (.s (.bool x)) => match want with
    | true => some x
    | false => some (L.bo x false true)
  | .cd c (.t (.s (.bool x))) => match want with
    | true => some (L.bo c x false)
    | false => some (L.bo c (L.bo x false true) false)
  | _ => none

def constsB (op : Op) : Bool := op.operands.toList.all fun x => match x with
  | .const v => v.oneCell'
  | _ => true

abbrev SR := Option (List Prop × V × List (Nat × O))

/-- Which kind of step: plain, making, storing, calling. -/
inductive Kd where
  | q | a | s | c

def kindOf : Op → Kd
  | .box _ _ => .a
  | .alloc _ => .a
  | .buildSlice _ _ _ => .a
  | .makeSlice _ _ _ => .a
  | .store _ _ _ => .s
  | .call c => match c.callee with
    | .builtin .append => .a
    | .value _ => .c
    | _ => .q
  | _ => .q

/-- An operation that is wanted. -/
def stepW (P : Program) (L : Lf) (tab : List (Nat × Ty)) (σ : St) (id : Nat) (op : Op) (sup : Option Sup) : SR :=
  match sup with
  | some (.hd ids v os) => stepH P σ op ids v os
  | sup => match kindOf op with
    | .q => match stepQ L tab σ op sup with
      | some (ps, v, _) => some (ps, v, [])
      | none => none
    | .a => match freshB σ.nx σ.objs id with
      | true => stepA L tab σ id op
      | false => none
    | .s => match stepS L tab σ op with
      | some (ps, os) => some (ps, .u, os)
      | none => none
    | .c => match op with
      | .call c => match stepC P L tab σ id c sup with
        | some (ps, v, objs) => some (ps, v, takeN (lenN objs - lenN σ.objs) objs)
        | none => none
      | _ => none

def dstB (n : Nat) : Option Nat → Bool
  | none => true
  | some d => nl (d + 1) n

/-- What a box holds where a call may have been made. -/
def condC (L : Lf) (b : Bool) : List V → List V → Option (List Prop × List V)
  | [], [] => some ([], [])
  | x :: r, y :: r' => match condC L b r r' with
    | none => none
    | some (ps, vs) => match x, y with
      | .t (.s (.int k x)), .t (.s (.int k' y)) => some ((k = k') :: ps, .t (.s (.int k (L.ci b x y))) :: vs)
      | .t (.s (.bool x)), .t (.s (.bool y)) => some (ps, .t (.s (.bool (L.bo b x y))) :: vs)
      | .t (.s (.string x)), .t (.s (.string y)) => some ((x = y) :: ps, .t (.s (.string y)) :: vs)
      | .t (.im true x), .t (.im true y) => some ((x = y) :: ps, .t (.im true y) :: vs)
      | _, _ => none
  | _, _ => none

def condO (L : Lf) (b : Bool) (objs : List (Nat × O)) : List (Nat × O) → Option (List Prop × List (Nat × O))
  | [] => some ([], [])
  | (id, o) :: r => match condO L b objs r, o, look .dead objs id with
    | some (ps, os), .box e cs, .box e' cs0 => match nq e e', condC L b cs cs0 with
      | true, some (qs, cs') => some (qs ++ ps, (id, .box e cs') :: os)
      | _, _ => none
    | _, _, _ => none

theorem condC_t : ∀ {cs cs0 : List V} {ps : List Prop} {cs' : List V}, condC Ls true cs cs0 = some (ps, cs') → AllP ps → cs' = cs
  | [], [], ps, cs', h, _ => by simp only [condC, Option.some.injEq, Prod.mk.injEq] at h; exact h.2.symm
  | [], _ :: _, _, _, h, _ => by simp [condC] at h
  | _ :: _, [], _, _, h, _ => by simp [condC] at h
  | x :: r, y :: r', ps, cs', h, hp => by
    simp only [condC] at h
    split at h
    · simp at h
    · rename_i ps1 vs1 h1
      split at h
      all_goals first | (simp at h; done) | (
        simp only [Option.some.injEq, Prod.mk.injEq] at h
        obtain ⟨rfl, rfl⟩ := h)
      · rw [condC_t h1 hp.2]; rfl
      · rw [condC_t h1 hp]; rfl
      · rw [condC_t h1 hp.2, hp.1]
      · rw [condC_t h1 hp.2, hp.1]
theorem condC_f : ∀ {cs cs0 : List V} {ps : List Prop} {cs' : List V}, condC Ls false cs cs0 = some (ps, cs') → AllP ps → cs' = cs0
  | [], [], ps, cs', h, _ => by simp only [condC, Option.some.injEq, Prod.mk.injEq] at h; exact h.2.symm
  | [], _ :: _, _, _, h, _ => by simp [condC] at h
  | _ :: _, [], _, _, h, _ => by simp [condC] at h
  | x :: r, y :: r', ps, cs', h, hp => by
    simp only [condC] at h
    split at h
    · simp at h
    · rename_i ps1 vs1 h1
      split at h
      all_goals first | (simp at h; done) | (
        simp only [Option.some.injEq, Prod.mk.injEq] at h
        obtain ⟨rfl, rfl⟩ := h)
      · rw [condC_f h1 hp.2, hp.1]; rfl
      · rw [condC_f h1 hp]; rfl
      · rw [condC_f h1 hp.2]
      · rw [condC_f h1 hp.2]
theorem condO_t {objs : List (Nat × O)} : ∀ {os : List (Nat × O)} {ps : List Prop} {os' : List (Nat × O)}, condO Ls true objs os = some (ps, os') → AllP ps → os' = os
  | [], ps, os', h, _ => by simp only [condO, Option.some.injEq, Prod.mk.injEq] at h; exact h.2.symm
  | (id, o) :: r, ps, os', h, hp => by
    simp only [condO] at h
    split at h
    · rename_i ps1 os1 e cs e' cs0 h1 _
      split at h
      · rename_i qs cs' _ h3
        simp only [Option.some.injEq, Prod.mk.injEq] at h
        obtain ⟨rfl, rfl⟩ := h
        have hp := (AllP_append _ _).1 hp
        rw [condO_t h1 hp.2, condC_t h3 hp.1]
      · simp at h
    · simp at h
theorem condO_f {objs : List (Nat × O)} : ∀ {os : List (Nat × O)} {ps : List Prop} {os' : List (Nat × O)}, condO Ls false objs os = some (ps, os') → AllP ps → ∀ i, look O.dead (os' ++ objs) i = look .dead objs i
  | [], ps, os', h, _, i => by simp only [condO, Option.some.injEq, Prod.mk.injEq] at h; rw [← h.2]; rfl
  | (id, o) :: r, ps, os', h, hp, i => by
    simp only [condO] at h
    split at h
    · rename_i ps1 os1 e cs e' cs0 h1 hlk
      split at h
      · rename_i qs cs' he h3
        simp only [Option.some.injEq, Prod.mk.injEq] at h
        obtain ⟨rfl, rfl⟩ := h
        have hp := (AllP_append _ _).1 hp
        rw [List.cons_append, look_cons]
        split
        · rename_i hi
          rw [hi, hlk, condC_f h3 hp.1, nq_eq he]
        · exact condO_f h1 hp.2 i
      · simp at h
    · simp at h

/-- Told otherwise, the same. -/
theorem Rel0.same {τ : St} (h : Rel0 F σ a w S G φ) (hn : τ.n = σ.n) (hx : τ.nx = σ.nx) (he : τ.env = σ.env) (hl : ∀ i, look O.dead τ.objs i = look .dead σ.objs i) (hk : ∀ i, hasKey σ.objs i = true → hasKey τ.objs i = true) : Rel0 F τ a w S G φ := by
  refine ⟨fun i hi => ?_, fun i v x hx' => ?_, h.n.trans hn.symm, h.KS, h.Slt, fun t => by rw [he]; exact h.env t, fun i => by rw [hl]; exact h.obj i, h.dj, h.own, h.kept, h.defs, h.anc⟩
  · rw [hx]; exact (h.nx i hi).imp id (hk i)
  · refine ⟨(h.kd i v x hx').1, fun ver e sz rows hr => ?_⟩
    rw [hl] at hr
    exact (h.kd i v x hx').2 _ _ _ _ hr

/-- An operation that is wanted just if b; on, off: b is known. -/
def stepGd (P : Program) (L : Lf) (tab : List (Nat × Ty)) (σ : St) (id : Nat) (o : Oper) (b : Bool) (sup : Option Sup) : SR :=
  match sup with
  | some (.off v) => some ([b = false], .cd b v, [])
  | some .on0 => match stepW P L tab σ id o.op none with
    | some (ps, v, os) => match strip v with
      | (qs, v') => some ((b = true) :: (qs ++ ps), .cd b v', os)
    | none => none
  | some (.on1 s) => match stepW P L tab σ id o.op (some s) with
    | some (ps, v, os) => match strip v with
      | (qs, v') => some ((b = true) :: (qs ++ ps), .cd b v', os)
    | none => none
  | sup => match stepW P L tab σ id o.op sup with
    | some (ps, v, os) => match condO L b σ.objs os with
      | some (ps2, os2) => match strip v with
        | (qs, v') => some ((b = true → AllP (qs ++ ps)) :: ps2, .cd b v', os2)
      | none => none
    | none => none

def stepO (P : Program) (L : Lf) (tab : List (Nat × Ty)) (σ : St) (id : Nat) (ops : List Oper) (o : Oper) (sup : Option Sup) : SR :=
  match constsB o.op, dstB σ.n o.dst with
  | true, true => match o.guard with
    | none => stepW P L tab σ id o.op sup
    | some (g, want) => match nth ops g with
      | none => none
      | some og => match og.dst with
        | none => none
        | some t => match gate L σ.env t want with
          | none => none
          | some b => stepGd P L tab σ id o b sup
  | _, _ => none

def St.upd (σ : St) (d : Option Nat) (v : V) (os : List (Nat × O)) : St :=
  ⟨σ.n, σ.nx, (match d with | some d => (d, v) :: σ.env | none => σ.env), os ++ σ.objs⟩

def supOf : List (Nat × Sup) → Nat → Option Sup
  | [], _ => none
  | (k, s) :: r, n => bif nq n k then some s else supOf r n

inductive RR where
  | ok (ps : List Prop) (σ : St)
  | bad (i : Nat)

/-- A row's cells, the holes among them by their links. -/
def linkCells (env : List (Nat × V)) (id ver : Nat) (i : Int) : Nat → List T → List (Nat × Nat) → Option (List Prop × List V)
  | _, [], _ => some ([], [])
  | j, c :: cs, ls => match linkCells env id ver i (j + 1) cs ls with
    | none => none
    | some (ps, vs) => match c with
      | .s v => some (ps, .t (.s v) :: vs)
      | .im k r => some (ps, .t (.im k r) :: vs)
      | .jk => match look .u env (look 0 ls j) with
        | .hl id' ver' i' j' nid => match nq id id', nq ver ver', nq j j' with
          | true, true, true => some ((i = i') :: ps, .rf nid :: vs)
          | _, _, _ => none
        | _ => none
      | _ => none

/-- A load of a row that has holes. -/
def stepK (L : Lf) (tab : List (Nat × Ty)) (σ : St) (o : Oper) (es : List T) (ls : List (Nat × Nat)) : SR :=
  match constsB o.op, dstB σ.n o.dst, o.guard with
  | true, true, none => match o.op with
    | .load t x => match getTy tab t, strip (ev σ.env x) with
      | some ty, (px, .pt id i j) => match look .dead σ.objs id with
        | .row ver _ sz rows => match nl (j + ty.size) sz, linkCells σ.env id ver i j (takeN ty.size (dropN j es)) ls with
          | true, some (qs, cs) => match fit ty cs with
            | some v => some (px ++ qs ++ [L.le 0 i, L.lt i (L.ln rows), L.ge rows i = es], v, [])
            | none => none
          | _, _ => none
        | _ => none
      | _, _ => none
    | _ => none
  | _, _, _ => none

def stepR (P : Program) (L : Lf) (tab : List (Nat × Ty)) (σ : St) (id : Nat) (ops : List Oper) (o : Oper) (sup : Option Sup) : SR :=
  match sup with
  | some (.lk es ls) => stepK L tab σ o es ls
  | sup => stepO P L tab σ id ops o sup

/-- The operations from i on, in the text's order. -/
def runL (P : Program) (L : Lf) (tab : List (Nat × Ty)) (ops : List Oper) (sups : List (Nat × Sup)) : Nat → List Oper → St → RR
  | _, [], σ => .ok [] σ
  | i, o :: r, σ => match stepR P L tab σ (σ.nx + i) ops o (supOf sups i) with
    | none => .bad i
    | some (ps, v, os) => match runL P L tab ops sups (i + 1) r (σ.upd o.dst v os) with
      | .ok ps' σ' => .ok (ps ++ ps') σ'
      | .bad j => .bad j

def St.bump (σ : St) : St := ⟨σ.n, σ.nx + 4096, σ.env, σ.objs⟩

theorem consts_ok {op : Op} (h : constsB op = true) : ConstsOk op := by
  intro x hx v hv
  subst hv
  have := List.all_eq_true.1 h _ (Array.mem_toList_iff.2 hx)
  exact this

theorem back_ext : ∀ {ds : List (Option Nat)} {ts : List T} {objs objs' : List (Nat × O)}, back objs ds ts = some objs' → ∃ δ, objs' = δ ++ objs
  | [], ts, objs, objs', h => by simp only [back, Option.some.injEq] at h; exact ⟨[], by simp [h]⟩
  | none :: ds, [], objs, objs', h => by simp [back] at h
  | some _ :: ds, [], objs, objs', h => by simp [back] at h
  | none :: ds, t :: ts, objs, objs', h => back_ext (by simpa only [back] using h)
  | some id :: ds, t :: ts, objs, objs', h => by
    simp only [back] at h
    split at h
    · split at h
      · obtain ⟨δ, rfl⟩ := back_ext h
        exact ⟨δ ++ [_], by simp; rfl⟩
      · simp at h
    · obtain ⟨δ, rfl⟩ := back_ext h
      exact ⟨δ ++ [_], by simp; rfl⟩
    · split at h
      · obtain ⟨δ, rfl⟩ := back_ext h
        exact ⟨δ ++ [_], by simp; rfl⟩
      · simp at h
    · simp at h

theorem openCells_ext {nx : Nat} : ∀ {cs : List T} {objs objs' : List (Nat × O)} {id id' : Nat} {vs : List V}, openCells tab nx objs id cs = some (vs, objs', id') → ∃ δ, objs' = δ ++ objs
  | [], objs, objs', id, id', vs, h => by simp only [openCells, Option.some.injEq, Prod.mk.injEq] at h; exact ⟨[], by simp [h.2.1]⟩
  | c :: cs, objs, objs', id, id', vs, h => by
    simp only [openCells] at h
    split at h
    · split at h
      · rename_i hrec
        simp only [Option.some.injEq, Prod.mk.injEq] at h
        obtain ⟨δ, hδ⟩ := openCells_ext hrec
        exact ⟨δ, by rw [← h.2.1]; exact hδ⟩
      · simp at h
    · split at h
      · rename_i hrec
        simp only [Option.some.injEq, Prod.mk.injEq] at h
        obtain ⟨δ, hδ⟩ := openCells_ext hrec
        exact ⟨δ, by rw [← h.2.1]; exact hδ⟩
      · simp at h
    · split at h
      · rename_i hrec
        simp only [Option.some.injEq, Prod.mk.injEq] at h
        obtain ⟨δ, hδ⟩ := openCells_ext hrec
        exact ⟨δ, by rw [← h.2.1]; exact hδ⟩
      · simp at h
    · split at h
      · split at h
        · rename_i hrec
          simp only [Option.some.injEq, Prod.mk.injEq] at h
          obtain ⟨δ, hδ⟩ := openCells_ext hrec
          exact ⟨δ ++ [_], by rw [← h.2.1, hδ]; simp; rfl⟩
        · simp at h
      · simp at h
    · split at h
      · split at h
        · rename_i hrec
          simp only [Option.some.injEq, Prod.mk.injEq] at h
          obtain ⟨δ, hδ⟩ := openCells_ext hrec
          exact ⟨δ ++ [_], by rw [← h.2.1, hδ]; simp; rfl⟩
        · simp at h
      · simp at h
    · simp at h

theorem openRes_ext {nx : Nat} : ∀ {res : List A} {objs objs' : List (Nat × O)} {id : Nat} {vs : List V}, openRes tab nx objs id res = some (vs, objs') → ∃ δ, objs' = δ ++ objs
  | [], objs, objs', id, vs, h => by simp only [openRes, Option.some.injEq, Prod.mk.injEq] at h; exact ⟨[], by simp [h.2]⟩
  | .v x :: r, objs, objs', id, vs, h => by
    simp only [openRes] at h
    split at h
    · rename_i hc
      split at h
      · rename_i hrec
        simp only [Option.some.injEq, Prod.mk.injEq] at h
        obtain ⟨δ, hδ⟩ := openRes_ext hrec
        obtain ⟨δ', hδ'⟩ := openCells_ext hc
        exact ⟨δ ++ δ', by rw [← h.2, hδ, hδ']; simp⟩
      · simp at h
    · simp at h
  | .ag xs :: r, objs, objs', id, vs, h => by
    simp only [openRes] at h
    split at h
    · rename_i hc
      split at h
      · rename_i hrec
        simp only [Option.some.injEq, Prod.mk.injEq] at h
        obtain ⟨δ, hδ⟩ := openRes_ext hrec
        obtain ⟨δ', hδ'⟩ := openCells_ext hc
        exact ⟨δ ++ δ', by rw [← h.2, hδ, hδ']; simp⟩
      · simp at h
    · simp at h

theorem stepC_ext {P : Program} {L : Lf} {id : Nat} {c : Call} {sup : Option Sup} {ps : List Prop} {v : V} {objs : List (Nat × O)} (h : stepC P L tab σ id c sup = some (ps, v, objs)) : ∃ δ, objs = δ ++ σ.objs := by
  unfold stepC at h
  split at h
  · split at h
    · split at h
      · split at h
        · split at h
          · rename_i hb
            split at h
            · rename_i hres
              obtain ⟨δ, hδ⟩ := back_ext hb
              obtain ⟨δ', hδ'⟩ := openRes_ext hres
              split at h <;> simp only [Option.some.injEq, Prod.mk.injEq] at h <;> exact ⟨δ' ++ δ, by rw [← h.2.2, hδ', hδ]; simp⟩
            · simp at h
          · simp at h
        · simp at h
      · simp at h
    · simp at h
  · simp at h

theorem delta_eq {α : Type} (δ l : List α) : takeN (lenN (δ ++ l) - lenN l) (δ ++ l) = δ := by
  rw [lenN_eq, lenN_eq, takeN_eq]
  simp

theorem put_none (a : Act) (u : Value) : a.put none u = a := rfl

theorem upd_sound {os : List (Nat × O)} (h : Rel0 F ⟨σ.n, σ.nx, σ.env, os ++ σ.objs⟩ a w S G φ) {d : Option Nat} {v : V} {u : Value} (hd : dstB σ.n d = true) (hv : VR F.P w F.K S G v u) : Rel0 F (σ.upd d v os) (a.put d u) w S G φ := by
  cases d with
  | none => exact h
  | some d =>
    have := h.set (d := d) (nl_le (by simpa only [dstB] using hd)) hv
    simpa [St.put, St.upd] using this

theorem memB_iff {d : Nat} : ∀ {l : List Nat}, nodupB.memB d l = true → d ∈ l
  | [], h => by simp [nodupB.memB] at h
  | x :: r, h => by
    simp only [nodupB.memB] at h
    cases hb : nq d x with
    | true => rw [nq_eq hb]; simp
    | false => rw [hb] at h; exact List.mem_cons_of_mem _ (memB_iff h)

theorem handObs_ok {objs : List (Nat × O)} : ∀ {ids : List Nat} {obs : List (Nat × O)}, handObs objs ids = some obs → (∀ p ∈ obs, look .dead objs p.1 = p.2) ∧ ∀ i ∈ ids, ∃ q ∈ obs, q.1 = i
  | [], obs, h => by simp only [handObs, Option.some.injEq] at h; subst h; simp
  | i :: r, obs, h => by
    simp only [handObs] at h
    split at h
    · simp at h
    · rename_i q hq
      obtain ⟨h1, h2⟩ := handObs_ok hq
      split at h
      · simp at h
      · simp only [Option.some.injEq] at h
        subst h
        refine ⟨fun p hp => ?_, fun j hj => ?_⟩
        · rcases List.mem_cons.1 hp with rfl | hp
          · rfl
          · exact h1 p hp
        · rcases List.mem_cons.1 hj with rfl | hj
          · exact ⟨_, List.mem_cons_self, rfl⟩
          · obtain ⟨q', hq', e⟩ := h2 j hj
            exact ⟨q', List.mem_cons_of_mem _ hq', e⟩

theorem keysB_ok {nx : Nat} {objs : List (Nat × O)} {ids : List Nat} : ∀ {os : List (Nat × O)}, keysB nx objs ids os = true → ∀ p ∈ os, p.1 ∈ ids ∨ freshB nx objs p.1 = true
  | [], _, p, hp => by simp at hp
  | (k, o) :: r, h, p, hp => by
    simp only [keysB] at h
    split at h
    · rename_i hm
      rcases List.mem_cons.1 hp with rfl | hp
      · exact .inl (memB_iff hm)
      · exact keysB_ok h p hp
    · split at h
      · rename_i hf
        rcases List.mem_cons.1 hp with rfl | hp
        · exact .inr hf
        · exact keysB_ok h p hp
      · simp at h

theorem stepH_sound (hr : Rel0 F σ a w S G φ) {op : Op} {ids : List Nat} {v v' : V} {os os' : List (Nat × O)} {ps : List Prop} (h : stepH F.P σ op ids v os = some (ps, v', os')) (hp : AllP ps) (hc : ConstsOk op) :
    ∃ u w' G' φ', (∀ o : Oper, o.op = op → (execOp a.eval o).run F.P w = .ok (.value u) w') ∧ Rel0 F ⟨σ.n, σ.nx, σ.env, os' ++ σ.objs⟩ a w' S G' φ' ∧ VR F.P w' F.K S G' v' u := by
  unfold stepH at h
  split at h
  · rename_i obs qs vals ho hk he
    simp only [Option.some.injEq, Prod.mk.injEq] at h
    obtain ⟨rfl, rfl, rfl⟩ := h
    rw [AllP_append] at hp
    obtain ⟨hp1, hp2, _⟩ := hp
    have hv := evs_sound hr op.operands.toList (fun x hx => hc x (Array.mem_toList_iff.1 hx)) (by rw [he]; exact hp1)
    rw [he] at hv
    obtain ⟨h1, h2⟩ := handObs_ok ho
    exact hp2 F σ a w S G φ rfl hr hv h1 (fun p hp => (keysB_ok hk p hp).imp (fun h => h2 _ h) id)
  · simp at h

theorem stepW_sound (hr : Rel0 F σ a w S G φ) (ht : TabOk F.P tab) {o : Oper} {id : Nat} {sup : Option Sup} {ps : List Prop} {v : V} {os : List (Nat × O)} (h : stepW F.P Ls tab σ id o.op sup = some (ps, v, os)) (hp : AllP ps) (hc : ConstsOk o.op)
    {next : Act → World → Prop} {Q : Exit → Act → World → Prop} (hnext : ∀ K S' u w' G' φ', KLe F K → Rel0 (F.up K) ⟨σ.n, σ.nx, σ.env, os ++ σ.objs⟩ a w' S' G' φ' → VR F.P w' K S' G' v u → next (a.put o.dst u) w') : o.wp F.P a w next Q := by
  unfold stepW at h
  split at h
  · obtain ⟨u, w', G', φ', he, h1, hv⟩ := stepH_sound hr h hp hc
    unfold Oper.wp
    rw [he o rfl, Oper.upon_value]
    exact hnext F.K S u w' G' φ' (KLe.refl F) h1 hv
  split at h
  · split at h
    · rename_i hq
      simp only [Option.some.injEq, Prod.mk.injEq] at h
      obtain ⟨rfl, rfl, rfl⟩ := h
      obtain ⟨u, he, hv⟩ := stepQ_sound hr ht hq hp hc
      unfold Oper.wp
      rw [he, Oper.upon_value]
      exact hnext F.K S u w G φ (KLe.refl F) hr hv
    · simp at h
  · split at h
    · rename_i hf
      obtain ⟨u, w', G', φ', he, h1, hv⟩ := stepA_sound hr ht h hp hc hf
      unfold Oper.wp
      rw [he, Oper.upon_value]
      exact hnext F.K S u w' G' φ' (KLe.refl F) h1 hv
    · simp at h
  · split at h
    · rename_i hs
      simp only [Option.some.injEq, Prod.mk.injEq] at h
      obtain ⟨rfl, rfl, rfl⟩ := h
      obtain ⟨w', G', φ', he, h1⟩ := stepS_sound hr ht hs hp hc
      unfold Oper.wp
      rw [he, Oper.upon_skip]
      exact hnext F.K S _ w' G' φ' (KLe.refl F) h1 (.any _)
    · simp at h
  · split at h
    · rename_i c hop
      split at h
      · rename_i hcl
        simp only [Option.some.injEq, Prod.mk.injEq] at h
        obtain ⟨rfl, rfl, rfl⟩ := h
        obtain ⟨δ, rfl⟩ := stepC_ext hcl
        rw [delta_eq] at hnext
        exact stepC_sound hr ht hop hcl hp hc hnext
      · simp at h
    · simp at h

theorem gate_sound (hr : Rel0 F σ a w S G φ) {ops : List Oper} {g t : Nat} {want b : Bool} {og : Oper} (hg : nth ops g = some og) (ht : og.dst = some t) (h : gate Ls σ.env t want = some b) : (yielded ops.toArray a.tmps g == some want) = b := by
  have hy : yielded ops.toArray a.tmps g = match a.tmps.getD t undef with | .bool x => some x | _ => none := by
    unfold yielded
    rw [nth_eq] at hg
    simp only [List.getElem?_toArray, hg, ht, Option.bind_some]
    cases hx : a.tmps[t]? with
    | none => simp [Array.getD_eq_getD_getElem?, hx, undef]
    | some x => simp [Array.getD_eq_getD_getElem?, hx]; cases x <;> rfl
  have hv := hr.env t
  rw [hy]
  unfold gate at h
  split at h
  · rename_i x hx
    rw [hx] at hv
    generalize a.tmps.getD t undef = u at *
    cases hv with
    | t hc _ =>
      cases hc
      cases want <;> simp only [Option.some.injEq] at h <;> subst h <;> cases x <;> simp [Ls]
  · rename_i c x hx
    rw [hx] at hv
    generalize a.tmps.getD t undef = u at *
    cases hv with
    | cd0 _ => cases want <;> simp only [Option.some.injEq] at h <;> subst h <;> simp [Ls, undef]
    | cd1 hv _ =>
      cases hv with
      | t hc _ =>
        cases hc
        cases want <;> simp only [Option.some.injEq] at h <;> subst h <;> cases x <;> simp [Ls]
  · simp at h

theorem stepGd_sound (hr : Rel0 F σ a w S G φ) (ht : TabOk F.P tab) {o : Oper} {id : Nat} {b : Bool} {sup : Option Sup} {ps : List Prop} {v : V} {os : List (Nat × O)} (h : stepGd F.P Ls tab σ id o b sup = some (ps, v, os)) (hp : AllP ps) (hcb : constsB o.op = true) (hdb : dstB σ.n o.dst = true)
    {next : Act → World → Prop} {Q : Exit → Act → World → Prop} (hnext : ∀ K S' a' w' G' φ', KLe F K → Rel0 (F.up K) (σ.upd o.dst v os) a' w' S' G' φ' → next a' w') :
    if b = true then o.wp F.P a w next Q else next (a.put o.dst undef) w := by
  have on : ∀ {s : Option Sup}, (match stepW F.P Ls tab σ id o.op s with
      | some (ps, v, os) => match strip v with
        | (qs, v') => some ((b = true) :: (qs ++ ps), V.cd b v', os)
      | none => none) = some (ps, v, os) → if b = true then o.wp F.P a w next Q else next (a.put o.dst undef) w := by
    intro s h
    split at h
    · rename_i ps' v' os' hw
      simp only [Option.some.injEq, Prod.mk.injEq] at h
      obtain ⟨rfl, rfl, rfl⟩ := h
      obtain ⟨hb, hp⟩ := hp
      have hp := (AllP_append _ _).1 hp
      subst hb
      rw [if_pos rfl]
      exact stepW_sound hr ht hw hp.2 (consts_ok hcb) fun K S' u w' G' φ' hk h1 hv => hnext K S' _ _ _ _ hk (upd_sound (F := F.up K) h1 hdb (.cd1 (VR.strip hv hp.1) .nil))
    · simp at h
  unfold stepGd at h
  split at h
  · simp only [Option.some.injEq, Prod.mk.injEq] at h
    obtain ⟨rfl, rfl, rfl⟩ := h
    obtain ⟨hb, _⟩ := hp
    subst hb
    rw [if_neg (by simp)]
    exact hnext F.K S _ _ _ _ (KLe.refl F) (upd_sound (os := []) hr hdb (.cd0 .nil))
  · exact on h
  · exact on h
  · split at h
    · rename_i ps' v' os' hw
      split at h
      · rename_i ps2 os2 hco
        simp only [Option.some.injEq, Prod.mk.injEq] at h
        obtain ⟨rfl, rfl, rfl⟩ := h
        cases b with
        | true =>
          rw [if_pos rfl]
          have hp1 := (AllP_append _ _).1 (hp.1 rfl)
          obtain rfl := condO_t hco hp.2
          exact stepW_sound hr ht hw hp1.2 (consts_ok hcb) fun K S' u w' G' φ' hk h1 hv => hnext K S' _ _ _ _ hk (upd_sound (F := F.up K) h1 hdb (.cd1 (VR.strip hv hp1.1) .nil))
        | false =>
          rw [if_neg (by simp)]
          have hl := condO_f hco hp.2
          refine hnext F.K S _ _ _ _ (KLe.refl F) (upd_sound (hr.same (τ := ⟨σ.n, σ.nx, σ.env, os2 ++ σ.objs⟩) rfl rfl rfl hl (fun i hi => (hasKey_append _ _ _).2 (.inr hi))) hdb (.cd0 .nil))
      · simp at h
    · simp at h

/-- The step of an operation, as the region's walk asks. -/
theorem stepO_sound (hr : Rel0 F σ a w S G φ) (ht : TabOk F.P tab) {ops : List Oper} {o : Oper} {id : Nat} {sup : Option Sup} {ps : List Prop} {v : V} {os : List (Nat × O)} (h : stepO F.P Ls tab σ id ops o sup = some (ps, v, os)) (hp : AllP ps)
    {next : Act → World → Prop} {Q : Exit → Act → World → Prop} (hnext : ∀ K S' a' w' G' φ', KLe F K → Rel0 (F.up K) (σ.upd o.dst v os) a' w' S' G' φ' → next a' w') :
    if Region.wanted o (yielded ops.toArray a.tmps) then o.wp F.P a w next Q else next (a.put o.dst undef) w := by
  unfold stepO at h
  split at h
  · rename_i hcb hdb
    split at h
    · rename_i hg
      rw [if_pos (by simp [Region.wanted, hg])]
      exact stepW_sound hr ht h hp (consts_ok hcb) fun K S' u w' G' φ' hk h1 hv => hnext K S' _ _ _ _ hk (upd_sound (F := F.up K) h1 hdb hv)
    · rename_i g want hg
      split at h
      · simp at h
      · rename_i og hog
        split at h
        · simp at h
        · rename_i t hdt
          split at h
          · simp at h
          · rename_i b hb
            have hwant : Region.wanted o (yielded ops.toArray a.tmps) = b := by
              unfold Region.wanted
              rw [hg]
              exact gate_sound hr hog hdt hb
            rw [hwant]
            exact stepGd_sound hr ht h hp hcb hdb hnext
  · simp at h

theorem linkCells_sound {P : Program} {K : Nat → Prop} (hKS : Sub K S) {env : List (Nat × V)} {tm : Nat → Value} (hr : ∀ t, VR P w K S G (look .u env t) (tm t)) {id ver : Nat} {i : Int} {rows0 : Rws} {us0 : List Value} (hk : G.κ id ver = some (rows0, us0)) {ψ : Nat → Prop} :
    ∀ (l : List T) (j : Nat) (ls : List (Nat × Nat)) (us : List Value) (ps : List Prop) (cs : List V), linkCells env id ver i j l ls = some (ps, cs) → AllP ps → (∀ k u, us[k]? = some u → us0[i.toNat * G.sz id + (j + k)]? = some u) →
      CR P w K K l us ψ → VRs P w K S G cs us
  | [], j, ls, us, ps, cs, h, _, _, hc => by
    simp only [linkCells, Option.some.injEq, Prod.mk.injEq] at h
    obtain ⟨rfl, rfl⟩ := h
    cases hc
    exact .nil
  | c :: l, j, ls, us, ps, cs, h, hp, h2, hc => by
    simp only [linkCells] at h
    obtain ⟨u1, u2, φ1, φ2, rfl, ha, hb, _, _, _⟩ := CR.split (a := [c]) hc
    obtain ⟨u, rfl⟩ : ∃ u, u1 = [u] := by
      have := ha.len
      match u1, this with
      | [u], _ => exact ⟨u, rfl⟩
    cases hrec : linkCells env id ver i (j + 1) l ls with
    | none => simp [hrec] at h
    | some q =>
      obtain ⟨qs, vs⟩ := q
      have ih := linkCells_sound (ψ := φ2) hKS hr hk l (j + 1) ls u2 qs vs hrec
      have h2' : ∀ k u, u2[k]? = some u → us0[i.toNat * G.sz id + (j + 1 + k)]? = some u := fun k u hk => by have := h2 (k + 1) u (by simpa using hk); rwa [Nat.add_assoc, Nat.add_comm 1 k]
      rw [hrec] at h
      simp only at h
      cases c with
      | s v =>
        simp only [Option.some.injEq, Prod.mk.injEq] at h
        obtain ⟨rfl, rfl⟩ := h
        cases ha with
        | s hv _ => exact .t (.s hv .nil) (ih hp h2' hb)
      | im k r =>
        simp only [Option.some.injEq, Prod.mk.injEq] at h
        obtain ⟨rfl, rfl⟩ := h
        refine .t ?_ (ih hp h2' hb)
        cases ha with
        | im0 hn hcc sz hs vs hA hr0 _ => exact .im0 hn hcc sz hs vs (fun hp => let ⟨b, o, e, hb, hx⟩ := hA hp; ⟨b, o, e, hKS b hb, hx⟩) (hr0.more hKS) .nil
        | im1 hn hcc sz hs vs hA hr0 _ => exact .im1 hn hcc sz hs vs hA hr0 .nil
      | jk =>
        simp only at h
        split at h
        · rename_i id' ver' i' j' nid hlk
          split at h
          · rename_i e1 e2 e3
            obtain rfl := nq_eq e1
            obtain rfl := nq_eq e2
            obtain rfl := nq_eq e3
            simp only [Option.some.injEq, Prod.mk.injEq] at h
            obtain ⟨rfl, rfl⟩ := h
            obtain ⟨rfl, hp⟩ := hp
            have hv := hr (look 0 ls j)
            rw [hlk] at hv
            generalize tm (look 0 ls j) = z at hv
            cases hv with
            | hl hid hd2 hi r0 u0 hk' hu _ =>
              rw [hk] at hk'
              simp only [Option.some.injEq, Prod.mk.injEq] at hk'
              obtain ⟨rfl, rfl⟩ := hk'
              have h3 := h2 0 u rfl
              rw [Nat.add_zero, hu] at h3
              have h4 : u = G.β nid := (Option.some.inj h3).symm
              exact .rf hd2 h4 (ha.one u (by simp)) (ih hp h2' hb)
          · simp at h
        · simp at h
      | _ => simp at h

theorem load_link (h : Rel0 F σ a w S G φ) {t : Nat} {ty : Ty} (ht : TyOk F.P t ty) {id ver e sz j : Nat} {i : Int} {rows : Rws} {es : List T} {qs : List Prop} {cs : List V} {ls : List (Nat × Nat)} (ho : look .dead σ.objs id = .row ver e sz rows) {u : Value} {v : V} (hv : VR F.P w F.K S G (.pt id i j) u)
    (hle' : j + ty.size ≤ sz) (h0 : 0 ≤ i) (h1 : i < Ls.ln rows) (he : Ls.ge rows i = es) (hcs : linkCells σ.env id ver i j ((es.drop j).take ty.size) ls = some (qs, cs)) (hpq : AllP qs) (hf : fit ty cs = some v) :
    ∃ x, (Instr.loadAt t u).run F.P w = .ok x w ∧ VR F.P w F.K S G v x := by
  obtain ⟨hid, hsz, hGs, us, hk, hrs, hown, ψ, _, _, hcr⟩ := h.row ho
  have hlt : i.toNat < rows.length := by simp only [Ls] at h1; omega
  have hfl := flatten_len rows hrs
  have hul : us.length = rows.length * sz := hcr.len.trans hfl
  have hbd : i.toNat * sz + sz ≤ rows.length * sz := by rw [← Nat.succ_mul]; exact Nat.mul_le_mul_right _ hlt
  have hcr' : CR F.P w F.K F.K ((es.drop j).take ty.size) ((us.drop (i.toNat * sz + j)).take ty.size) ψ := by
    have h2 := (hcr.drop (i.toNat * sz + j)).take ty.size
    have : (rows.flatten.drop (i.toNat * sz + j)).take ty.size = (es.drop j).take ty.size := by
      rw [← ge_eq he, ← flatten_at rows i.toNat hrs hlt, List.drop_take, List.drop_drop, List.take_take]
      congr 1
      omega
    rwa [this] at h2
  have hvs := linkCells_sound (ψ := ψ) h.KS (fun t => h.env t) hk _ j ls _ qs cs hcs hpq (fun k u hu => by
    rw [List.getElem?_take] at hu
    split at hu
    · rw [List.getElem?_drop] at hu
      rw [hGs, ← Nat.add_assoc]
      exact hu
    · cases hu) hcr'
  cases hv with
  | pt hid' hi' hg _ =>
    rename_i g _
    refine ⟨one ty ((us.drop (i.toNat * sz + j)).take ty.size), ?_, fit_sound hf hvs⟩
    simp only [Instr.loadAt, Instr.sureAddr, Sem.run_bind, Sem.run_pure, Result.andThen_ok]
    refine run_loadVar ht (by rw [List.length_take, List.length_drop, hul]; omega) (fun k x hx => ?_)
    rw [List.getElem?_take] at hx
    split at hx
    · rw [List.getElem?_drop] at hx
      rw [hGs]
      exact own_cell hown hg hx
    · cases hx

theorem stepK_sound (hr : Rel0 F σ a w S G φ) (ht : TabOk F.P tab) {ops : List Oper} {o : Oper} {es : List T} {ls : List (Nat × Nat)} {ps : List Prop} {v : V} {os : List (Nat × O)} (h : stepK Ls tab σ o es ls = some (ps, v, os)) (hp : AllP ps)
    {next : Act → World → Prop} {Q : Exit → Act → World → Prop} (hnext : ∀ K S' a' w' G' φ', KLe F K → Rel0 (F.up K) (σ.upd o.dst v os) a' w' S' G' φ' → next a' w') :
    if Region.wanted o (yielded ops.toArray a.tmps) then o.wp F.P a w next Q else next (a.put o.dst undef) w := by
  unfold stepK at h
  split at h
  · rename_i hcb hdb hg
    split at h
    · rename_i t x hop
      split at h
      · rename_i ty px id i j hty hxs
        split at h
        · rename_i ver e sz rows ho
          split at h
          · rename_i qs cs hle hcs
            split at h
            · rename_i v' hf
              simp only [Option.some.injEq, Prod.mk.injEq] at h
              obtain ⟨rfl, rfl, rfl⟩ := h
              rw [AllP_append, AllP_append] at hp
              obtain ⟨⟨hpx, hpq⟩, h0, h1, he, _⟩ := hp
              rw [if_pos (by simp [Region.wanted, hg])]
              have hcon := consts_ok hcb
              have hx : ∀ v, x = .const v → v.oneCell' = true := by rw [hop] at hcon; exact fun v hv => hcon x (by simp [Op.operands]) v hv
              rw [takeN_eq, dropN_eq] at hcs
              obtain ⟨u, hu, hvu⟩ := load_link hr (ht _ _ hty) ho (got hr hx hxs hpx) (ble_true hle) h0 h1 he hcs hpq hf
              obtain ⟨dst, op, type, pos, after, guard⟩ := o
              simp only at hop
              subst hop
              unfold Oper.wp
              rw [show (execOp a.eval ⟨dst, .load t x, type, pos, after, guard⟩).run F.P w = .ok (.value u) w from by simp [execOp, hu], Oper.upon_value]
              exact hnext F.K S _ w G φ (KLe.refl F) (by simpa using upd_sound (os := []) hr hdb hvu)
            · simp at h
          · simp at h
        · simp at h
      · simp at h
    · simp at h
  · simp at h

theorem stepR_sound (hr : Rel0 F σ a w S G φ) (ht : TabOk F.P tab) {ops : List Oper} {o : Oper} {id : Nat} {sup : Option Sup} {ps : List Prop} {v : V} {os : List (Nat × O)} (h : stepR F.P Ls tab σ id ops o sup = some (ps, v, os)) (hp : AllP ps)
    {next : Act → World → Prop} {Q : Exit → Act → World → Prop} (hnext : ∀ K S' a' w' G' φ', KLe F K → Rel0 (F.up K) (σ.upd o.dst v os) a' w' S' G' φ' → next a' w') :
    if Region.wanted o (yielded ops.toArray a.tmps) then o.wp F.P a w next Q else next (a.put o.dst undef) w := by
  unfold stepR at h
  split at h
  · exact stepK_sound hr ht h hp hnext
  · exact stepO_sound hr ht h hp hnext

theorem runL_sound {ops : List Oper} {sups : List (Nat × Sup)} {Q : Exit → Act → World → Prop} : ∀ {l : List Oper} {i : Nat} {F : Fr} {S : Nat → Prop} {σ σ' : St} {a : Act} {w : World} {G : Gh} {φ : Nat → Nat → Prop} {ps : List Prop}, TabOk F.P tab → runL F.P Ls tab ops sups i l σ = .ok ps σ' → AllP ps → Rel0 F σ a w S G φ →
    (∀ K S' a' w' G' φ', KLe F K → Rel0 (F.up K) σ' a' w' S' G' φ' → Q .normal a' w') → wpList F.P ops.toArray Q l a w
  | [], i, F, S, σ, σ', a, w, G, φ, ps, ht, h, hp, hr, hq => by
    simp only [runL, RR.ok.injEq] at h
    obtain ⟨rfl, rfl⟩ := h
    exact hq F.K S _ _ _ _ (KLe.refl F) hr
  | o :: r, i, F, S, σ, σ', a, w, G, φ, ps, ht, h, hp, hr, hq => by
    simp only [runL] at h
    split at h
    · simp at h
    · rename_i ps1 v os hs
      split at h
      · rename_i ps2 σ2 hrec
        simp only [RR.ok.injEq] at h
        obtain ⟨rfl, rfl⟩ := h
        rw [AllP_append] at hp
        refine wpList_step fun K hK => ?_
        exact stepR_sound hr ht hs hp.1 fun K1 S1 a' w' G' φ' hk h1 => hK _ _ (runL_sound (F := F.up K1) ht hrec hp.2 h1 fun K2 S2 a2 w2 G2 φ2 hk2 h2 => hq K2 S2 a2 w2 G2 φ2 (hk.trans hk2) h2)
      · simp at h

end Go.Proofs.Ytgicjbeaomjdgaa.L
