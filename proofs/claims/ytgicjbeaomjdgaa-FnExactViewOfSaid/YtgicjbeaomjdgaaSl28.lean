/- Trees that say less; rules that change how a state is told. -/
import Derived.Test.YtgicjbeaomjdgaaSl27
namespace Go.Proofs.Ytgicjbeaomjdgaa.L
set_option linter.unusedVariables false
set_option linter.unusedSimpArgs false
open Go

/-- ys says of the same cells no more than xs. -/
def LLe (P : Program) (xs ys : List T) : Prop := ∀ (w : World) (K S : Nat → Prop) (us : List Value) (φ : Nat → Prop), Sub K S → CR P w K S xs us φ → CR P w K S ys us φ

theorem LLe.r {P : Program} {xs : List T} : LLe P xs xs := fun _ _ _ _ _ _ h => h
theorem LLe.eq {P : Program} {xs ys : List T} (h : xs = ys) : LLe P xs ys := h ▸ LLe.r
theorem LLe.trans {P : Program} {xs ys zs : List T} (h : LLe P xs ys) (k : LLe P ys zs) : LLe P xs zs := fun w K S us φ s c => k w K S us φ s (h w K S us φ s c)
theorem LLe.app {P : Program} {a a' b b' : List T} (h : LLe P a a') (k : LLe P b b') : LLe P (a ++ b) (a' ++ b') := by
  intro w K S us φ hs hc
  obtain ⟨u1, u2, φ1, φ2, rfl, ha, hb, hd, s1, s2⟩ := CR.split hc
  exact (h _ _ _ _ _ hs ha).join (k _ _ _ _ _ hs hb) hd s1 s2
theorem LLe.cons {P : Program} {x y : T} {xs ys : List T} (h : LLe P [x] [y]) (t : LLe P xs ys) : LLe P (x :: xs) (y :: ys) := LLe.app h t
theorem LLe.c {P : Program} {x : T} {xs ys : List T} (t : LLe P xs ys) : LLe P (x :: xs) (x :: ys) := LLe.app (a := [x]) (a' := [x]) .r t
theorem LLe.nil {P : Program} : LLe P [] [] := .r
theorem LLe.nilI {P : Program} {k : Bool} : LLe P [.s (.slice none 0 0)] [.im k []] := by
  intro w K S us φ hKS c
  cases c with
  | s h1 h =>
    cases h
    cases k with
    | false => exact .im0 (rows := []) rfl (Nat.le_refl _) 0 (by simp) [] (fun h => absurd h (by omega)) .nil .nil
    | true => exact .im1 (rows := []) rfl (Nat.le_refl _) 0 (by simp) [] (fun h => absurd h (by omega)) .nil .nil
theorem LLe.nilO {P : Program} {e : Nat} : LLe P [.s (.slice none 0 0)] [.ow e []] := by
  intro w K S us φ hKS c
  cases c with
  | s h1 h =>
    cases h
    exact .ow (φ1 := no) (φ2 := no) (by simp) [] (World.ownsRow_nil w 0 e _) no (fun b hb => by simp [Value.ownBlock] at hb) (fun _ h => h.elim) .nil .nil (fun _ h => h.elim) (fun _ h => h.elim) (fun _ h => h.elim)
theorem LLe.jk {P : Program} {x : T} : LLe P [x] [.jk] := by
  intro w K S us φ hKS c
  have hl := c.len
  have h1 := c.one
  match us, hl with
  | [u], _ => exact .jk (h1 u (by simp)) .nil

/-- The same of rows. -/
inductive RLe (P : Program) : Rws → Rws → Prop
  | nil : RLe P [] []
  | cons {r r' rs rs'} (hl : r.length = r'.length) (h : LLe P r r') (t : RLe P rs rs') : RLe P (r :: rs) (r' :: rs')

theorem RLe.r {P : Program} : ∀ {rows : Rws}, RLe P rows rows
  | [] => .nil
  | _ :: _ => .cons rfl .r RLe.r
theorem RLe.eq {P : Program} {a b : Rws} (h : a = b) : RLe P a b := h ▸ RLe.r
theorem RLe.trans {P : Program} {a b c : Rws} (h : RLe P a b) : RLe P b c → RLe P a c := by
  induction h generalizing c with
  | nil => exact id
  | cons hl h _ ih => intro k; cases k with | cons hl' h' t' => exact .cons (hl.trans hl') (h.trans h') (ih t')
theorem RLe.len {P : Program} {a b : Rws} (h : RLe P a b) : a.length = b.length := by induction h <;> simp_all
theorem RLe.flat {P : Program} {a b : Rws} (h : RLe P a b) : LLe P a.flatten b.flatten := by
  induction h with
  | nil => exact .r
  | cons hl h _ ih => simpa using LLe.app h ih
theorem RLe.row {P : Program} {a b : Rws} {n : Nat} (h : RLe P a b) : (∀ r ∈ a, r.length = n) → ∀ r ∈ b, r.length = n := by
  induction h with
  | nil => exact fun h => h
  | cons hl h _ ih =>
    intro ha r hr
    rcases List.mem_cons.1 hr with rfl | hr
    · rw [← hl]; exact ha _ (by simp)
    · exact ih (fun r hr => ha r (by simp [hr])) r hr
theorem RLe.app {P : Program} {a a' b b' : Rws} (h : RLe P a a') (k : RLe P b b') : RLe P (a ++ b) (a' ++ b') := by
  induction h with
  | nil => exact k
  | cons hl h _ ih => exact .cons hl h ih
theorem RLe.one {P : Program} {r r' : List T} (hl : r.length = r'.length) (h : LLe P r r') : RLe P [r] [r'] := .cons hl h .nil
theorem RLe.map {P : Program} {α : Type} {f g : α → List T} (hl : ∀ x, (f x).length = (g x).length) (h : ∀ x, LLe P (f x) (g x)) : ∀ l : List α, RLe P (l.map f) (l.map g)
  | [] => .nil
  | x :: l => .cons (hl x) (h x) (RLe.map hl h l)
theorem RLe.rep {P : Program} {r r' : List T} (hl : r.length = r'.length) (h : LLe P r r') : ∀ n, RLe P (List.replicate n r) (List.replicate n r')
  | 0 => .nil
  | n + 1 => by rw [List.replicate_succ, List.replicate_succ]; exact .cons hl h (RLe.rep hl h n)
theorem RLe.set {P : Program} {a b : Rws} {r r' : List T} (h : RLe P a b) (hl : r.length = r'.length) (hr : LLe P r r') : ∀ i, RLe P (a.set i r) (b.set i r') := by
  induction h with
  | nil => intro i; simpa using RLe.nil
  | cons hl' h' t ih =>
    intro i
    cases i with
    | zero => exact .cons hl hr t
    | succ i => exact .cons hl' h' (ih i)

theorem LLe.im {P : Program} {k : Bool} {a b : Rws} (h : RLe P a b) : LLe P [.im k a] [.im k b] := by
  intro w K S us φ hKS c
  cases c with
  | im0 hn hc sz hs vs hA hr h0 =>
    cases h0
    exact .im0 (hn.trans h.len) hc sz (h.row hs) vs hA (h.flat _ _ _ _ _ hKS hr) .nil
  | im1 hn hc sz hs vs hA hr h0 =>
    cases h0
    exact .im1 (hn.trans h.len) hc sz (h.row hs) vs hA (h.flat _ _ _ _ _ (fun _ h => h) hr) .nil
theorem LLe.k {P : Program} {a b : Rws} (h : RLe P a b) : LLe P [.im true a] [.im false b] := by
  intro w K S us φ hKS c
  cases c with
  | im1 hn hc sz hs vs hA hr h0 =>
    cases h0
    exact .im0 (hn.trans h.len) hc sz (h.row hs) vs (fun hp => let ⟨x, o, e, hb, hx⟩ := hA hp; ⟨x, o, e, hKS x hb, hx⟩) (h.flat _ _ _ _ _ hKS (hr.more hKS)) .nil
theorem LLe.ow {P : Program} {e : Nat} {a b : Rws} (h : RLe P a b) : LLe P [.ow e a] [.ow e b] := by
  intro w K S us φ hKS c
  cases c with
  | ow hs vs ho ψ hb hψ hr h0 hd h1 h2 =>
    cases h0
    exact .ow (h.row hs) vs (h.len ▸ ho) ψ hb hψ (h.flat _ _ _ _ _ (fun _ h => h) hr) .nil hd h1 h2

theorem rowsOf_rep {α : Type} (f : α → List T) (n : Nat) (x : α) : rowsOf f (List.replicate n x) = List.replicate n (f x) := by simp [rowsOf]
theorem rowsOf_set {α : Type} (f : α → List T) (l : List α) (i : Nat) (x : α) : rowsOf f (l.set i x) = (rowsOf f l).set i (f x) := by
  simp [rowsOf, List.map_set]
theorem rowsOf_app {α : Type} (f : α → List T) (a b : List α) : rowsOf f (a ++ b) = rowsOf f a ++ rowsOf f b := by simp [rowsOf]

/-- Arguments and results. -/
inductive ALe (P : Program) : List A → List A → Prop
  | nil : ALe P [] []
  | v {x y as bs} (h : LLe P [x] [y]) (t : ALe P as bs) : ALe P (.v x :: as) (.v y :: bs)
  | ag {xs ys as bs} (hl : xs.length = ys.length) (h : LLe P xs ys) (t : ALe P as bs) : ALe P (.ag xs :: as) (.ag ys :: bs)

theorem ALe.r {P : Program} : ∀ {as : List A}, ALe P as as
  | [] => .nil
  | .v _ :: _ => .v .r ALe.r
  | .ag _ :: _ => .ag rfl .r ALe.r
theorem ALe.cells {P : Program} {as bs : List A} (h : ALe P as bs) : LLe P (acells as) (acells bs) := by
  induction h with
  | nil => exact .r
  | v h _ ih => exact LLe.cons h ih
  | ag hl h _ ih => exact LLe.app h ih
theorem ALe.AS {P : Program} {as bs : List A} (h : ALe P as bs) : ∀ {vs us : List Value}, AS as vs us → AS bs vs us := by
  induction h with
  | nil => exact fun h => h
  | v h _ ih => intro vs us a; cases a with | v a => exact .v (ih a)
  | ag hl h _ ih => intro vs us a; cases a with | ag hl' a => exact .ag (hl'.trans hl) (ih a)
theorem ALe.bs {P : Program} {as bs : List A} (h : ALe P as bs) : ∀ {vs us : List Value}, Go.Proofs.Ytgicjbeaomjdgaa.L.AS bs vs us → Go.Proofs.Ytgicjbeaomjdgaa.L.AS as vs us := by
  induction h with
  | nil => exact fun h => h
  | v h _ ih => intro vs us a; cases a with | v a => exact .v (ih a)
  | ag hl h _ ih => intro vs us a; cases a with | ag hl' a => exact .ag (hl'.trans hl.symm) (ih a)

theorem AC.args {P : Program} {f : FuncId} {as bs outs res : List A} (h : AC P f bs outs res) (hl : ALe P as bs) : AC P f as outs res :=
  ⟨h.1, fun w K S φ vs us hKS hS hφ hs hc => h.2 w K S φ vs us hKS hS hφ (hl.AS hs) (hl.cells _ _ _ _ _ hKS hc)⟩

theorem AC.res {P : Program} {f : FuncId} {as outs res outs' res' : List A} (h : AC P f as outs res) (ho : LLe P (acells outs) (acells outs')) (hr : ALe P res res') : AC P f as outs' res' := by
  refine ⟨h.1, fun w K S φ vs us hKS hS hφ hs hc => Calls.mono (h.2 w K S φ vs us hKS hS hφ hs hc) fun e w' => ?_⟩
  rintro ⟨rs, us', φ', K', rfl, h1, h2, h3, h4⟩
  exact ⟨rs, us', φ', K', rfl, hr.AS h1, (ho.app hr.cells) _ _ _ _ _ (fun _ h => h) h2, h3, h4⟩

/-- The contract of what keeps nothing more. -/
theorem AC.of0 {P : Program} {f : FuncId} {args outs res : List A} (h0 : ∃ fn, P.funcs[f]? = some fn ∧ (fn.name == "runtime.NumGoroutine") = false ∧ fn.body.isNone = false) (h : ∀ (w : World) (K S φ : Nat → Prop) (vs us : List Value), Sub K S → (∀ b, S b → b < w.heap.size) → (∀ b, φ b → b < w.heap.size ∧ ¬ S b) →
    AS args vs us → CR P w K S (acells args) us φ → Calls P f vs.toArray w fun e w' => ∃ rs us' φ', e = .returned (tup rs) ∧ AS res rs us' ∧ CR P w' K K (acells outs ++ acells res) (us ++ us') φ' ∧
      (∀ b, φ' b → b < w'.heap.size ∧ (φ b ∨ w.heap.size ≤ b)) ∧ Kept w w' φ) : AC P f args outs res :=
  ⟨h0, fun w K S φ vs us hKS hS hφ has hc => (h w K S φ vs us hKS hS hφ has hc).mono fun e w' ⟨rs, us', φ', e1, h1, h2, h3, h4⟩ => ⟨rs, us', φ', K, e1, h1, h2, fun b hb => ⟨(h3 b hb).1, fun hk => (h3 b hb).2.elim (fun h => (hφ b h).2 (hKS b hk)) (fun h => absurd (hS b (hKS b hk)) (by omega)), (h3 b hb).2⟩, h4, fun _ h => h, fun _ h => .inl h⟩⟩

/-- What a function's end must be, or more. -/
def EndL (P : Program) (tab : List (Nat × Ty)) (rs : List ResultVar) (ds : List (Option Nat)) (outs res : List A) (σ : St) : Prop :=
  ∃ ts as, finish tab rs ds σ = some (ts, as) ∧ LLe P ts (acells outs) ∧ ALe P as res

theorem AC.of_run2 {P : Program} {tab : List (Nat × Ty)} (ht : TabOk P tab) {f : FuncId} {fn : Func} {c : Code} {args outs res : List A} {σ : St} {ds : List (Option Nat)} (hf : P.funcs[f]? = some fn) (hnm : (fn.name == "runtime.NumGoroutine") = false) (hb : fn.body = some c)
    (he : entry tab fn.ntmps args = some (σ, ds)) (hds : (idsOf ds).Nodup ∧ ds.length = (acells args).length) (h : ∀ F : Fr, F.P = P → (∀ i v, F.anc i = some v → i ∈ idsOf ds) → Run F σ c (endQ (EndL P tab fn.results.toList ds outs res))) : AC P f args outs res := by
  refine ⟨⟨fn, hf, hnm, by simp [hb]⟩, ?_⟩
  intro w K S φ vs us hKS hS hφ has hcr
  have hrel := entry_sound ht he hKS hS hφ has hcr
  refine calls_of_wp hf hb (Code.wp_mono (fun e a' w' hq => ?_) (h _ rfl (fun i v hi => ancOf_in hi) _ _ hrel))
  obtain ⟨σ', hq, K', hK, S', G, φ', hr⟩ := hq
  have key : EndL P tab fn.results.toList ds outs res σ' → a'.defers = [] ∧ ∃ v, (results fn a'.tmps).run P w' = .ok v w' ∧ ∃ rs us' φ' K', Ending.returned v = .returned (tup rs) ∧ AS res rs us' ∧ CR P w' K' K' (acells outs ++ acells res) (us ++ us') φ' ∧ (∀ b, φ' b → b < w'.heap.size ∧ ¬ K' b ∧ (φ b ∨ w.heap.size ≤ b)) ∧ Kept w w' φ ∧ Sub K K' ∧ (∀ b, K' b → K b ∨ (b < w'.heap.size ∧ (φ b ∨ w.heap.size ≤ b))) := by
    rintro ⟨ts, as, hE, hlt, hla⟩
    refine ⟨hr.defs, ?_⟩
    unfold finish at hE
    split at hE
    · simp at hE
    · rename_i vs' hvs
      split at hE
      · simp at hE
      · rename_i ts' l hout
        split at hE
        · simp at hE
        · rename_i as' ds' hown
          split at hE
          · rename_i hnd
            simp only [Option.some.injEq, Prod.mk.injEq] at hE
            obtain ⟨rfl, rfl⟩ := hE
            have hnd := nodupB_iff _ hnd
            obtain ⟨rs, h1, h2⟩ := resVs_sound hr ht hvs
            obtain ⟨us', s1, c1⟩ := ownAll_sound hr K' h2 hown (List.nodup_append.1 hnd).2.1
            have hal := ancOf_mem (G := G) (by rw [hcr.len, hds.2]) hds.1 hr.anc
            have c2 := outC_sound hr hout hal hcr.one (List.nodup_append.1 hnd).1
            refine ⟨_, results_run h1, rs, us', Of φ' (l ++ idsOf ds'), K', rfl, hla.AS s1, (hlt _ _ _ _ _ (fun _ h => h) c2).join (hla.cells _ _ _ _ _ (fun _ h => h) c1) (Of_dj2 hr.dj hnd) Of_app.1 Of_app.2, ?_, hr.kept, hK.1, fun b hb => (hK.2 b hb).imp (fun h => h) fun h => ⟨hr.Slt b (hr.KS b hb), h.symm⟩⟩
            rintro b ⟨i, _, hb⟩
            obtain ⟨h1, h2, h3⟩ := hr.own i b hb
            exact ⟨h1, fun h => h2 (hr.KS b h), h3.symm⟩
          · simp at hE
  cases e with
  | normal => exact key hq
  | ret => exact key hq
  | _ => exact hq.elim

/-! ### how a state is told -/

variable {F : Fr} {a : Act} {w : World} {S : Nat → Prop} {G : Gh} {φ : Nat → Nat → Prop} {tab : List (Nat × Ty)}

theorem Weak.refl {σ : St} : Weak F σ σ := fun _ _ h => h
theorem Weak.trans {σ τ υ : St} (h : Weak F σ τ) (k : Weak F τ υ) : Weak F σ υ := fun a w hr => k a w (h a w hr)

/-- An object's rows, told otherwise. -/
theorem WeakS.row {n nx : Nat} {env : List (Nat × V)} {objs : List (Nat × O)} (id : Nat) {ver e sz : Nat} {rows : Rws} (rows' : Rws) (ho : look .dead objs id = .row ver e sz rows) (hle : RLe F.P rows rows') :
    WeakS F ⟨n, nx, env, objs⟩ ⟨n, nx, env, (id, .row (ver + 1) e sz rows') :: objs⟩ := by
  rintro a w ⟨S, G, φ, hr⟩
  have hno : G.κ id (ver + 1) = none := by
    cases hk : G.κ id (ver + 1) with
    | none => rfl
    | some x => have := (hr.kd id (ver + 1) x hk).2 _ _ _ _ ho; omega
  obtain ⟨hid, hsz, hGs, us, hk, hrs, hown, ψ, hb, hψ, hcr⟩ := hr.row ho
  let G' : Gh := ⟨G.dom, G.β, G.sz, fun i v => if i = id ∧ v = ver + 1 then some (rows', us) else G.κ i v⟩
  have hle' : G.le G' := ⟨fun _ h => h, fun _ _ => rfl, fun _ _ => rfl, fun i v x hx => by
    show (if i = id ∧ v = ver + 1 then some (rows', us) else G.κ i v) = some x
    split
    · rename_i h
      obtain ⟨rfl, rfl⟩ := h
      rw [hno] at hx
      simp at hx
    · exact hx⟩
  have hnew : OR F.P w F.K S G' (φ id) id (.row (ver + 1) e sz rows') := by
    refine ⟨hid, hsz, hGs, us, ?_, hle.row hrs, ?_, ψ, hb, hψ, hle.flat _ _ _ _ _ (fun _ h => h) hcr⟩
    · show (if id = id ∧ ver + 1 = ver + 1 then some (rows', us) else _) = _
      rw [if_pos ⟨rfl, rfl⟩]
    · rw [← hle.len]; exact hown
  refine ⟨S, G', φ, fun i hi => ?_, fun i v x hx => ?_, hr.n, hr.KS, hr.Slt, fun t => (hr.env t).move (fun _ _ => rfl) (fun _ _ => rfl) hle', fun i => ?_, hr.dj, hr.own, hr.kept, hr.defs, hr.anc⟩
  · rcases hr.nx i hi with h | h
    · exact .inl h
    · exact .inr ((hasKey_cons _ _ _ _).2 (.inr h))
  · have hx' : (if i = id ∧ v = ver + 1 then some (rows', us) else G.κ i v) = some x := hx
    show G.dom i ∧ _
    split at hx'
    · rename_i h
      obtain ⟨rfl, rfl⟩ := h
      refine ⟨hid, fun ver' e' sz' r' hl => ?_⟩
      rw [look_cons, if_pos rfl] at hl
      simp only [O.row.injEq] at hl
      omega
    · refine ⟨(hr.kd i v x hx').1, fun ver' e' sz' r' hl => ?_⟩
      rw [look_cons] at hl
      split at hl
      · rename_i h
        subst h
        have := (hr.kd _ v x hx').2 _ _ _ _ ho
        simp only [O.row.injEq] at hl
        omega
      · exact (hr.kd i v x hx').2 _ _ _ _ hl
  · show OR F.P w F.K S G' (φ i) i (look .dead ((id, .row (ver + 1) e sz rows') :: objs) i)
    rw [look_cons]
    split
    · rename_i h; subst h; exact hnew
    · exact (hr.obj i).move (fun _ _ => rfl) (fun _ _ => rfl) (fun _ _ => rfl) hle'

theorem Weak.row {n nx : Nat} {env : List (Nat × V)} {objs : List (Nat × O)} (id : Nat) {ver e sz : Nat} {rows : Rws} (rows' : Rws) (ho : look .dead objs id = .row ver e sz rows) (hle : RLe F.P rows rows') :
    Weak F ⟨n, nx, env, objs⟩ ⟨n, nx, env, (id, .row (ver + 1) e sz rows') :: objs⟩ := Weak.up fun K => WeakS.row (F := F.up K) id rows' ho hle

theorem Run.row {c : Code} {Q : Exit → St → Prop} {n nx : Nat} {env : List (Nat × V)} {objs : List (Nat × O)} (id : Nat) {ver e sz : Nat} {rows : Rws} (rows' : Rws) (ho : look .dead objs id = .row ver e sz rows) (hle : RLe F.P rows rows')
    (h : Run F ⟨n, nx, env, (id, .row (ver + 1) e sz rows') :: objs⟩ c Q) : Run F ⟨n, nx, env, objs⟩ c Q := h.weak (Weak.row id rows' ho hle)

/-- No slice is a row of its own, of no elements: a new object. -/
theorem Weak.fresh {n nx : Nat} {env : List (Nat × V)} {objs : List (Nat × O)} (ht : TabOk F.P tab) (id e : Nat) {ty : Ty} (hty : getTy tab e = some ty) (hf : freshB nx objs id = true) {a : Act} {w : World} {S : Nat → Prop} {G : Gh} {φ : Nat → Nat → Prop}
    (hr : Rel0 F ⟨n, nx, env, objs⟩ a w S G φ) : ∃ G', G.le G' ∧ G'.dom id ∧ G'.β id = .slice none 0 0 ∧ Rel0 F ⟨n, nx, env, (id, .row 0 e ty.size []) :: objs⟩ a w S G' (fun i b => if i = id then False else φ i b) := by
  have hid : ¬ G.dom id := fresh_dom hr hf
  have hk : G.le (G.add id (.slice none 0 0) ty.size (some ([], []))) := Gh.le_add hid (fun v x hx => (hr.kd id v x hx).1) _ _ _
  have := hr.new (w' := w) (τ := no) (Kept.refl w _) hid (ds := []) (v := .slice none 0 0) (sz := ty.size) (k := some ([], [])) (o := .row 0 e ty.size []) (fun _ h => h.elim)
    (by
      refine ⟨.inr rfl, (cellsOf_ty (ht e ty hty)).symm, by simp [Gh.add], [], by simp [Gh.add], by simp, by simpa [Gh.add] using World.ownsRow_nil w 0 e ty.size, no, ?_, fun _ h => h.elim, .nil⟩
      intro b hb
      simp [Gh.add, Value.ownBlock] at hb) (by simp)
  refine ⟨_, hk, .inr rfl, by simp [Gh.add], ?_⟩
  have hφ : (fun i b => if i = id then (∃ d ∈ ([] : List Nat), φ d b) ∨ (w.heap.size ≤ b ∧ b < w.heap.size) else if i ∈ ([] : List Nat) then False else φ i b) = (fun i b => if i = id then False else φ i b) := by
    funext i b
    by_cases h : i = id
    · simp only [if_pos h]
      apply propext
      constructor
      · rintro (⟨d, hd, _⟩ | ⟨h1, h2⟩)
        · simp at hd
        · omega
      · exact fun h => h.elim
    · simp [h]
  rw [hφ] at this
  simpa [deads] using this

theorem WeakS.nilT {n nx : Nat} {env : List (Nat × V)} {objs : List (Nat × O)} (ht : TabOk F.P tab) (t id e : Nat) {ty : Ty} (hty : getTy tab e = some ty) (hf : freshB nx objs id = true) (hn : look .u env t = .t (.s (.slice none 0 0))) :
    WeakS F ⟨n, nx, env, objs⟩ ⟨n, nx, (t, .rf id) :: env, (id, .row 0 e ty.size []) :: objs⟩ := by
  rintro a w ⟨S, G, φ, hr⟩
  obtain ⟨G', hle, hd, hβ, h⟩ := Weak.fresh ht id e hty hf hr
  refine ⟨S, G', _, h.nx, h.kd, h.n, h.KS, h.Slt, fun t' => ?_, h.obj, h.dj, h.own, h.kept, h.defs, h.anc⟩
  show VR F.P w F.K S G' (look .u ((t, .rf id) :: env) t') _
  rw [look_cons]
  split
  · rename_i he
    subst he
    have := hr.env t'
    show VR F.P w F.K S G' (.rf id) _
    have h2 : VR F.P w F.K S G (.t (.s (.slice none 0 0))) (a.tmps.getD t' undef) := by rw [← hn]; exact this
    generalize a.tmps.getD t' undef = u at h2
    cases h2 with
    | t hx _ => cases hx; exact .rf hd hβ.symm rfl .nil
  · exact h.env t'

theorem Weak.nilT {n nx : Nat} {env : List (Nat × V)} {objs : List (Nat × O)} (ht : TabOk F.P tab) (t id e : Nat) {ty : Ty} (hty : getTy tab e = some ty) (hf : freshB nx objs id = true) (hn : look .u env t = .t (.s (.slice none 0 0))) :
    Weak F ⟨n, nx, env, objs⟩ ⟨n, nx, (t, .rf id) :: env, (id, .row 0 e ty.size []) :: objs⟩ := Weak.up fun K => WeakS.nilT (F := F.up K) ht t id e hty hf hn

theorem VRs.splitAt {P : Program} {K : Nat → Prop} {cs : List V} {us : List Value} (h : VRs P w K S G cs us) (j : Nat) : VRs P w K S G (takeN j cs) (us.take j) ∧ VRs P w K S G (dropN j cs) (us.drop j) := by
  induction j generalizing cs us with
  | zero => exact ⟨by simpa [takeN] using VRs.nil, by simpa [dropN] using h⟩
  | succ j ih =>
    cases cs with
    | nil => cases h; exact ⟨by simpa [takeN] using VRs.nil, by simpa [dropN] using VRs.nil⟩
    | cons c cs =>
      obtain ⟨u, us, rfl, h1, h2⟩ := h.uncons
      obtain ⟨h3, h4⟩ := ih h2
      exact ⟨by simpa [takeN] using VRs.cons h1 h3, by simpa [dropN] using h4⟩

/-- The same in a variable's block: cell j of object b. -/
theorem WeakS.nilB {n nx : Nat} {env : List (Nat × V)} {objs : List (Nat × O)} (ht : TabOk F.P tab) (b j id e : Nat) {ty : Ty} (hty : getTy tab e = some ty) (hf : freshB nx objs id = true) {eb : Nat} {l r : List V} (hb : look .dead objs b = .box eb (l ++ .t (.s (.slice none 0 0)) :: r)) (hbi : nq b id = false) :
    WeakS F ⟨n, nx, env, objs⟩ ⟨n, nx, env, (b, .box eb (l ++ .rf id :: r)) :: (id, .row 0 e ty.size []) :: objs⟩ := by
  rintro a w ⟨S, G, φ, hr⟩
  have hne : b ≠ id := by rintro rfl; simp [nq_self] at hbi
  obtain ⟨G', hle, hd, hβ, h⟩ := Weak.fresh ht id e hty hf hr
  have hob := h.obj b
  have hlk : look .dead ((id, O.row 0 e ty.size []) :: objs) b = .box eb (l ++ .t (.s (.slice none 0 0)) :: r) := by rw [look_cons, if_neg hne, hb]
  have hob' : OR F.P w F.K S G' (if b = id then no else φ b) b (.box eb (l ++ .rf id :: r)) := by
    rw [if_neg hne]
    have hob2 : OR F.P w F.K S G' (φ b) b (.box eb (l ++ .t (.s (.slice none 0 0)) :: r)) := by
      have h3 := hob
      simp only at h3
      rw [hlk] at h3
      rw [show (fun b_1 => if b = id then False else φ b b_1) = φ b from by funext x; rw [if_neg hne]] at h3
      exact h3
    obtain ⟨h1, g, us, h2, h3, h4, h5⟩ := hob2
    obtain ⟨ua, ub, rfl, h6, h7⟩ := h5.unappend
    obtain ⟨u, us', rfl, h8, h9⟩ := h7.uncons
    refine ⟨h1, g, _, h2, h3, h4, h6.append (.cons ?_ h9)⟩
    cases h8 with
    | t hx _ => cases hx; exact .rf hd hβ.symm rfl .nil
  refine ⟨S, G', fun i b => if i = id then False else φ i b, fun i hi => ?_, fun i v x hx => ⟨(h.kd i v x hx).1, fun ver e' sz rows hl => ?_⟩, h.n, h.KS, h.Slt, h.env, fun i => ?_, h.dj, h.own, h.kept, h.defs, h.anc⟩
  · rcases h.nx i hi with h | h
    · exact .inl h
    · exact .inr ((hasKey_cons _ _ _ _).2 (.inr h))
  · rw [look_cons] at hl
    split at hl
    · simp at hl
    · exact (h.kd i v x hx).2 _ _ _ _ hl
  · have key : ∀ k : Nat, OR F.P w F.K S G' (fun x => if k = id then False else φ k x) k (look .dead ((b, .box eb (l ++ .rf id :: r)) :: (id, .row 0 e ty.size []) :: objs) k) := by
      intro k
      rw [look_cons]
      by_cases he : k = b
      · rw [if_pos he, he]
        have h4 : (fun x => if b = id then False else φ b x) = (if b = id then no else φ b) := by
          funext x
          rw [if_neg hne, if_neg hne]
        rw [h4]
        exact hob'
      · rw [if_neg he]
        exact h.obj k
    exact key i

theorem Weak.nilB {n nx : Nat} {env : List (Nat × V)} {objs : List (Nat × O)} (ht : TabOk F.P tab) (b j id e : Nat) {ty : Ty} (hty : getTy tab e = some ty) (hf : freshB nx objs id = true) {eb : Nat} {l r : List V} (hb : look .dead objs b = .box eb (l ++ .t (.s (.slice none 0 0)) :: r)) (hbi : nq b id = false) :
    Weak F ⟨n, nx, env, objs⟩ ⟨n, nx, env, (b, .box eb (l ++ .rf id :: r)) :: (id, .row 0 e ty.size []) :: objs⟩ := Weak.up fun K => WeakS.nilB (F := F.up K) ht b j id e hty hf hb hbi

/-- A value is told by less. -/
theorem WeakS.tmp {n nx : Nat} {env : List (Nat × V)} {objs : List (Nat × O)} (t : Nat) {x y : T} (hn : look .u env t = .t x) (hle : LLe F.P [x] [y]) : WeakS F ⟨n, nx, env, objs⟩ ⟨n, nx, (t, .t y) :: env, objs⟩ := by
  rintro a w ⟨S, G, φ, hr⟩
  refine ⟨S, G, φ, hr.nx, hr.kd, hr.n, hr.KS, hr.Slt, fun t' => ?_, hr.obj, hr.dj, hr.own, hr.kept, hr.defs, hr.anc⟩
  show VR F.P w F.K S G (look .u ((t, .t y) :: env) t') _
  rw [look_cons]
  split
  · rename_i he
    subst he
    have h2 : VR F.P w F.K S G (.t x) (a.tmps.getD t' undef) := by rw [← hn]; exact hr.env t'
    generalize a.tmps.getD t' undef = u at h2 ⊢
    cases h2 with
    | t hx _ => exact .t (hle _ _ _ _ _ hr.KS hx) .nil
  · exact hr.env t'

theorem Weak.tmp {n nx : Nat} {env : List (Nat × V)} {objs : List (Nat × O)} (t : Nat) {x y : T} (hn : look .u env t = .t x) (hle : LLe F.P [x] [y]) : Weak F ⟨n, nx, env, objs⟩ ⟨n, nx, (t, .t y) :: env, objs⟩ := Weak.up fun K => WeakS.tmp (F := F.up K) t hn hle

/-- A function that has come in, as a value here. -/
theorem WeakS.fnT {n nx : Nat} {env : List (Nat × V)} {objs : List (Nat × O)} (t : Nat) {g : FuncId} {ts : List T} (hn : look .u env t = .t (.fn g ts)) : WeakS F ⟨n, nx, env, objs⟩ ⟨n, nx, (t, .fn g (ts.map .t)) :: env, objs⟩ := by
  rintro a w ⟨S, G, φ, hr⟩
  refine ⟨S, G, φ, hr.nx, hr.kd, hr.n, hr.KS, hr.Slt, fun t' => ?_, hr.obj, hr.dj, hr.own, hr.kept, hr.defs, hr.anc⟩
  show VR F.P w F.K S G (look .u ((t, .fn g (ts.map .t)) :: env) t') _
  rw [look_cons]
  split
  · rename_i he
    subst he
    have h2 : VR F.P w F.K S G (.t (.fn g ts)) (a.tmps.getD t' undef) := by rw [← hn]; exact hr.env t'
    generalize a.tmps.getD t' undef = u at h2 ⊢
    cases h2 with
    | t hx _ =>
      cases hx with
      | fn vs h1 h2 =>
        cases h2
        exact .fn (VRs.of_CR h1) .nil
  · exact hr.env t'

theorem Weak.fnT {n nx : Nat} {env : List (Nat × V)} {objs : List (Nat × O)} (t : Nat) {g : FuncId} {ts : List T} (hn : look .u env t = .t (.fn g ts)) : Weak F ⟨n, nx, env, objs⟩ ⟨n, nx, (t, .fn g (ts.map .t)) :: env, objs⟩ := Weak.up fun K => WeakS.fnT (F := F.up K) t hn

theorem LLe.ip {P : Program} {a b : List T} (hl : a.length = b.length) (h : LLe P a b) : LLe P [.ip a] [.ip b] := by
  intro w K S us φ hKS c
  cases c with
  | ip vs hS hA hr h0 => cases h0; exact .ip vs (fun hp => hS (by omega)) hA (h _ _ _ _ _ hKS hr) .nil
theorem LLe.fn {P : Program} {g : FuncId} {a b : List T} (h : LLe P a b) : LLe P [.fn g a] [.fn g b] := by
  intro w K S us φ hKS c
  cases c with
  | fn vs hr h0 => cases h0; exact .fn vs (h _ _ _ _ _ hKS hr) .nil

end Go.Proofs.Ytgicjbeaomjdgaa.L
