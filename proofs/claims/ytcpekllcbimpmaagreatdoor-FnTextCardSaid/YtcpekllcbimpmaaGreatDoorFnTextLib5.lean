/- Trees that say less; rules that change how a state is told. -/
import Derived.Test.YtcpekllcbimpmaaGreatDoorFnTextLib4
namespace Go.Proofs.YtcpekllcbimpmaaGreatDoor.L
set_option linter.unusedVariables false
set_option linter.unusedSimpArgs false
open Go
def LLe (P : Program) (xs ys : List T) : Prop := ∀ (w : World) (K S : Nat → Prop) (us : List Value) (φ : Nat → Prop), Sub K S → CR P w K S xs us φ → CR P w K S ys us φ
theorem LLe.r {P : Program} {xs : List T} : LLe P xs xs := fun _ _ _ _ _ _ h => h
theorem LLe.eq {P : Program} {xs ys : List T} (h : xs = ys) : LLe P xs ys := h ▸ LLe.r
theorem LLe.trans {P : Program} {xs ys zs : List T} (h : LLe P xs ys) (k : LLe P ys zs) : LLe P xs zs := fun w K S us φ s c => k w K S us φ s (h w K S us φ s c)
theorem LLe.app {P : Program} {a a' b b' : List T} (h : LLe P a a') (k : LLe P b b') : LLe P (a ++ b) (a' ++ b') := by
 intro w K S us φ hs hc
 obtain ⟨u1, u2, φ1, φ2, rfl, ha, hb, hd, s1, s2⟩ := CR.split hc
 exact (h _ _ _ _ _ hs ha).join (k _ _ _ _ _ hs hb) hd s1 s2
theorem LLe.cons {P : Program} {x y : T} {xs ys : List T} (h : LLe P [x] [y]) (t : LLe P xs ys) : LLe P (x :: xs) (y :: ys) := LLe.app h t
theorem LLe.c {P : Program} {x : T} {xs ys : List T} (t : LLe P xs ys) : LLe P (x :: xs) (x :: ys) := LLe.app (a := [x]) (a' := [x]) .r t
theorem LLe.nil {P : Program} : LLe P [] [] := .r
theorem LLe.nilI {P : Program} {k : Bool} : LLe P [.s (.slice none 0 0)] [.im k []] := by
 intro w K S us φ hKS c
 cases c with
 | s h1 h =>
  cases h
  cases k with
  | false => exact .im0 (rows := []) rfl (Nat.le_refl _) 0 (by simp) [] (fun h => absurd h (by omega)) .nil .nil
  | true => exact .im1 (rows := []) rfl (Nat.le_refl _) 0 (by simp) [] (fun h => absurd h (by omega)) .nil .nil
theorem LLe.nilO {P : Program} {e : Nat} : LLe P [.s (.slice none 0 0)] [.ow e []] := by
 intro w K S us φ hKS c
 cases c with
 | s h1 h =>
  cases h
  exact .ow (φ1 := no) (φ2 := no) (by simp) [] (World.ownsRow_nil w 0 e _) no (fun b hb => by simp [Value.ownBlock] at hb) (fun _ h => h.elim) .nil .nil (fun _ h => h.elim) (fun _ h => h.elim) (fun _ h => h.elim)
theorem LLe.jk {P : Program} {x : T} : LLe P [x] [.jk] := by
 intro w K S us φ hKS c
 have hl := c.len
 have h1 := c.one
 match us, hl with
 | [u], _ => exact .jk (h1 u (by simp)) .nil
inductive RLe (P : Program) : Rws → Rws → Prop
 | nil : RLe P [] []
 | cons {r r' rs rs'} (hl : r.length = r'.length) (h : LLe P r r') (t : RLe P rs rs') : RLe P (r :: rs) (r' :: rs')
theorem RLe.r {P : Program} : ∀ {rows : Rws}, RLe P rows rows
 | [] => .nil
 | _ :: _ => .cons rfl .r RLe.r
theorem RLe.eq {P : Program} {a b : Rws} (h : a = b) : RLe P a b := h ▸ RLe.r
theorem RLe.trans {P : Program} {a b c : Rws} (h : RLe P a b) : RLe P b c → RLe P a c := by
 induction h generalizing c with
 | nil => exact id
 | cons hl h _ ih => intro k; cases k with | cons hl' h' t' => exact .cons (hl.trans hl') (h.trans h') (ih t')
theorem RLe.len {P : Program} {a b : Rws} (h : RLe P a b) : a.length = b.length := by induction h <;> simp_all
theorem RLe.flat {P : Program} {a b : Rws} (h : RLe P a b) : LLe P a.flatten b.flatten := by
 induction h with
 | nil => exact .r
 | cons hl h _ ih => simpa using LLe.app h ih
theorem RLe.row {P : Program} {a b : Rws} {n : Nat} (h : RLe P a b) : (∀ r ∈ a, r.length = n) → ∀ r ∈ b, r.length = n := by
 induction h with
 | nil => exact fun h => h
 | cons hl h _ ih =>
  intro ha r hr
  rcases List.mem_cons.1 hr with rfl | hr
  · rw [← hl]; exact ha _ (by simp)
  exact ih (fun r hr => ha r (by simp [hr])) r hr
theorem RLe.app {P : Program} {a a' b b' : Rws} (h : RLe P a a') (k : RLe P b b') : RLe P (a ++ b) (a' ++ b') := by
 induction h with
 | nil => exact k
 | cons hl h _ ih => exact .cons hl h ih
theorem RLe.one {P : Program} {r r' : List T} (hl : r.length = r'.length) (h : LLe P r r') : RLe P [r] [r'] := .cons hl h .nil
theorem RLe.map {P : Program} {α : Type} {f g : α → List T} (hl : ∀ x, (f x).length = (g x).length) (h : ∀ x, LLe P (f x) (g x)) : ∀ l : List α, RLe P (l.map f) (l.map g)
 | [] => .nil
 | x :: l => .cons (hl x) (h x) (RLe.map hl h l)
theorem RLe.rep {P : Program} {r r' : List T} (hl : r.length = r'.length) (h : LLe P r r') : ∀ n, RLe P (List.replicate n r) (List.replicate n r')
 | 0 => .nil
 | n + 1 => by rw [List.replicate_succ, List.replicate_succ]; exact .cons hl h (RLe.rep hl h n)
theorem RLe.set {P : Program} {a b : Rws} {r r' : List T} (h : RLe P a b) (hl : r.length = r'.length) (hr : LLe P r r') : ∀ i, RLe P (a.set i r) (b.set i r') := by
 induction h with
 | nil => intro i; simpa using RLe.nil
 | cons hl' h' t ih =>
  intro i
  cases i with
  | zero => exact .cons hl hr t
  | succ i => exact .cons hl' h' (ih i)
theorem LLe.im {P : Program} {k : Bool} {a b : Rws} (h : RLe P a b) : LLe P [.im k a] [.im k b] := by
 intro w K S us φ hKS c
 cases c with
 | im0 hn hc sz hs vs hA hr h0 =>
  cases h0
  exact .im0 (hn.trans h.len) hc sz (h.row hs) vs hA (h.flat _ _ _ _ _ hKS hr) .nil
 | im1 hn hc sz hs vs hA hr h0 =>
  cases h0
  exact .im1 (hn.trans h.len) hc sz (h.row hs) vs hA (h.flat _ _ _ _ _ (fun _ h => h) hr) .nil
theorem LLe.k {P : Program} {a b : Rws} (h : RLe P a b) : LLe P [.im true a] [.im false b] := by
 intro w K S us φ hKS c
 cases c with
 | im1 hn hc sz hs vs hA hr h0 =>
  cases h0
  exact .im0 (hn.trans h.len) hc sz (h.row hs) vs (fun hp => let ⟨x, o, e, hb, hx⟩ := hA hp; ⟨x, o, e, hKS x hb, hx⟩) (h.flat _ _ _ _ _ hKS (hr.more hKS)) .nil
theorem LLe.ow {P : Program} {e : Nat} {a b : Rws} (h : RLe P a b) : LLe P [.ow e a] [.ow e b] := by
 intro w K S us φ hKS c
 cases c with
 | ow hs vs ho ψ hb hψ hr h0 hd h1 h2 =>
  cases h0
  exact .ow (h.row hs) vs (h.len ▸ ho) ψ hb hψ (h.flat _ _ _ _ _ (fun _ h => h) hr) .nil hd h1 h2
theorem qIP {α : Type} (f : α → List T) (n : Nat) (x : α) : rowsOf f (List.replicate n x) = List.replicate n (f x) := by simp [rowsOf]
theorem qJP {α : Type} (f : α → List T) (a b : List α) : rowsOf f (a ++ b) = rowsOf f a ++ rowsOf f b := by simp [rowsOf]
inductive ALe (P : Program) : List A → List A → Prop
 | nil : ALe P [] []
 | v {x y as bs} (h : LLe P [x] [y]) (t : ALe P as bs) : ALe P (.v x :: as) (.v y :: bs)
 | ag {xs ys as bs} (hl : xs.length = ys.length) (h : LLe P xs ys) (t : ALe P as bs) : ALe P (.ag xs :: as) (.ag ys :: bs)
theorem ALe.r {P : Program} : ∀ {as : List A}, ALe P as as
 | [] => .nil
 | .v _ :: _ => .v .r ALe.r
 | .ag _ :: _ => .ag rfl .r ALe.r
theorem ALe.cells {P : Program} {as bs : List A} (h : ALe P as bs) : LLe P (acells as) (acells bs) := by
 induction h with
 | nil => exact .r
 | v h _ ih => exact LLe.cons h ih
 | ag hl h _ ih => exact LLe.app h ih
theorem ALe.AS {P : Program} {as bs : List A} (h : ALe P as bs) : ∀ {vs us : List Value}, AS as vs us → AS bs vs us := by
 induction h with
 | nil => exact fun h => h
 | v h _ ih => intro vs us a; cases a with | v a => exact .v (ih a)
 | ag hl h _ ih => intro vs us a; cases a with | ag hl' a => exact .ag (hl'.trans hl) (ih a)
theorem ALe.bs {P : Program} {as bs : List A} (h : ALe P as bs) : ∀ {vs us : List Value}, Go.Proofs.YtcpekllcbimpmaaGreatDoor.L.AS bs vs us → Go.Proofs.YtcpekllcbimpmaaGreatDoor.L.AS as vs us := by
 induction h with
 | nil => exact fun h => h
 | v h _ ih => intro vs us a; cases a with | v a => exact .v (ih a)
 | ag hl h _ ih => intro vs us a; cases a with | ag hl' a => exact .ag (hl'.trans hl.symm) (ih a)
theorem AC.args {P : Program} {f : FuncId} {as bs outs res : List A} (h : AC P f bs outs res) (hl : ALe P as bs) : AC P f as outs res :=
 ⟨h.1, fun w K S φ vs us hKS hS hφ htb hs hc => h.2 w K S φ vs us hKS hS hφ htb (hl.AS hs) (hl.cells _ _ _ _ _ hKS hc)⟩
theorem AC.res {P : Program} {f : FuncId} {as outs res outs' res' : List A} (h : AC P f as outs res) (ho : LLe P (acells outs) (acells outs')) (hr : ALe P res res') : AC P f as outs' res' := by
 refine ⟨h.1, fun w K S φ vs us hKS hS hφ htb hs hc => Calls.mono (h.2 w K S φ vs us hKS hS hφ htb hs hc) fun e w' => ?_⟩
 rintro ⟨rs, us', φ', K', rfl, h1, h2, h3, h4⟩
 exact ⟨rs, us', φ', K', rfl, hr.AS h1, (ho.app hr.cells) _ _ _ _ _ (fun _ h => h) h2, h3, h4⟩
theorem AC.of0 {P : Program} {f : FuncId} {args outs res : List A} (h0 : ∃ fn, P.funcs[f]? = some fn ∧ (fn.name == "runtime.NumGoroutine") = false ∧ fn.body.isNone = false) (h : ∀ (w : World) (K S φ : Nat → Prop) (vs us : List Value), Sub K S → (∀ b, S b → b < w.heap.size) → (∀ b, φ b → b < w.heap.size ∧ ¬ S b) → Tb P w φ →
  AS args vs us → CR P w K S (acells args) us φ → Calls P f vs.toArray w fun e w' => ∃ rs us' φ', e = .returned (tup rs) ∧ AS res rs us' ∧ CR P w' K K (acells outs ++ acells res) (us ++ us') φ' ∧
   (∀ b, φ' b → b < w'.heap.size ∧ (φ b ∨ w.heap.size ≤ b)) ∧ Kept w w' φ) : AC P f args outs res :=
 ⟨h0, fun w K S φ vs us hKS hS hφ htb has hc => (h w K S φ vs us hKS hS hφ htb has hc).mono fun e w' ⟨rs, us', φ', e1, h1, h2, h3, h4⟩ => ⟨rs, us', φ', K, e1, h1, h2, fun b hb => ⟨(h3 b hb).1, fun hk => (h3 b hb).2.elim (fun h => (hφ b h).2 (hKS b hk)) (fun h => absurd (hS b (hKS b hk)) (by omega)), (h3 b hb).2⟩, h4, fun _ h => h, fun _ h => .inl h⟩⟩
def EndL (P : Program) (tab : List (Nat × Ty)) (rs : List ResultVar) (ds : List (Option Nat)) (outs res : List A) (σ : St) : Prop :=
 ∃ ts as, finish tab rs ds σ = some (ts, as) ∧ LLe P ts (acells outs) ∧ ALe P as res
theorem AC.of_run2 {P : Program} {tab : List (Nat × Ty)} (ht : TabOk P tab) {f : FuncId} {fn : Func} {c : Code} {args outs res : List A} {σ : St} {ds : List (Option Nat)} (hf : P.funcs[f]? = some fn) (hnm : (fn.name == "runtime.NumGoroutine") = false) (hb : fn.body = some c)
  (he : entry tab fn.ntmps args = some (σ, ds)) (hds : (idsOf ds).Nodup ∧ ds.length = (acells args).length) (h : ∀ F : Fr, F.P = P → (∀ i v, F.anc i = some v → i ∈ idsOf ds) → Run F σ c (endQ (EndL P tab fn.results.toList ds outs res))) : AC P f args outs res := by
 refine ⟨⟨fn, hf, hnm, by simp [hb]⟩, ?_⟩
 intro w K S φ vs us hKS hS hφ htb has hcr
 have hrel := qTN ht he hKS hS hφ htb has hcr
 refine calls_of_wp hf hb (Code.wp_mono (fun e a' w' hq => ?_) (h _ rfl (fun i v hi => qmH hi) _ _ hrel))
 obtain ⟨σ', hq, K', hK, S', G, φ', hr⟩ := hq
 have key : EndL P tab fn.results.toList ds outs res σ' → a'.defers = [] ∧ ∃ v, (results fn a'.tmps).run P w' = .ok v w' ∧ ∃ rs us' φ' K', Ending.returned v = .returned (tup rs) ∧ AS res rs us' ∧ CR P w' K' K' (acells outs ++ acells res) (us ++ us') φ' ∧ (∀ b, φ' b → b < w'.heap.size ∧ ¬ K' b ∧ (φ b ∨ w.heap.size ≤ b)) ∧ Kept w w' φ ∧ Sub K K' ∧ (∀ b, K' b → K b ∨ (b < w'.heap.size ∧ (φ b ∨ w.heap.size ≤ b))) := by
  rintro ⟨ts, as, hE, hlt, hla⟩
  refine ⟨hr.defs, ?_⟩
  unfold finish at hE
  split at hE
  · simp at hE
  ·
   rename_i vs' hvs
   split at hE
   · simp at hE
   rename_i ts' l hout
   split at hE
   · simp at hE
   rename_i as' ds' hown
   split at hE
   ·
    rename_i hnd
    simp only [Option.some.injEq, Prod.mk.injEq] at hE
    obtain ⟨rfl, rfl⟩ := hE
    have hnd := qoC _ hnd
    obtain ⟨rs, h1, h2⟩ := qHI hr ht hvs
    obtain ⟨us', s1, c1⟩ := qKH hr K' h2 hown (List.nodup_append.1 hnd).2.1
    have hal := qII (G := G) (by rw [hcr.len, hds.2]) hds.1 hr.anc
    have c2 := qEE hr hout hal hcr.one (List.nodup_append.1 hnd).1
    refine ⟨_, qUN h1, rs, us', Of φ' (l ++ idsOf ds'), K', rfl, hla.AS s1, (hlt _ _ _ _ _ (fun _ h => h) c2).join (hla.cells _ _ _ _ _ (fun _ h => h) c1) (qOO hr.dj hnd) qiD.1 qiD.2, ?_, hr.kept, hK.1, fun b hb => (hK.2 b hb).imp (fun h => h) fun h => ⟨hr.Slt b (hr.KS b hb), h.symm⟩⟩
    rintro b ⟨i, _, hb⟩
    obtain ⟨h1, h2, h3⟩ := hr.own i b hb
    exact ⟨h1, fun h => h2 (hr.KS b h), h3.symm⟩
   simp at hE
 cases e with
 | normal => exact key hq
 | ret => exact key hq
 | _ => exact hq.elim
variable {F : Fr} {a : Act} {w : World} {S : Nat → Prop} {G : Gh} {φ : Nat → Nat → Prop} {tab : List (Nat × Ty)}
theorem Weak.refl {σ : St} : Weak F σ σ := fun _ _ h => h
theorem Weak.trans {σ τ υ : St} (h : Weak F σ τ) (k : Weak F τ υ) : Weak F σ υ := fun a w hr => k a w (h a w hr)
theorem WeakS.row {n nx : Nat} {env : List (Nat × V)} {objs : List (Nat × O)} (id : Nat) {ver e sz : Nat} {rows : Rws} (rows' : Rws) (ho : look .dead objs id = .row ver e sz rows) (hle : RLe F.P rows rows') :
  WeakS F ⟨n, nx, env, objs⟩ ⟨n, nx, env, (id, .row (ver + 1) e sz rows') :: objs⟩ := by
 rintro a w ⟨S, G, φ, hr⟩
 have hno : G.κ id (ver + 1) = none := by
  cases hk : G.κ id (ver + 1) with
  | none => rfl
  | some x => have := (hr.kd id (ver + 1) x hk).2 _ _ _ _ ho; omega
 obtain ⟨hid, hsz, hGs, us, hk, hrs, hown, ψ, hb, hψ, hcr⟩ := hr.row ho
 let G' : Gh := ⟨G.dom, G.β, G.sz, fun i v => if i = id ∧ v = ver + 1 then some (rows', us) else G.κ i v⟩
 have hle' : G.le G' := ⟨fun _ h => h, fun _ _ => rfl, fun _ _ => rfl, fun i v x hx => by
  show (if i = id ∧ v = ver + 1 then some (rows', us) else G.κ i v) = some x
  split
  ·
   rename_i h
   obtain ⟨rfl, rfl⟩ := h
   rw [hno] at hx
   simp at hx
  · exact hx⟩
 have hnew : OR F.P w F.K S G' (φ id) id (.row (ver + 1) e sz rows') := by
  refine ⟨hid, hsz, hGs, us, ?_, hle.row hrs, ?_, ψ, hb, hψ, hle.flat _ _ _ _ _ (fun _ h => h) hcr⟩
  ·
   show (if id = id ∧ ver + 1 = ver + 1 then some (rows', us) else _) = _
   rw [if_pos ⟨rfl, rfl⟩]
  · rw [← hle.len]; exact hown
 refine ⟨S, G', φ, fun i hi => ?_, fun i v x hx => ?_, hr.n, hr.KS, hr.Slt, fun t => (hr.env t).move (fun _ _ => rfl) (fun _ _ => rfl) hle', fun i => ?_, hr.dj, hr.own, hr.kept, hr.defs, hr.anc⟩
 ·
  rcases hr.nx i hi with h | h
  · exact .inl h
  · exact .inr ((qY _ _ _ _).2 (.inr h))
 ·
  have hx' : (if i = id ∧ v = ver + 1 then some (rows', us) else G.κ i v) = some x := hx
  show G.dom i ∧ _
  split at hx'
  ·
   rename_i h
   obtain ⟨rfl, rfl⟩ := h
   refine ⟨hid, fun ver' e' sz' r' hl => ?_⟩
   rw [qL, if_pos rfl] at hl
   simp only [O.row.injEq] at hl
   omega
  ·
   refine ⟨(hr.kd i v x hx').1, fun ver' e' sz' r' hl => ?_⟩
   rw [qL] at hl
   split at hl
   ·
    rename_i h
    subst h
    have := (hr.kd _ v x hx').2 _ _ _ _ ho
    simp only [O.row.injEq] at hl
    omega
   exact (hr.kd i v x hx').2 _ _ _ _ hl
 ·
  show OR F.P w F.K S G' (φ i) i (look .dead ((id, .row (ver + 1) e sz rows') :: objs) i)
  rw [qL]
  split
  · rename_i h; subst h; exact hnew
  exact (hr.obj i).move (fun _ _ => rfl) (fun _ _ => rfl) (fun _ _ => rfl) hle'
theorem Weak.row {n nx : Nat} {env : List (Nat × V)} {objs : List (Nat × O)} (id : Nat) {ver e sz : Nat} {rows : Rws} (rows' : Rws) (ho : look .dead objs id = .row ver e sz rows) (hle : RLe F.P rows rows') :
  Weak F ⟨n, nx, env, objs⟩ ⟨n, nx, env, (id, .row (ver + 1) e sz rows') :: objs⟩ := Weak.up fun K => WeakS.row (F := F.up K) id rows' ho hle
theorem Run.row {c : Code} {Q : Exit → St → Prop} {n nx : Nat} {env : List (Nat × V)} {objs : List (Nat × O)} (id : Nat) {ver e sz : Nat} {rows : Rws} (rows' : Rws) (ho : look .dead objs id = .row ver e sz rows) (hle : RLe F.P rows rows')
  (h : Run F ⟨n, nx, env, (id, .row (ver + 1) e sz rows') :: objs⟩ c Q) : Run F ⟨n, nx, env, objs⟩ c Q := h.weak (Weak.row id rows' ho hle)
theorem Weak.fresh {n nx : Nat} {env : List (Nat × V)} {objs : List (Nat × O)} (ht : TabOk F.P tab) (id e : Nat) {ty : Ty} (hty : getTy tab e = some ty) (hf : freshB nx objs id = true) {a : Act} {w : World} {S : Nat → Prop} {G : Gh} {φ : Nat → Nat → Prop}
  (hr : Rel0 F ⟨n, nx, env, objs⟩ a w S G φ) : ∃ G', G.le G' ∧ G'.dom id ∧ G'.β id = .slice none 0 0 ∧ Rel0 F ⟨n, nx, env, (id, .row 0 e ty.size []) :: objs⟩ a w S G' (fun i b => if i = id then False else φ i b) := by
 have hid : ¬ G.dom id := qoE hr hf
 have hk : G.le (G.add id (.slice none 0 0) ty.size (some ([], []))) := Gh.le_add hid (fun v x hx => (hr.kd id v x hx).1) _ _ _
 have := hr.new (w' := w) (τ := no) (Kept.refl w _) hid (ds := []) (v := .slice none 0 0) (sz := ty.size) (k := some ([], [])) (o := .row 0 e ty.size []) (fun _ h => h.elim)
  (by
   refine ⟨.inr rfl, (qyC (ht e ty hty)).symm, by simp [Gh.add], [], by simp [Gh.add], by simp, by simpa [Gh.add] using World.ownsRow_nil w 0 e ty.size, no, ?_, fun _ h => h.elim, .nil⟩
   intro b hb
   simp [Gh.add, Value.ownBlock] at hb) (by simp)
 refine ⟨_, hk, .inr rfl, by simp [Gh.add], ?_⟩
 have hφ : (fun i b => if i = id then (∃ d ∈ ([] : List Nat), φ d b) ∨ (w.heap.size ≤ b ∧ b < w.heap.size) else if i ∈ ([] : List Nat) then False else φ i b) = (fun i b => if i = id then False else φ i b) := by
  funext i b
  by_cases h : i = id
  ·
   simp only [if_pos h]
   apply propext
   constructor
   ·
    rintro (⟨d, hd, _⟩ | ⟨h1, h2⟩)
    · simp at hd
    omega
   exact fun h => h.elim
  · simp [h]
 rw [hφ] at this
 simpa [deads] using this
theorem WeakS.nilB {n nx : Nat} {env : List (Nat × V)} {objs : List (Nat × O)} (ht : TabOk F.P tab) (b j id e : Nat) {ty : Ty} (hty : getTy tab e = some ty) (hf : freshB nx objs id = true) {eb : Nat} {l r : List V} (hb : look .dead objs b = .box eb (l ++ .t (.s (.slice none 0 0)) :: r)) (hbi : nq b id = false) :
  WeakS F ⟨n, nx, env, objs⟩ ⟨n, nx, env, (b, .box eb (l ++ .rf id :: r)) :: (id, .row 0 e ty.size []) :: objs⟩ := by
 rintro a w ⟨S, G, φ, hr⟩
 have hne : b ≠ id := by rintro rfl; simp [qGG] at hbi
 obtain ⟨G', hle, hd, hβ, h⟩ := Weak.fresh ht id e hty hf hr
 have hob := h.obj b
 have hlk : look .dead ((id, O.row 0 e ty.size []) :: objs) b = .box eb (l ++ .t (.s (.slice none 0 0)) :: r) := by rw [qL, if_neg hne, hb]
 have hob' : OR F.P w F.K S G' (if b = id then no else φ b) b (.box eb (l ++ .rf id :: r)) := by
  rw [if_neg hne]
  have hob2 : OR F.P w F.K S G' (φ b) b (.box eb (l ++ .t (.s (.slice none 0 0)) :: r)) := by
   have h3 := hob
   simp only at h3
   rw [hlk] at h3
   rw [show (fun b_1 => if b = id then False else φ b b_1) = φ b from by funext x; rw [if_neg hne]] at h3
   exact h3
  obtain ⟨h1, g, us, h2, h3, h4, h5⟩ := hob2
  obtain ⟨ua, ub, rfl, h6, h7⟩ := h5.unappend
  obtain ⟨u, us', rfl, h8, h9⟩ := h7.uncons
  refine ⟨h1, g, _, h2, h3, h4, h6.append (.cons ?_ h9)⟩
  cases h8 with
  | t hx _ => cases hx; exact .rf hd hβ.symm rfl .nil
 refine ⟨S, G', fun i b => if i = id then False else φ i b, fun i hi => ?_, fun i v x hx => ⟨(h.kd i v x hx).1, fun ver e' sz rows hl => ?_⟩, h.n, h.KS, h.Slt, h.env, fun i => ?_, h.dj, h.own, h.kept, h.defs, h.anc⟩
 ·
  rcases h.nx i hi with h | h
  · exact .inl h
  · exact .inr ((qY _ _ _ _).2 (.inr h))
 ·
  rw [qL] at hl
  split at hl
  · simp at hl
  · exact (h.kd i v x hx).2 _ _ _ _ hl
 ·
  have key : ∀ k : Nat, OR F.P w F.K S G' (fun x => if k = id then False else φ k x) k (look .dead ((b, .box eb (l ++ .rf id :: r)) :: (id, .row 0 e ty.size []) :: objs) k) := by
   intro k
   rw [qL]
   by_cases he : k = b
   ·
    rw [if_pos he, he]
    have h4 : (fun x => if b = id then False else φ b x) = (if b = id then no else φ b) := by
     funext x
     rw [if_neg hne, if_neg hne]
    rw [h4]
    exact hob'
   rw [if_neg he]
   exact h.obj k
  exact key i
theorem Weak.nilB {n nx : Nat} {env : List (Nat × V)} {objs : List (Nat × O)} (ht : TabOk F.P tab) (b j id e : Nat) {ty : Ty} (hty : getTy tab e = some ty) (hf : freshB nx objs id = true) {eb : Nat} {l r : List V} (hb : look .dead objs b = .box eb (l ++ .t (.s (.slice none 0 0)) :: r)) (hbi : nq b id = false) :
  Weak F ⟨n, nx, env, objs⟩ ⟨n, nx, env, (b, .box eb (l ++ .rf id :: r)) :: (id, .row 0 e ty.size []) :: objs⟩ := Weak.up fun K => WeakS.nilB (F := F.up K) ht b j id e hty hf hb hbi
theorem WeakS.tmp {n nx : Nat} {env : List (Nat × V)} {objs : List (Nat × O)} (t : Nat) {x y : T} (hn : look .u env t = .t x) (hle : LLe F.P [x] [y]) : WeakS F ⟨n, nx, env, objs⟩ ⟨n, nx, (t, .t y) :: env, objs⟩ := by
 rintro a w ⟨S, G, φ, hr⟩
 refine ⟨S, G, φ, hr.nx, hr.kd, hr.n, hr.KS, hr.Slt, fun t' => ?_, hr.obj, hr.dj, hr.own, hr.kept, hr.defs, hr.anc⟩
 show VR F.P w F.K S G (look .u ((t, .t y) :: env) t') _
 rw [qL]
 split
 ·
  rename_i he
  subst he
  have h2 : VR F.P w F.K S G (.t x) (a.tmps.getD t' undef) := by rw [← hn]; exact hr.env t'
  generalize a.tmps.getD t' undef = u at h2 ⊢
  cases h2 with
  | t hx _ => exact .t (hle _ _ _ _ _ hr.KS hx) .nil
 exact hr.env t'
theorem Weak.tmp {n nx : Nat} {env : List (Nat × V)} {objs : List (Nat × O)} (t : Nat) {x y : T} (hn : look .u env t = .t x) (hle : LLe F.P [x] [y]) : Weak F ⟨n, nx, env, objs⟩ ⟨n, nx, (t, .t y) :: env, objs⟩ := Weak.up fun K => WeakS.tmp (F := F.up K) t hn hle
theorem WeakS.fnT {n nx : Nat} {env : List (Nat × V)} {objs : List (Nat × O)} (t : Nat) {g : FuncId} {ts : List T} (hn : look .u env t = .t (.fn g ts)) : WeakS F ⟨n, nx, env, objs⟩ ⟨n, nx, (t, .fn g (ts.map .t)) :: env, objs⟩ := by
 rintro a w ⟨S, G, φ, hr⟩
 refine ⟨S, G, φ, hr.nx, hr.kd, hr.n, hr.KS, hr.Slt, fun t' => ?_, hr.obj, hr.dj, hr.own, hr.kept, hr.defs, hr.anc⟩
 show VR F.P w F.K S G (look .u ((t, .fn g (ts.map .t)) :: env) t') _
 rw [qL]
 split
 ·
  rename_i he
  subst he
  have h2 : VR F.P w F.K S G (.t (.fn g ts)) (a.tmps.getD t' undef) := by rw [← hn]; exact hr.env t'
  generalize a.tmps.getD t' undef = u at h2 ⊢
  cases h2 with
  | t hx _ =>
   cases hx with
   | fn vs h1 h2 =>
    cases h2
    exact .fn (VRs.of_CR h1) .nil
 exact hr.env t'
theorem Weak.fnT {n nx : Nat} {env : List (Nat × V)} {objs : List (Nat × O)} (t : Nat) {g : FuncId} {ts : List T} (hn : look .u env t = .t (.fn g ts)) : Weak F ⟨n, nx, env, objs⟩ ⟨n, nx, (t, .fn g (ts.map .t)) :: env, objs⟩ := Weak.up fun K => WeakS.fnT (F := F.up K) t hn
theorem LLe.ip {P : Program} {a b : List T} (hl : a.length = b.length) (h : LLe P a b) : LLe P [.ip a] [.ip b] := by
 intro w K S us φ hKS c
 cases c with
 | ip vs hS hA hr h0 => cases h0; exact .ip vs (fun hp => hS (by omega)) hA (h _ _ _ _ _ hKS hr) .nil
theorem LLe.fn {P : Program} {g : FuncId} {a b : List T} (h : LLe P a b) : LLe P [.fn g a] [.fn g b] := by
 intro w K S us φ hKS c
 cases c with
 | fn vs hr h0 => cases h0; exact .fn vs (h _ _ _ _ _ hKS hr) .nil
end Go.Proofs.YtcpekllcbimpmaaGreatDoor.L
namespace Go.Proofs.YtcpekllcbimpmaaGreatDoor.L
set_option linter.unusedVariables false
set_option linter.unusedSimpArgs false
open Go
def lenI {α : Type} (l : List α) : Int := l.length
def getO {α : Type} (l : List α) (i : Int) : Option α := if 0 ≤ i then l[i.toNat]? else none
def setI {α : Type} (l : List α) (i : Int) (x : α) : List α := l.set i.toNat x
def appO {α : Type} (b : Nat) (l m : List α) : Option (List α) := if ((l.length : Int) + m.length) * b ≤ 140737488355328 ∧ (l.length : Int) + m.length ≤ 140737488355328 then some (l ++ m) else none
def mkO {α : Type} (b : Nat) (n : Int) (z : α) : Option (List α) := if 0 ≤ n ∧ n * b ≤ 140737488355328 ∧ n ≤ 140737488355328 then some (List.replicate n.toNat z) else none
def cutO {α : Type} (l : List α) (lo hi : Int) : Option (List α) := if 0 ≤ lo ∧ lo ≤ hi ∧ hi ≤ l.length then some ((l.take hi.toNat).drop lo.toNat) else none
def nzO (x : Int) : Option Unit := if x ≠ 0 then some () else none
def gd {α : Type} [Inhabited α] (b : Bool) (e : Option α) : Option α := bif b then e else some default
def bo3 (c x y : Bool) : Bool := if c then x else y
abbrev w64 (x : Int) : Int := IntKind.i64.wrap x
def joinK {κ R : Type} (K : κ) (f : κ → Option R) : Option R := f K
theorem hq {p : Prop} {r : List Prop} (h : p) (t : AllP r) : AllP (p :: r) := ⟨h, t⟩
theorem hq0 : AllP [] := trivial
theorem bnd {α β : Type} {x : Option α} {f : α → Option β} {r : β} (h : x.bind f = some r) : ∃ a, x = some a ∧ f a = some r := by
 cases x with
 | none => cases h
 | some a => exact ⟨a, rfl, h⟩
theorem if_t {α : Type} {b : Bool} {x y : Option α} {r : α} (hb : b = true) (h : cond b x y = some r) : x = some r := by subst hb; exact h
theorem if_f {α : Type} {b : Bool} {x y : Option α} {r : α} (hb : b = false) (h : cond b x y = some r) : y = some r := by subst hb; exact h
theorem joinE {κ R : Type} {K : κ} {f : κ → Option R} {r : R} (h : joinK K f = some r) : ∃ K', K' = K ∧ f K' = some r := ⟨K, rfl, h⟩
theorem gd_t {α : Type} [Inhabited α] {b : Bool} {e : Option α} {x : α} (h : gd b e = some x) (hb : b = true) : e = some x := by subst hb; exact h
theorem bo_a {c x : Bool} (h : c = true) (k : x = true) : bo3 c x false = true := by simp_all [bo3]
theorem bo_m {x : Bool} (h : x = false) : bo3 x false true = true := by simp_all [bo3]
variable {α : Type} {f : α → List T} {l m r : List α} {x y z : α} {i n lo hi : Int} {b : Nat}
theorem qdN (h : getO l i = some x) : 0 ≤ i ∧ l[i.toNat]? = some x := by
 unfold getO at h
 split at h
 · exact ⟨‹_›, h⟩
 cases h
theorem qoB (h : getO l i = some x) : Ls.le 0 i := (qdN h).1
theorem qqB (h : getO l i = some x) : Ls.lt i (Ls.ln (rowsOf f l)) := by
 obtain ⟨h0, h1⟩ := qdN h
 have := (List.getElem?_eq_some_iff.1 h1).1
 show i < ((rowsOf f l).length : Int)
 rw [rowsOf_len]
 omega
theorem qdC (h : getO l i = some x) : Ls.ge (rowsOf f l) i = f x := qKQ (qdN h).2
theorem ln_eq (f : α → List T) (l : List α) : Ls.ln (rowsOf f l) = lenI l := by show ((rowsOf f l).length : Int) = l.length; rw [rowsOf_len]
theorem qMU (h : appO b l m = some r) : r = l ++ m := by
 unfold appO at h
 split at h
 · exact (Option.some.inj h).symm
 cases h
theorem qNU {a c : Rws} (ha : a.length = l.length) (hc : c.length = m.length) (h : appO b l m = some r) : Ls.ma a c b := by
 unfold appO at h
 split at h
 ·
  rename_i hh
  show ((a.length : Int) + c.length) * b ≤ 140737488355328 ∧ (a.length : Int) + c.length ≤ 140737488355328
  rw [ha, hc]; exact hh
 cases h
theorem qdB {P : Program} {a c : Rws} (ha : RLe P a (rowsOf f l)) (hc : RLe P c (rowsOf f m)) (h : appO b l m = some r) : RLe P (Ls.ap a c) (rowsOf f r) := by
 rw [qMU h, qJP]; exact ha.app hc
theorem mk_eq (h : mkO b n z = some l) : l = List.replicate n.toNat z ∧ 0 ≤ n ∧ n * b ≤ 140737488355328 ∧ n ≤ 140737488355328 := by
 unfold mkO at h
 split at h
 · exact ⟨(Option.some.inj h).symm, ‹_›⟩
 cases h
theorem mk_0 (h : mkO b n z = some l) : Ls.le 0 n := (mk_eq h).2.1
theorem mk_mm (h : mkO b n z = some l) : Ls.mm n b := (mk_eq h).2.2
theorem mk_le {P : Program} {c : List T} (hl : c.length = (f z).length) (hc : LLe P c (f z)) (h : mkO b n z = some l) : RLe P (Ls.rp n c) (rowsOf f l) := by
 rw [(mk_eq h).1, qIP]; exact RLe.rep hl hc _
theorem qxB {g : α → List T} (hf : ∀ x, fzL (f x) = g x) (l : List α) : Ls.fr (rowsOf f l) = rowsOf g l := by
 show fzR _ = _
 rw [qtH, rowsOf, List.map_map]
 exact List.map_congr_left fun x _ => hf x
theorem nz_t {u : Unit} (h : nzO n = some u) : Ls.nz n := by
 unfold nzO at h
 split at h
 · rename_i hn; exact hn
 cases h
theorem qiB {P : Program} {a c : Rws} (ha : RLe P a (rowsOf f l)) (hc : RLe P c (rowsOf f m)) (h : appO b l m = some r) : Ls.ma a c b :=
 qNU (ha.len.trans (rowsOf_len _ _)) (hc.len.trans (rowsOf_len _ _)) h
theorem qU {P : Program} {a : Rws} (h : some m = some l) (hl : RLe P a (rowsOf f m)) : RLe P a (rowsOf f l) := by cases h; exact hl
theorem qlT {g : α → List T} (hf : ∀ x, fzL (f x) = g x) (l : List α) : fzR (rowsOf f l) = rowsOf g l := qxB hf l
variable {F : Fr} {σ : St} {c d : Code} {Q : Exit → St → Prop}
theorem Run.loop1 {α0 R : Type} {f : Nat → α0 → Option R} {r : R} (I : α0 → St) {k : Nat} {x0} (h : f k x0 = some r) (h0 : Weak F σ (I x0)) (hz : ∀ x0, f 0 x0 = none)
  (hr : ∀ k x0, f (k + 1) x0 = some r → Run F (I x0) c (thenQ (fun σ' => ∃ y0, f k y0 = some r ∧ Weak F σ' (I y0)) Q)) : Run F σ (.loop c) Q :=
 Run.loop (α := Nat × α0) (fun q => (fun p : α0 => I p) q.2) (fun q => (fun p : α0 => f q.1 p = some r) q.2) (fun q => q.1) (k, x0) h0 h (by
  rintro ⟨k, p⟩ hk
  cases k with
  | zero => rw [show f 0 p = none from hz _] at hk; cases hk
  | succ k => exact (hr k _ hk).mono fun e σ' => by cases e <;> first | exact fun h => h | (rintro ⟨y0, h1, h2⟩; exact ⟨(k, y0), Nat.lt_succ_self k, h1, h2⟩))
theorem Run.join1 {α0 R : Type} (f : α0 → Option R) {r : R} (J : α0 → St) (hx : Run F σ c (thenQ (fun σ' => ∃ y0, f y0 = some r ∧ Weak F σ' (J y0)) Q)) (hy : ∀ y0, f y0 = some r → Run F (J y0) d Q) : Run F σ (.seq c d) Q :=
 Run.seq (hx.mono fun e σ' => by cases e <;> first | exact fun h => h | (rintro ⟨y0, h1, h2⟩; exact (hy _ h1).weak h2))
theorem Run.loop2 {α0 α1 R : Type} {f : Nat → α0 → α1 → Option R} {r : R} (I : α0 → α1 → St) {k : Nat} {x0 x1} (h : f k x0 x1 = some r) (h0 : Weak F σ (I x0 x1)) (hz : ∀ x0 x1, f 0 x0 x1 = none)
  (hr : ∀ k x0 x1, f (k + 1) x0 x1 = some r → Run F (I x0 x1) c (thenQ (fun σ' => ∃ y0 y1, f k y0 y1 = some r ∧ Weak F σ' (I y0 y1)) Q)) : Run F σ (.loop c) Q :=
 Run.loop (α := Nat × α0 × α1) (fun q => (fun p : α0 × α1 => I p.1 p.2) q.2) (fun q => (fun p : α0 × α1 => f q.1 p.1 p.2 = some r) q.2) (fun q => q.1) (k, (x0, x1)) h0 h (by
  rintro ⟨k, p⟩ hk
  cases k with
  | zero => rw [show f 0 p.1 p.2 = none from hz _ _] at hk; cases hk
  | succ k => exact (hr k _ _ hk).mono fun e σ' => by cases e <;> first | exact fun h => h | (rintro ⟨y0, y1, h1, h2⟩; exact ⟨(k, (y0, y1)), Nat.lt_succ_self k, h1, h2⟩))
theorem Run.join2 {α0 α1 R : Type} (f : α0 → α1 → Option R) {r : R} (J : α0 → α1 → St) (hx : Run F σ c (thenQ (fun σ' => ∃ y0 y1, f y0 y1 = some r ∧ Weak F σ' (J y0 y1)) Q)) (hy : ∀ y0 y1, f y0 y1 = some r → Run F (J y0 y1) d Q) : Run F σ (.seq c d) Q :=
 Run.seq (hx.mono fun e σ' => by cases e <;> first | exact fun h => h | (rintro ⟨y0, y1, h1, h2⟩; exact (hy _ _ h1).weak h2))
theorem Run.loop3 {α0 α1 α2 R : Type} {f : Nat → α0 → α1 → α2 → Option R} {r : R} (I : α0 → α1 → α2 → St) {k : Nat} {x0 x1 x2} (h : f k x0 x1 x2 = some r) (h0 : Weak F σ (I x0 x1 x2)) (hz : ∀ x0 x1 x2, f 0 x0 x1 x2 = none)
  (hr : ∀ k x0 x1 x2, f (k + 1) x0 x1 x2 = some r → Run F (I x0 x1 x2) c (thenQ (fun σ' => ∃ y0 y1 y2, f k y0 y1 y2 = some r ∧ Weak F σ' (I y0 y1 y2)) Q)) : Run F σ (.loop c) Q :=
 Run.loop (α := Nat × α0 × α1 × α2) (fun q => (fun p : α0 × α1 × α2 => I p.1 p.2.1 p.2.2) q.2) (fun q => (fun p : α0 × α1 × α2 => f q.1 p.1 p.2.1 p.2.2 = some r) q.2) (fun q => q.1) (k, (x0, x1, x2)) h0 h (by
  rintro ⟨k, p⟩ hk
  cases k with
  | zero => rw [show f 0 p.1 p.2.1 p.2.2 = none from hz _ _ _] at hk; cases hk
  | succ k => exact (hr k _ _ _ hk).mono fun e σ' => by cases e <;> first | exact fun h => h | (rintro ⟨y0, y1, y2, h1, h2⟩; exact ⟨(k, (y0, y1, y2)), Nat.lt_succ_self k, h1, h2⟩))
theorem Run.join3 {α0 α1 α2 R : Type} (f : α0 → α1 → α2 → Option R) {r : R} (J : α0 → α1 → α2 → St) (hx : Run F σ c (thenQ (fun σ' => ∃ y0 y1 y2, f y0 y1 y2 = some r ∧ Weak F σ' (J y0 y1 y2)) Q)) (hy : ∀ y0 y1 y2, f y0 y1 y2 = some r → Run F (J y0 y1 y2) d Q) : Run F σ (.seq c d) Q :=
 Run.seq (hx.mono fun e σ' => by cases e <;> first | exact fun h => h | (rintro ⟨y0, y1, y2, h1, h2⟩; exact (hy _ _ _ h1).weak h2))
theorem Run.loop4 {α0 α1 α2 α3 R : Type} {f : Nat → α0 → α1 → α2 → α3 → Option R} {r : R} (I : α0 → α1 → α2 → α3 → St) {k : Nat} {x0 x1 x2 x3} (h : f k x0 x1 x2 x3 = some r) (h0 : Weak F σ (I x0 x1 x2 x3)) (hz : ∀ x0 x1 x2 x3, f 0 x0 x1 x2 x3 = none)
  (hr : ∀ k x0 x1 x2 x3, f (k + 1) x0 x1 x2 x3 = some r → Run F (I x0 x1 x2 x3) c (thenQ (fun σ' => ∃ y0 y1 y2 y3, f k y0 y1 y2 y3 = some r ∧ Weak F σ' (I y0 y1 y2 y3)) Q)) : Run F σ (.loop c) Q :=
 Run.loop (α := Nat × α0 × α1 × α2 × α3) (fun q => (fun p : α0 × α1 × α2 × α3 => I p.1 p.2.1 p.2.2.1 p.2.2.2) q.2) (fun q => (fun p : α0 × α1 × α2 × α3 => f q.1 p.1 p.2.1 p.2.2.1 p.2.2.2 = some r) q.2) (fun q => q.1) (k, (x0, x1, x2, x3)) h0 h (by
  rintro ⟨k, p⟩ hk
  cases k with
  | zero => rw [show f 0 p.1 p.2.1 p.2.2.1 p.2.2.2 = none from hz _ _ _ _] at hk; cases hk
  | succ k => exact (hr k _ _ _ _ hk).mono fun e σ' => by cases e <;> first | exact fun h => h | (rintro ⟨y0, y1, y2, y3, h1, h2⟩; exact ⟨(k, (y0, y1, y2, y3)), Nat.lt_succ_self k, h1, h2⟩))
theorem Run.join4 {α0 α1 α2 α3 R : Type} (f : α0 → α1 → α2 → α3 → Option R) {r : R} (J : α0 → α1 → α2 → α3 → St) (hx : Run F σ c (thenQ (fun σ' => ∃ y0 y1 y2 y3, f y0 y1 y2 y3 = some r ∧ Weak F σ' (J y0 y1 y2 y3)) Q)) (hy : ∀ y0 y1 y2 y3, f y0 y1 y2 y3 = some r → Run F (J y0 y1 y2 y3) d Q) : Run F σ (.seq c d) Q :=
 Run.seq (hx.mono fun e σ' => by cases e <;> first | exact fun h => h | (rintro ⟨y0, y1, y2, y3, h1, h2⟩; exact (hy _ _ _ _ h1).weak h2))
theorem Run.loop5 {α0 α1 α2 α3 α4 R : Type} {f : Nat → α0 → α1 → α2 → α3 → α4 → Option R} {r : R} (I : α0 → α1 → α2 → α3 → α4 → St) {k : Nat} {x0 x1 x2 x3 x4} (h : f k x0 x1 x2 x3 x4 = some r) (h0 : Weak F σ (I x0 x1 x2 x3 x4)) (hz : ∀ x0 x1 x2 x3 x4, f 0 x0 x1 x2 x3 x4 = none)
  (hr : ∀ k x0 x1 x2 x3 x4, f (k + 1) x0 x1 x2 x3 x4 = some r → Run F (I x0 x1 x2 x3 x4) c (thenQ (fun σ' => ∃ y0 y1 y2 y3 y4, f k y0 y1 y2 y3 y4 = some r ∧ Weak F σ' (I y0 y1 y2 y3 y4)) Q)) : Run F σ (.loop c) Q :=
 Run.loop (α := Nat × α0 × α1 × α2 × α3 × α4) (fun q => (fun p : α0 × α1 × α2 × α3 × α4 => I p.1 p.2.1 p.2.2.1 p.2.2.2.1 p.2.2.2.2) q.2) (fun q => (fun p : α0 × α1 × α2 × α3 × α4 => f q.1 p.1 p.2.1 p.2.2.1 p.2.2.2.1 p.2.2.2.2 = some r) q.2) (fun q => q.1) (k, (x0, x1, x2, x3, x4)) h0 h (by
  rintro ⟨k, p⟩ hk
  cases k with
  | zero => rw [show f 0 p.1 p.2.1 p.2.2.1 p.2.2.2.1 p.2.2.2.2 = none from hz _ _ _ _ _] at hk; cases hk
  | succ k => exact (hr k _ _ _ _ _ hk).mono fun e σ' => by cases e <;> first | exact fun h => h | (rintro ⟨y0, y1, y2, y3, y4, h1, h2⟩; exact ⟨(k, (y0, y1, y2, y3, y4)), Nat.lt_succ_self k, h1, h2⟩))
theorem Run.join5 {α0 α1 α2 α3 α4 R : Type} (f : α0 → α1 → α2 → α3 → α4 → Option R) {r : R} (J : α0 → α1 → α2 → α3 → α4 → St) (hx : Run F σ c (thenQ (fun σ' => ∃ y0 y1 y2 y3 y4, f y0 y1 y2 y3 y4 = some r ∧ Weak F σ' (J y0 y1 y2 y3 y4)) Q)) (hy : ∀ y0 y1 y2 y3 y4, f y0 y1 y2 y3 y4 = some r → Run F (J y0 y1 y2 y3 y4) d Q) : Run F σ (.seq c d) Q :=
 Run.seq (hx.mono fun e σ' => by cases e <;> first | exact fun h => h | (rintro ⟨y0, y1, y2, y3, y4, h1, h2⟩; exact (hy _ _ _ _ _ h1).weak h2))
theorem Run.loop6 {α0 α1 α2 α3 α4 α5 R : Type} {f : Nat → α0 → α1 → α2 → α3 → α4 → α5 → Option R} {r : R} (I : α0 → α1 → α2 → α3 → α4 → α5 → St) {k : Nat} {x0 x1 x2 x3 x4 x5} (h : f k x0 x1 x2 x3 x4 x5 = some r) (h0 : Weak F σ (I x0 x1 x2 x3 x4 x5)) (hz : ∀ x0 x1 x2 x3 x4 x5, f 0 x0 x1 x2 x3 x4 x5 = none)
  (hr : ∀ k x0 x1 x2 x3 x4 x5, f (k + 1) x0 x1 x2 x3 x4 x5 = some r → Run F (I x0 x1 x2 x3 x4 x5) c (thenQ (fun σ' => ∃ y0 y1 y2 y3 y4 y5, f k y0 y1 y2 y3 y4 y5 = some r ∧ Weak F σ' (I y0 y1 y2 y3 y4 y5)) Q)) : Run F σ (.loop c) Q :=
 Run.loop (α := Nat × α0 × α1 × α2 × α3 × α4 × α5) (fun q => (fun p : α0 × α1 × α2 × α3 × α4 × α5 => I p.1 p.2.1 p.2.2.1 p.2.2.2.1 p.2.2.2.2.1 p.2.2.2.2.2) q.2) (fun q => (fun p : α0 × α1 × α2 × α3 × α4 × α5 => f q.1 p.1 p.2.1 p.2.2.1 p.2.2.2.1 p.2.2.2.2.1 p.2.2.2.2.2 = some r) q.2) (fun q => q.1) (k, (x0, x1, x2, x3, x4, x5)) h0 h (by
  rintro ⟨k, p⟩ hk
  cases k with
  | zero => rw [show f 0 p.1 p.2.1 p.2.2.1 p.2.2.2.1 p.2.2.2.2.1 p.2.2.2.2.2 = none from hz _ _ _ _ _ _] at hk; cases hk
  | succ k => exact (hr k _ _ _ _ _ _ hk).mono fun e σ' => by cases e <;> first | exact fun h => h | (rintro ⟨y0, y1, y2, y3, y4, y5, h1, h2⟩; exact ⟨(k, (y0, y1, y2, y3, y4, y5)), Nat.lt_succ_self k, h1, h2⟩))
theorem Run.join6 {α0 α1 α2 α3 α4 α5 R : Type} (f : α0 → α1 → α2 → α3 → α4 → α5 → Option R) {r : R} (J : α0 → α1 → α2 → α3 → α4 → α5 → St) (hx : Run F σ c (thenQ (fun σ' => ∃ y0 y1 y2 y3 y4 y5, f y0 y1 y2 y3 y4 y5 = some r ∧ Weak F σ' (J y0 y1 y2 y3 y4 y5)) Q)) (hy : ∀ y0 y1 y2 y3 y4 y5, f y0 y1 y2 y3 y4 y5 = some r → Run F (J y0 y1 y2 y3 y4 y5) d Q) : Run F σ (.seq c d) Q :=
 Run.seq (hx.mono fun e σ' => by cases e <;> first | exact fun h => h | (rintro ⟨y0, y1, y2, y3, y4, y5, h1, h2⟩; exact (hy _ _ _ _ _ _ h1).weak h2))
theorem Run.loop8 {α0 α1 α2 α3 α4 α5 α6 α7 R : Type} {f : Nat → α0 → α1 → α2 → α3 → α4 → α5 → α6 → α7 → Option R} {r : R} (I : α0 → α1 → α2 → α3 → α4 → α5 → α6 → α7 → St) {k : Nat} {x0 x1 x2 x3 x4 x5 x6 x7} (h : f k x0 x1 x2 x3 x4 x5 x6 x7 = some r) (h0 : Weak F σ (I x0 x1 x2 x3 x4 x5 x6 x7)) (hz : ∀ x0 x1 x2 x3 x4 x5 x6 x7, f 0 x0 x1 x2 x3 x4 x5 x6 x7 = none)
  (hr : ∀ k x0 x1 x2 x3 x4 x5 x6 x7, f (k + 1) x0 x1 x2 x3 x4 x5 x6 x7 = some r → Run F (I x0 x1 x2 x3 x4 x5 x6 x7) c (thenQ (fun σ' => ∃ y0 y1 y2 y3 y4 y5 y6 y7, f k y0 y1 y2 y3 y4 y5 y6 y7 = some r ∧ Weak F σ' (I y0 y1 y2 y3 y4 y5 y6 y7)) Q)) : Run F σ (.loop c) Q :=
 Run.loop (α := Nat × α0 × α1 × α2 × α3 × α4 × α5 × α6 × α7) (fun q => (fun p : α0 × α1 × α2 × α3 × α4 × α5 × α6 × α7 => I p.1 p.2.1 p.2.2.1 p.2.2.2.1 p.2.2.2.2.1 p.2.2.2.2.2.1 p.2.2.2.2.2.2.1 p.2.2.2.2.2.2.2) q.2) (fun q => (fun p : α0 × α1 × α2 × α3 × α4 × α5 × α6 × α7 => f q.1 p.1 p.2.1 p.2.2.1 p.2.2.2.1 p.2.2.2.2.1 p.2.2.2.2.2.1 p.2.2.2.2.2.2.1 p.2.2.2.2.2.2.2 = some r) q.2) (fun q => q.1) (k, (x0, x1, x2, x3, x4, x5, x6, x7)) h0 h (by
  rintro ⟨k, p⟩ hk
  cases k with
  | zero => rw [show f 0 p.1 p.2.1 p.2.2.1 p.2.2.2.1 p.2.2.2.2.1 p.2.2.2.2.2.1 p.2.2.2.2.2.2.1 p.2.2.2.2.2.2.2 = none from hz _ _ _ _ _ _ _ _] at hk; cases hk
  | succ k => exact (hr k _ _ _ _ _ _ _ _ hk).mono fun e σ' => by cases e <;> first | exact fun h => h | (rintro ⟨y0, y1, y2, y3, y4, y5, y6, y7, h1, h2⟩; exact ⟨(k, (y0, y1, y2, y3, y4, y5, y6, y7)), Nat.lt_succ_self k, h1, h2⟩))
end Go.Proofs.YtcpekllcbimpmaaGreatDoor.L
namespace Go.Proofs.YtcpekllcbimpmaaGreatDoor.L
set_option linter.unusedVariables false
set_option linter.unusedSimpArgs false
open Go
variable {F : Fr} {w : World} {S : Nat → Prop} {G : Gh} {φ : Nat → Nat → Prop} {tab : List (Nat × Ty)}
theorem qqJ {rows : Rws} {i j : Nat} {c : T} (hi : i < rows.length) (hc : (rows.getD i [])[j]? = some c) : rows.flatten = ((rows.take i).flatten ++ (rows.getD i []).take j) ++ c :: ((rows.getD i []).drop (j + 1) ++ (rows.drop (i + 1)).flatten) := by
 have h1 : rows.getD i [] = rows[i] := by rw [List.getD_eq_getElem?_getD, List.getElem?_eq_getElem hi]; rfl
 rw [h1] at hc ⊢
 obtain ⟨hj, hc⟩ := List.getElem?_eq_some_iff.1 hc
 have h2 : rows = rows.take i ++ rows[i] :: rows.drop (i + 1) := by
  rw [← List.drop_eq_getElem_cons hi, List.take_append_drop]
 conv => lhs; rw [h2]
 rw [List.flatten_append, List.flatten_cons]
 have h3 : rows[i] = rows[i].take j ++ c :: rows[i].drop (j + 1) := by
  rw [← hc, ← List.drop_eq_getElem_cons hj, List.take_append_drop]
 conv => lhs; rw [h3]
 simp
theorem qXO {rows : Rws} {i j : Nat} {c d : T} (hi : i < rows.length) (hc : (rows.getD i [])[j]? = some c) : (Ls.up rows (i : Int) j [d]).flatten = ((rows.take i).flatten ++ (rows.getD i []).take j) ++ d :: ((rows.getD i []).drop (j + 1) ++ (rows.drop (i + 1)).flatten) := by
 show (rows.set (i : Int).toNat _).flatten = _
 rw [Int.toNat_natCast, List.set_eq_take_append_cons_drop, if_pos hi]
 simp
theorem qyS {rows : Rws} {i j : Nat} {c d : T} {sz : Nat} (hs : ∀ r ∈ rows, r.length = sz) (hi : i < rows.length) (hc : (rows.getD i [])[j]? = some c) : (Ls.up rows (i : Int) j [d]).length = rows.length ∧ ∀ r ∈ Ls.up rows (i : Int) j [d], r.length = sz := by
 have h1 : rows.getD i [] = rows[i] := by rw [List.getD_eq_getElem?_getD, List.getElem?_eq_getElem hi]; rfl
 have h2 := hs _ (List.getElem_mem hi)
 have hj := (List.getElem?_eq_some_iff.1 hc).1
 constructor
 · show (rows.set _ _).length = _; simp
 intro r hr
 rcases List.mem_or_eq_of_mem_set hr with h | h
 · exact hs r h
 rw [h, Int.toNat_natCast, h1]
 rw [h1] at hj
 simp
 omega
theorem qLQ {rows : Rws} {i j sz : Nat} (hs : ∀ r ∈ rows, r.length = sz) (hi : i < rows.length) (hj : j < sz) : ((rows.take i).flatten ++ (rows.getD i []).take j).length = i * sz + j := by
 have h1 : rows.getD i [] = rows[i] := by rw [List.getD_eq_getElem?_getD, List.getElem?_eq_getElem hi]; rfl
 have h2 := hs _ (List.getElem_mem hi)
 rw [List.length_append, qvB _ (fun r hr => hs r (List.mem_of_mem_take hr)), List.length_take, List.length_take, h1, h2]
 rw [Nat.min_eq_left (by omega), Nat.min_eq_left (by omega)]
theorem qMQ {n nx : Nat} {env : List (Nat × V)} {objs : List (Nat × O)} (ht : TabOk F.P tab) (id : Nat) (i : Int) (j nid gt : Nat) {ver e sz e2 : Nat} {rows r2 : Rws} {ty2 : Ty} (ho : look .dead objs id = .row ver e sz rows) (hty : getTy tab e2 = some ty2) (hf : freshB nx objs nid = true)
  (h0 : 0 ≤ i) (h1 : i < (rows.length : Int)) (hc : (rows.getD i.toNat [])[j]? = some (.ow e2 r2)) (hgt : nl n gt = true)
  (rows' : Rws) (hrows : Ls.up rows i j [.jk] = rows') {a : Act} (hr : Rel0 F ⟨n, nx, env, objs⟩ a w S G φ) :
  ∃ G' φ', Rel0 F ⟨n, nx, (gt, .hl id (ver + 1) i j nid) :: env, (nid, .row 0 e2 ty2.size r2) :: (id, .row (ver + 1) e sz rows') :: objs⟩ a w S G' φ' ∧ G.le G' ∧ ∃ us, G.κ id ver = some (rows, us) ∧ G'.κ id (ver + 1) = some (rows', us) := by
 subst hrows
 obtain ⟨k, rfl⟩ : ∃ k : Nat, i = k := ⟨i.toNat, by omega⟩
 rw [Int.toNat_natCast] at hc
 have hk : k < rows.length := by omega
 have hnid : ¬ G.dom nid := qoE hr hf
 have hne : nid ≠ id := by
  rintro rfl
  exact hnid (hr.row ho).1
 have hno : G.κ id (ver + 1) = none := by
  cases hx : G.κ id (ver + 1) with
  | none => rfl
  | some x => have := (hr.kd id (ver + 1) x hx).2 _ _ _ _ ho; omega
 obtain ⟨hid, hsz, hGs, us, hκ, hrs, hown, ψ, hb, hψ, hcr⟩ := hr.row ho
 have hjs : j < sz := by
  have := hrs _ (List.getElem_mem hk)
  rw [List.getD_eq_getElem?_getD, List.getElem?_eq_getElem hk] at hc
  have := (List.getElem?_eq_some_iff.1 hc).1
  simp only [Option.getD_some] at this
  omega
 have hpos := qLQ hrs hk hjs
 rw [qqJ hk hc] at hcr
 obtain ⟨uA, ub, φA, φb, rfl, hA, hB, hdAB, sA, sB⟩ := CR.split hcr
 cases hB with
 | @ow _ _ φ1 φ2 _ _ u _ uB hs2 vs hown2 ψ2 hb2 hψ2 hr2 hB2 hd12 s1 s2 =>
 have huA : uA.length = k * sz + j := by rw [hA.len, hpos]
 have hκ' := hκ
 have e2sz : ty2.size = F.P.cellsOf e2 := (qyC (ht e2 ty2 hty)).symm
 let G' : Gh := ⟨fun x => G.dom x ∨ x = nid, fun x => if x = nid then u else G.β x, fun x => if x = nid then ty2.size else G.sz x,
  fun x v => if x = nid then (if v = 0 then some (r2, vs) else none) else if x = id ∧ v = ver + 1 then some (Ls.up rows k j [.jk], uA ++ u :: uB) else G.κ x v⟩
 have dne : ∀ {x}, G.dom x → x ≠ nid := by rintro x hx rfl; exact hnid hx
 have hle : G.le G' := by
  refine ⟨fun x h => .inl h, fun x h => ?_, fun x h => ?_, fun x v y h => ?_⟩
  · exact if_neg (dne h)
  · exact if_neg (dne h)
  ·
   show (if x = nid then _ else if x = id ∧ v = ver + 1 then _ else G.κ x v) = some y
   rw [if_neg (dne (hr.kd x v y h).1)]
   rw [if_neg (by rintro ⟨rfl, rfl⟩; rw [hno] at h; cases h)]
   exact h
 have hβid : G'.β id = G.β id := if_neg (fun e => hne e.symm)
 have hszid : G'.sz id = G.sz id := if_neg (fun e => hne e.symm)
 obtain ⟨ul, urs⟩ := qyS (d := .jk) hrs hk hc
 let φ' : Nat → Nat → Prop := fun x b => if x = nid then φ1 b else φ x b ∧ (x = id → ¬ φ1 b)
 have φ1ψ : ∀ b, φ1 b → ψ b := fun b h => sB b (s1 b h)
 have φ1id : ∀ b, φ1 b → φ id b := fun b h => hψ b (φ1ψ b h)
 refine ⟨G', φ', ⟨?_, ?_, hr.n, hr.KS, hr.Slt, ?_, ?_, ?_, ?_, hr.kept, hr.defs, ?_⟩, hle, _, hκ, ?_⟩
 ·
  rintro x (hx | rfl)
  ·
   rcases hr.nx x hx with h | h
   · exact .inl h
   exact .inr ((qY _ _ _ _).2 (.inr ((qY _ _ _ _).2 (.inr h))))
  · exact .inr ((qY _ _ _ _).2 (.inl rfl))
 ·
  intro x v y hx
  have hx' : (if x = nid then (if v = 0 then some (r2, vs) else none) else if x = id ∧ v = ver + 1 then some (Ls.up rows k j [.jk], uA ++ u :: uB) else G.κ x v) = some y := hx
  by_cases hxn : x = nid
  ·
   rw [if_pos hxn] at hx'
   refine ⟨.inr hxn, fun ver' e' sz' r' hl => ?_⟩
   by_cases hv : v = 0
   · omega
   rw [if_neg hv] at hx'; cases hx'
  ·
   rw [if_neg hxn] at hx'
   by_cases hxi : x = id ∧ v = ver + 1
   ·
    obtain ⟨rfl, rfl⟩ := hxi
    refine ⟨.inl hid, fun ver' e' sz' r' hl => ?_⟩
    rw [qL, if_neg hxn, qL, if_pos rfl] at hl
    simp only [O.row.injEq] at hl
    omega
   rw [if_neg hxi] at hx'
   refine ⟨.inl (hr.kd x v y hx').1, fun ver' e' sz' r' hl => ?_⟩
   rw [qL, if_neg hxn, qL] at hl
   by_cases hxd : x = id
   ·
    subst hxd
    rw [if_pos rfl] at hl
    simp only [O.row.injEq] at hl
    have := (hr.kd _ v y hx').2 _ _ _ _ ho
    omega
   rw [if_neg hxd] at hl
   exact (hr.kd x v y hx').2 _ _ _ _ hl
 ·
  intro t
  show VR F.P w F.K S G' (look .u ((gt, .hl id (ver + 1) k j nid) :: env) t) _
  rw [qL]
  split
  ·
   refine .hl (.inl hid) (.inr rfl) (by omega) (Ls.up rows k j [.jk]) (uA ++ u :: uB) ?_ ?_ .nil
   ·
    show (if id = nid then _ else if id = id ∧ ver + 1 = ver + 1 then _ else G.κ id (ver + 1)) = _
    rw [if_neg (fun e => hne e.symm), if_pos ⟨rfl, rfl⟩]
   rw [Int.toNat_natCast, hszid, hGs]
   show (uA ++ u :: uB)[k * sz + j]? = some (if nid = nid then u else G.β nid)
   rw [if_pos rfl, List.getElem?_append_right (by omega), huA, Nat.sub_self]
   rfl
  · exact (hr.env t).move (fun _ _ => rfl) (fun _ _ => rfl) hle
 ·
  intro x
  show OR F.P w F.K S G' (φ' x) x (look .dead ((nid, .row 0 e2 ty2.size r2) :: (id, .row (ver + 1) e sz (Ls.up rows k j [.jk])) :: objs) x)
  rw [qL]
  by_cases hxn : x = nid
  ·
   rw [if_pos hxn]
   subst hxn
   refine ⟨.inr rfl, e2sz, if_pos rfl, vs, ?_, by rw [e2sz]; exact hs2, ?_, ψ2, ?_, ?_, hr2⟩
   ·
    show (if x = x then (if (0 : Nat) = 0 then some (r2, vs) else none) else _) = _
    rw [if_pos rfl, if_pos rfl]
   · rw [show G'.β x = u from if_pos rfl, e2sz]; exact hown2
   ·
    intro b hb'
    rw [show G'.β x = u from if_pos rfl] at hb'
    show (if x = x then φ1 b else _) ∧ _
    rw [if_pos rfl]
    exact hb2 b hb'
   intro b hb'
   show if x = x then φ1 b else _
   rw [if_pos rfl]
   exact hψ2 b hb'
  ·
   rw [if_neg hxn, qL]
   by_cases hxi : x = id
   ·
    rw [if_pos hxi]
    subst hxi
    have hu1 : u.oneCell' = true := by
     rcases hown2.2 with ⟨rfl, _⟩ | ⟨_, _, _, rfl, _⟩ <;> rfl
    have hcr' : CR F.P w F.K F.K (Ls.up rows k j [.jk]).flatten (uA ++ u :: uB) (fun b => φA b ∨ φ2 b) := by
     rw [qXO hk hc]
     exact hA.join (φ2 := φ2) (.jk hu1 hB2) (fun b h1 h2 => hdAB b h1 (s2 b h2)) (fun b h => Or.inl h) (fun b h => Or.inr h)
    have ex : ∀ b, φ' x b ↔ φ x b ∧ ¬ φ1 b := by
     intro b
     show (if x = nid then φ1 b else φ x b ∧ (x = x → ¬ φ1 b)) ↔ _
     rw [if_neg hxn]
     simp
    refine ⟨.inl hid, hsz, by rw [hszid]; exact hGs, _, ?_, urs, by rw [hβid, ul]; exact hown, _, ?_, ?_, hcr'⟩
    ·
     show (if x = nid then _ else if x = x ∧ ver + 1 = ver + 1 then _ else G.κ x (ver + 1)) = _
     rw [if_neg hxn, if_pos ⟨rfl, rfl⟩]
    ·
     intro b hb'
     rw [hβid] at hb'
     obtain ⟨p1, p2⟩ := hb b hb'
     refine ⟨(ex b).2 ⟨p1, fun h => p2 (φ1ψ b h)⟩, ?_⟩
     rintro (h | h)
     · exact p2 (sA b h)
     exact p2 (sB b (s2 b h))
    intro b hb'
    refine (ex b).2 ⟨?_, ?_⟩
    ·
     rcases hb' with h | h
     · exact hψ b (sA b h)
     exact hψ b (sB b (s2 b h))
    intro h1'
    rcases hb' with h | h
    · exact hdAB b h (s1 b h1')
    exact hd12 b h1' h
   rw [if_neg hxi]
   have : φ' x = φ x := by
    funext b
    show (if x = nid then φ1 b else φ x b ∧ (x = id → ¬ φ1 b)) = φ x b
    rw [if_neg hxn]
    simp [hxi]
   rw [this]
   exact (hr.obj x).move (fun _ _ => rfl) (fun _ _ => rfl) (fun _ _ => rfl) hle
 ·
  intro x y hxy b hb1 hb2'
  have hb1' : if x = nid then φ1 b else φ x b ∧ (x = id → ¬ φ1 b) := hb1
  have hb2'' : if y = nid then φ1 b else φ y b ∧ (y = id → ¬ φ1 b) := hb2'
  by_cases hx : x = nid
  ·
   rw [if_pos hx] at hb1'
   rw [if_neg (fun e => hxy (hx.trans e.symm))] at hb2''
   by_cases hy : y = id
   · exact hb2''.2 hy hb1'
   exact hr.dj id y (fun e => hy e.symm) b (φ1id b hb1') hb2''.1
  ·
   rw [if_neg hx] at hb1'
   by_cases hy : y = nid
   ·
    rw [if_pos hy] at hb2''
    by_cases hxi : x = id
    · exact hb1'.2 hxi hb2''
    exact hr.dj x id hxi b hb1'.1 (φ1id b hb2'')
   rw [if_neg hy] at hb2''
   exact hr.dj x y hxy b hb1'.1 hb2''.1
 ·
  intro x b hb'
  have hb1' : if x = nid then φ1 b else φ x b ∧ (x = id → ¬ φ1 b) := hb'
  split at hb1'
  · exact hr.own id b (φ1id b hb1')
  · exact hr.own x b hb1'.1
 ·
  intro x v hx
  obtain ⟨h1, h2⟩ := hr.anc x v hx
  exact ⟨.inl h1, by rw [← h2]; exact if_neg (dne h1)⟩
 ·
  show (if id = nid then _ else if id = id ∧ ver + 1 = ver + 1 then _ else G.κ id (ver + 1)) = _
  rw [if_neg (fun e => hne e.symm), if_pos ⟨rfl, rfl⟩]
theorem WeakS.take {n nx : Nat} {env : List (Nat × V)} {objs : List (Nat × O)} (ht : TabOk F.P tab) (id : Nat) (i : Int) (j nid gt : Nat) {ver e sz e2 : Nat} {rows r2 : Rws} {ty2 : Ty} (ho : look .dead objs id = .row ver e sz rows) (hty : getTy tab e2 = some ty2) (hf : freshB nx objs nid = true)
  (h0 : 0 ≤ i) (h1 : i < (rows.length : Int)) (hc : (rows.getD i.toNat [])[j]? = some (.ow e2 r2)) (hgt : nl n gt = true)
  (rows' : Rws) (hrows : Ls.up rows i j [.jk] = rows') : WeakS F ⟨n, nx, env, objs⟩ ⟨n, nx, (gt, .hl id (ver + 1) i j nid) :: env, (nid, .row 0 e2 ty2.size r2) :: (id, .row (ver + 1) e sz rows') :: objs⟩ := by
 rintro a w ⟨S, G, φ, hr⟩
 obtain ⟨G', φ', h, _, _⟩ := qMQ ht id i j nid gt ho hty hf h0 h1 hc hgt rows' hrows hr
 exact ⟨S, G', φ', h⟩
theorem Weak.take {n nx : Nat} {env : List (Nat × V)} {objs : List (Nat × O)} (ht : TabOk F.P tab) (id : Nat) (i : Int) (j nid gt : Nat) {ver e sz e2 : Nat} {rows r2 : Rws} {ty2 : Ty} (ho : look .dead objs id = .row ver e sz rows) (hty : getTy tab e2 = some ty2) (hf : freshB nx objs nid = true)
  (h0 : 0 ≤ i) (h1 : i < (rows.length : Int)) (hc : (rows.getD i.toNat [])[j]? = some (.ow e2 r2)) (hgt : nl n gt = true)
  (rows' : Rws) (hrows : Ls.up rows i j [.jk] = rows') : Weak F ⟨n, nx, env, objs⟩ ⟨n, nx, (gt, .hl id (ver + 1) i j nid) :: env, (nid, .row 0 e2 ty2.size r2) :: (id, .row (ver + 1) e sz rows') :: objs⟩ := Weak.up fun K => WeakS.take (F := F.up K) ht id i j nid gt ho hty hf h0 h1 hc hgt rows' hrows
theorem WeakS.back {n nx : Nat} {env : List (Nat × V)} {objs : List (Nat × O)} (id : Nat) (i : Int) (j nid gt : Nat) {ver e sz ver2 e2 sz2 : Nat} {rows r2 : Rws} (ho : look .dead objs id = .row ver e sz rows) (ho2 : look .dead objs nid = .row ver2 e2 sz2 r2) (hne : nq id nid = false) (hl : look .u env gt = .hl id ver i j nid)
  (h0 : 0 ≤ i) (h1 : i < (rows.length : Int)) (hc : (rows.getD i.toNat [])[j]? = some .jk) (rows' : Rws) (hrows : Ls.up rows i j [.ow e2 r2] = rows') :
  WeakS F ⟨n, nx, env, objs⟩ ⟨n, nx, env, (id, .row (ver + 1) e sz rows') :: (nid, .dead) :: objs⟩ := by
 subst hrows
 rintro a w ⟨S, G, φ, hr⟩
 obtain ⟨k, rfl⟩ : ∃ k : Nat, i = k := ⟨i.toNat, by omega⟩
 rw [Int.toNat_natCast] at hc
 have hk : k < rows.length := by omega
 have hin : id ≠ nid := by rintro rfl; simp [qGG] at hne
 have hno : G.κ id (ver + 1) = none := by
  cases hx : G.κ id (ver + 1) with
  | none => rfl
  | some x => have := (hr.kd id (ver + 1) x hx).2 _ _ _ _ ho; omega
 obtain ⟨hid, hsz, hGs, us, hκ, hrs, hown, ψ, hb, hψ, hcr⟩ := hr.row ho
 have hcr2 := qcJ hr ho2
 obtain ⟨ul, urs⟩ := qyS (d := .ow e2 r2) hrs hk hc
 have hjs : j < sz := by
  have := hrs _ (List.getElem_mem hk)
  rw [List.getD_eq_getElem?_getD, List.getElem?_eq_getElem hk] at hc
  have := (List.getElem?_eq_some_iff.1 hc).1
  simp only [Option.getD_some] at this
  omega
 have hpos := qLQ hrs hk hjs
 have hlink : us[k * sz + j]? = some (G.β nid) := by
  have hv := hr.env gt
  rw [show look .u (⟨n, nx, env, objs⟩ : St).env gt = .hl id ver k j nid from hl] at hv
  generalize a.tmps.getD gt undef = z at hv
  cases hv with
  | hl _ _ _ r0 u0 hk' hu _ =>
   rw [hκ] at hk'
   simp only [Option.some.injEq, Prod.mk.injEq] at hk'
   obtain ⟨rfl, rfl⟩ := hk'
   rw [Int.toNat_natCast, hGs] at hu
   exact hu
 rw [qqJ hk hc] at hcr
 obtain ⟨uA, ub, φA, φb, rfl, hA, hB, hdAB, sA, sB⟩ := CR.split hcr
 cases hB with
 | @jk _ _ u _ uB hu1 hB2 =>
 have huA : uA.length = k * sz + j := by rw [hA.len, hpos]
 have hu : u = G.β nid := by
  rw [List.getElem?_append_right (by omega), huA, Nat.sub_self] at hlink
  exact Option.some.inj hlink
 subst hu
 have hcr' : CR F.P w F.K F.K (Ls.up rows k j [.ow e2 r2]).flatten (uA ++ G.β nid :: uB) (fun b => φA b ∨ φb b ∨ φ nid b) := by
  rw [qXO hk hc]
  refine hA.join (φ2 := fun b => φb b ∨ φ nid b) ?_ ?_ (fun b h => Or.inl h) (fun b h => Or.inr h)
  · exact hcr2.join (a := [.ow e2 r2]) (u1 := [G.β nid]) hB2 (fun b h1 h2 => hr.dj nid id (fun e => hin e.symm) b h1 (hψ b (sB b h2))) (fun b h => Or.inr h) (fun b h => Or.inl h)
  ·
   intro b h1 h2
   rcases h2 with h | h
   · exact hdAB b h1 h
   exact hr.dj id nid hin b (hψ b (sA b h1)) h
 let G' : Gh := ⟨G.dom, G.β, G.sz, fun x v => if x = id ∧ v = ver + 1 then some (Ls.up rows k j [.ow e2 r2], uA ++ G.β nid :: uB) else G.κ x v⟩
 have hle : G.le G' := ⟨fun _ h => h, fun _ _ => rfl, fun _ _ => rfl, fun x v y h => by
  show (if x = id ∧ v = ver + 1 then _ else G.κ x v) = some y
  rw [if_neg (by rintro ⟨rfl, rfl⟩; rw [hno] at h; cases h)]
  exact h⟩
 let φ' : Nat → Nat → Prop := fun x b => if x = id then φ id b ∨ φ nid b else if x = nid then False else φ x b
 have φid : ∀ b, φ' id b ↔ φ id b ∨ φ nid b := fun b => by show (if id = id then _ else _) ↔ _; rw [if_pos rfl]
 refine ⟨S, G', φ', ?_, ?_, hr.n, hr.KS, hr.Slt, fun t => (hr.env t).move (fun _ _ => rfl) (fun _ _ => rfl) hle, ?_, ?_, ?_, hr.kept, hr.defs, hr.anc⟩
 ·
  intro x hx
  rcases hr.nx x hx with h | h
  · exact .inl h
  · exact .inr ((qY _ _ _ _).2 (.inr ((qY _ _ _ _).2 (.inr h))))
 ·
  intro x v y hx
  have hx' : (if x = id ∧ v = ver + 1 then some (Ls.up rows k j [.ow e2 r2], uA ++ G.β nid :: uB) else G.κ x v) = some y := hx
  by_cases hxi : x = id ∧ v = ver + 1
  ·
   obtain ⟨rfl, rfl⟩ := hxi
   refine ⟨hid, fun ver' e' sz' r' hl => ?_⟩
   rw [qL, if_pos rfl] at hl
   simp only [O.row.injEq] at hl
   omega
  ·
   rw [if_neg hxi] at hx'
   refine ⟨(hr.kd x v y hx').1, fun ver' e' sz' r' hl => ?_⟩
   rw [qL] at hl
   by_cases hxd : x = id
   ·
    subst hxd
    rw [if_pos rfl] at hl
    simp only [O.row.injEq] at hl
    have := (hr.kd _ v y hx').2 _ _ _ _ ho
    omega
   rw [if_neg hxd, qL] at hl
   by_cases hxn : x = nid
   · rw [if_pos hxn] at hl; cases hl
   rw [if_neg hxn] at hl
   exact (hr.kd x v y hx').2 _ _ _ _ hl
 ·
  intro x
  show OR F.P w F.K S G' (φ' x) x (look .dead ((id, .row (ver + 1) e sz (Ls.up rows k j [.ow e2 r2])) :: (nid, .dead) :: objs) x)
  rw [qL]
  by_cases hxi : x = id
  ·
   rw [if_pos hxi]
   subst hxi
   refine ⟨hid, hsz, hGs, _, ?_, urs, by rw [ul]; exact hown, _, ?_, ?_, hcr'⟩
   ·
    show (if x = x ∧ ver + 1 = ver + 1 then _ else G.κ x (ver + 1)) = _
    rw [if_pos ⟨rfl, rfl⟩]
   ·
    intro b hb'
    obtain ⟨p1, p2⟩ := hb b hb'
    refine ⟨(φid b).2 (.inl p1), ?_⟩
    rintro (h | h | h)
    · exact p2 (sA b h)
    · exact p2 (sB b h)
    exact hr.dj x nid hin b p1 h
   intro b hb'
   refine (φid b).2 ?_
   rcases hb' with h | h | h
   · exact .inl (hψ b (sA b h))
   · exact .inl (hψ b (sB b h))
   exact .inr h
  ·
   rw [if_neg hxi, qL]
   by_cases hxn : x = nid
   · rw [if_pos hxn]; trivial
   rw [if_neg hxn]
   have : φ' x = φ x := by
    funext b
    show (if x = id then _ else if x = nid then False else φ x b) = φ x b
    rw [if_neg hxi, if_neg hxn]
   rw [this]
   exact (hr.obj x).move (fun _ _ => rfl) (fun _ _ => rfl) (fun _ _ => rfl) hle
 ·
  intro x y hxy b hb1 hb2'
  have hb1' : if x = id then φ id b ∨ φ nid b else if x = nid then False else φ x b := hb1
  have hb2'' : if y = id then φ id b ∨ φ nid b else if y = nid then False else φ y b := hb2'
  by_cases hx : x = id
  ·
   rw [if_pos hx] at hb1'
   rw [if_neg (fun e => hxy (hx.trans e.symm))] at hb2''
   by_cases hy : y = nid
   · rw [if_pos hy] at hb2''; exact hb2''
   rw [if_neg hy] at hb2''
   rcases hb1' with h | h
   · exact hr.dj id y (fun e => hxy (hx.trans e)) b h hb2''
   exact hr.dj nid y (fun e => hy e.symm) b h hb2''
  ·
   rw [if_neg hx] at hb1'
   by_cases hxn : x = nid
   · rw [if_pos hxn] at hb1'; exact hb1'
   rw [if_neg hxn] at hb1'
   by_cases hy : y = id
   ·
    rw [if_pos hy] at hb2''
    rcases hb2'' with h | h
    · exact hr.dj x id hx b hb1' h
    exact hr.dj x nid hxn b hb1' h
   rw [if_neg hy] at hb2''
   by_cases hyn : y = nid
   · rw [if_pos hyn] at hb2''; exact hb2''
   rw [if_neg hyn] at hb2''
   exact hr.dj x y hxy b hb1' hb2''
 ·
  intro x b hb'
  have hb1' : if x = id then φ id b ∨ φ nid b else if x = nid then False else φ x b := hb'
  by_cases hx : x = id
  ·
   rw [if_pos hx] at hb1'
   rcases hb1' with h | h
   · exact hr.own id b h
   exact hr.own nid b h
  rw [if_neg hx] at hb1'
  by_cases hxn : x = nid
  · rw [if_pos hxn] at hb1'; exact hb1'.elim
  rw [if_neg hxn] at hb1'
  exact hr.own x b hb1'
theorem Weak.back {n nx : Nat} {env : List (Nat × V)} {objs : List (Nat × O)} (id : Nat) (i : Int) (j nid gt : Nat) {ver e sz ver2 e2 sz2 : Nat} {rows r2 : Rws} (ho : look .dead objs id = .row ver e sz rows) (ho2 : look .dead objs nid = .row ver2 e2 sz2 r2) (hne : nq id nid = false) (hl : look .u env gt = .hl id ver i j nid)
  (h0 : 0 ≤ i) (h1 : i < (rows.length : Int)) (hc : (rows.getD i.toNat [])[j]? = some .jk) (rows' : Rws) (hrows : Ls.up rows i j [.ow e2 r2] = rows') :
  Weak F ⟨n, nx, env, objs⟩ ⟨n, nx, env, (id, .row (ver + 1) e sz rows') :: (nid, .dead) :: objs⟩ := Weak.up fun K => WeakS.back (F := F.up K) id i j nid gt ho ho2 hne hl h0 h1 hc rows' hrows
mutual
def frzV (id : Nat) (x : T) : V → V
 | .rf k => bif nq k id then .t x else .rf k
 | .ag cs => .ag (frzL id x cs)
 | .fn f cs => .fn f (frzL id x cs)
 | .t y => .t y
 | .sb a b c => .sb a b c
 | .np a b c d e f => .np a b c d e f
 | .pt a b c => .pt a b c
 | .tu cs => .tu cs
 | .cd b v => .cd b v
 | .hl a b c d e => .hl a b c d e
 | .u => .u
def frzL (id : Nat) (x : T) : List V → List V
 | [] => []
 | v :: vs => frzV id x v :: frzL id x vs
end
def frzE (id : Nat) (x : T) : List (Nat × V) → List (Nat × V)
 | [] => []
 | (t, v) :: r => (t, frzV id x v) :: frzE id x r
def frzO (id : Nat) (x : T) : List (Nat × O) → List (Nat × O)
 | [] => []
 | (k, .box e cs) :: r => (k, .box e (frzL id x cs)) :: frzO id x r
 | (k, .row a b c d) :: r => (k, .row a b c d) :: frzO id x r
 | (k, .dead) :: r => (k, .dead) :: frzO id x r
theorem VRs.more {P : Program} {K S' : Nat → Prop} {vs : List V} {us : List Value} (h : VRs P w K S G vs us) (hs : Sub S S') : VRs P w K S' G vs us := by
 induction h with
 | nil => exact .nil
 | t hx _ ih => exact .t (hx.more hs) ih
 | rf hi hu h1 _ ih => exact .rf hi hu h1 ih
 | sb hid h0 h1 hn hm hc hA hb _ ih => exact .sb hid h0 h1 hn hm hc hA hb ih
 | np hid hi r0 u0 hk hj hr hl hu hsl _ ih => exact .np hid hi r0 u0 hk hj hr hl hu hsl ih
 | pt hid hi hg _ ih => exact .pt hid hi hg ih
 | ag _ _ ihc ih => exact .ag ihc ih
 | tu _ _ ihc ih => exact .tu ihc ih
 | fn _ _ ihc ih => exact .fn ihc ih
 | cd0 _ ih => exact .cd0 ih
 | cd1 _ _ ihv ih => exact .cd1 ihv ih
 | uu _ ih => exact .uu ih
 | hl hid hd2 hi r0 u0 hk hu _ ih => exact .hl hid hd2 hi r0 u0 hk hu ih
theorem qWG {P : Program} {K S' : Nat → Prop} {id : Nat} {x : T} (hs : Sub S S') (hx : CR P w K S' [x] [G.β id] no) {vs : List V} {us : List Value} (h : VRs P w K S G vs us) : VRs P w K S' G (frzL id x vs) us := by
 induction h with
 | nil => simpa [frzL] using VRs.nil
 | t hy _ ih => simpa [frzL, frzV] using VRs.t (hy.more hs) ih
 | @rf k u vs us hi hu h1 _ ih =>
  simp only [frzL, frzV]
  cases hc : nq k id with
  | true =>
   obtain rfl := nq_eq hc
   rw [hu]
   exact .t hx ih
  | false => exact .rf hi hu h1 ih
 | sb hid h0 h1 hn hm hc hA hb _ ih => simpa [frzL, frzV] using VRs.sb hid h0 h1 hn hm hc hA hb ih
 | np hid hi r0 u0 hk hj hr hl hu hsl _ ih => simpa [frzL, frzV] using VRs.np hid hi r0 u0 hk hj hr hl hu hsl ih
 | pt hid hi hg _ ih => simpa [frzL, frzV] using VRs.pt hid hi hg ih
 | ag _ _ ihc ih => simpa [frzL, frzV] using VRs.ag ihc ih
 | tu hc _ _ ih => simpa [frzL, frzV] using VRs.tu (hc.more hs) ih
 | fn _ _ ihc ih => simpa [frzL, frzV] using VRs.fn ihc ih
 | cd0 _ ih => simpa [frzL, frzV] using VRs.cd0 ih
 | cd1 hv _ _ ih => simpa [frzL, frzV] using VRs.cd1 (hv.more hs) ih
 | uu _ ih => simpa [frzL, frzV] using VRs.uu ih
 | hl hid hd2 hi r0 u0 hk hu _ ih => simpa [frzL, frzV] using VRs.hl hid hd2 hi r0 u0 hk hu ih
theorem qQI (id : Nat) (x : T) : ∀ (env : List (Nat × V)) (t : Nat), look .u (frzE id x env) t = frzV id x (look .u env t)
 | [], t => by simp [frzE, look, frzV]
 | (k, v) :: r, t => by
  simp only [frzE]
  rw [qL, qL, qQI id x r t]
  split <;> rfl
theorem qlD (id : Nat) (x : T) : ∀ (objs : List (Nat × O)) (k : Nat), look .dead (frzO id x objs) k = (match look .dead objs k with | .box e cs => .box e (frzL id x cs) | o => o) ∧ hasKey (frzO id x objs) k = hasKey objs k
 | [], k => by simp [frzO, look, hasKey]
 | (k', o) :: r, k => by
  obtain ⟨h1, h2⟩ := qlD id x r k
  cases o <;> simp only [frzO, hasKey, h2, and_true] <;> rw [qL, qL, h1] <;> split <;> rfl
section
variable {α : Type} {f : α → List T} {l r : List α} {x y : α} {i : Int} {j : Nat} {c d : T}
end
end Go.Proofs.YtcpekllcbimpmaaGreatDoor.L
namespace Go.Proofs.YtcpekllcbimpmaaGreatDoor.L
set_option linter.unusedVariables false
set_option linter.unusedSimpArgs false
open Go
section
variable {α : Type} {f : α → List T} {l m m1 p r : List α} {lo hi a b : Int} {P : Program} {k : Nat}
end
variable {F : Fr} {w : World} {S : Nat → Prop} {G G' : Gh} {φ : Nat → Nat → Prop}
def subC (id nid : Nat) : V → V
 | .rf i => bif nq i id then .rf nid else .rf i
 | v => v
def subV (id nid : Nat) : V → V
 | .ag cs => .ag (cs.map (subC id nid))
 | v => subC id nid v
theorem qmT {P : Program} {K : Nat → Prop} {id nid : Nat} {v : V} {u : Value} (h : VR P w K S G v u) (h' : VR P w K S G' v u) (hn : VR P w K S G' (.rf nid) (G.β id)) : VR P w K S G' (subC id nid v) u := by
 cases v with
 | rf i =>
  simp only [subC]
  cases hb : nq i id with
  | false => exact h'
  | true =>
   obtain rfl := nq_eq hb
   cases h with
   | rf _ hu _ _ => subst hu; exact hn
 | _ => exact h'
theorem qYO {P : Program} {K : Nat → Prop} {id nid : Nat} (hn : VR P w K S G' (.rf nid) (G.β id)) : ∀ {vs : List V} {us : List Value}, VRs P w K S G vs us → VRs P w K S G' vs us → VRs P w K S G' (vs.map (subC id nid)) us
 | [], us, h, h' => h'
 | v :: vs, us, h, h' => by
  obtain ⟨u, us, rfl, h1, h2⟩ := h.uncons
  obtain ⟨u', us', e, h3, h4⟩ := h'.uncons
  simp only [List.cons.injEq] at e
  obtain ⟨rfl, rfl⟩ := e
  exact .cons (qmT h1 h3 hn) (qYO hn h2 h4)
theorem WeakS.mvB {n nx : Nat} {env : List (Nat × V)} {objs : List (Nat × O)} (id nid b : Nat) {ver e sz eb : Nat} {rows : Rws} {cs : List V} (ho : look .dead objs id = .row ver e sz rows) (hf : freshB nx objs nid = true) (hb : look .dead objs b = .box eb cs) :
  WeakS F ⟨n, nx, env, objs⟩ ⟨n, nx, env, (b, .box eb (cs.map (subC id nid))) :: (nid, .row 0 e sz rows) :: (id, .dead) :: objs⟩ := by
 rintro a w ⟨S, G, φ, hr⟩
 obtain ⟨hid, hsz, hGs, us, hκ, hrs, hown, ψ, hbb, hψ, hcr⟩ := hr.row ho
 have hnd : ¬ G.dom nid := qoE hr hf
 have hne : nid ≠ id := by
  rintro rfl
  exact hnd hid
 have hv1 : (G.β id).oneCell' = true := by
  rcases hown.2 with ⟨h, _⟩ | ⟨g, cap, cur, h, _⟩ <;> rw [h] <;> rfl
 have hle := Gh.le_add hnd (fun v x hx => (hr.kd nid v x hx).1) (G.β id) sz (some (rows, us))
 have h1 := hr.new (ds := [id]) (Kept.refl w no) hnd (v := G.β id) (sz := sz) (k := some (rows, us)) (o := .row 0 e sz rows) (fun b hb => hb.elim)
  ⟨.inr rfl, hsz, by simp [Gh.add], us, by simp [Gh.add], hrs, by simpa [Gh.add] using hown, ψ, fun b hb' => by
   have hb' : (G.β id).ownBlock = some b := by simpa [Gh.add] using hb'
   exact ⟨.inl ⟨id, by simp, (hbb b hb').1⟩, (hbb b hb').2⟩, fun b hb' => .inl ⟨id, by simp, hψ b hb'⟩, hcr⟩ (fun d hd => by rw [List.mem_singleton.1 hd]; exact fun e => hne e.symm)
 have h2 : VR F.P w F.K S (G.add nid (G.β id) sz (some (rows, us))) (.rf nid) (G.β id) := .rf (.inr rfl) (by simp [Gh.add]) hv1 .nil
 have hbx : OR F.P w F.K S G (φ b) b (.box eb cs) := hb ▸ hr.obj b
 obtain ⟨hbd, g, ub, e1, e2, e3, e4⟩ := hbx
 have hbn : b ≠ nid := by rintro rfl; exact hnd hbd
 have hbi : b ≠ id := by rintro rfl; rw [ho] at hb; cases hb
 refine ⟨S, _, _, ⟨fun i hi => ?_, fun i v x hx => ?_, h1.n, h1.KS, h1.Slt, h1.env, fun i => ?_, h1.dj, h1.own, h1.kept, h1.defs, h1.anc⟩⟩
 ·
  rcases h1.nx i hi with h | h
  · exact .inl h
  · exact .inr ((qY _ _ _ _).2 (.inr h))
 ·
  obtain ⟨k1, k2⟩ := h1.kd i v x hx
  refine ⟨k1, fun ver' e' sz' r' hl => ?_⟩
  rw [qL] at hl
  split at hl
  · cases hl
  · exact k2 _ _ _ _ hl
 ·
  show OR F.P w F.K S _ _ i (look .dead ((b, .box eb (cs.map (subC id nid))) :: ((nid, .row 0 e sz rows) :: (deads [id] ++ objs))) i)
  rw [qL]
  by_cases hi : i = b
  ·
   subst hi
   rw [if_pos rfl]
   refine ⟨hle.dom _ hbd, g, ub, (hle.β _ hbd).trans e1, e2, ?_, qYO h2 e4 (e4.move (fun _ _ => rfl) (fun _ _ => rfl) hle)⟩
   simp [hbn, hbi, e3]
  rw [if_neg hi]
  exact h1.obj i
theorem Weak.mvB {n nx : Nat} {env : List (Nat × V)} {objs : List (Nat × O)} (id nid b : Nat) {ver e sz eb : Nat} {rows : Rws} {cs : List V} (ho : look .dead objs id = .row ver e sz rows) (hf : freshB nx objs nid = true) (hb : look .dead objs b = .box eb cs) :
  Weak F ⟨n, nx, env, objs⟩ ⟨n, nx, env, (b, .box eb (cs.map (subC id nid))) :: (nid, .row 0 e sz rows) :: (id, .dead) :: objs⟩ := Weak.up fun K => WeakS.mvB (F := F.up K) id nid b ho hf hb
end Go.Proofs.YtcpekllcbimpmaaGreatDoor.L