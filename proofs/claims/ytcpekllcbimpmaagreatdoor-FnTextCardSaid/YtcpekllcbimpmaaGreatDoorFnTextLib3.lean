/- Calls are sound, 3: the arguments; the step. -/
import Derived.Test.YtcpekllcbimpmaaGreatDoorFnTextLib2
namespace Go.Proofs.YtcpekllcbimpmaaGreatDoor.L
set_option linter.unusedVariables false
set_option linter.unusedSimpArgs false
open Go
variable {F : Fr} {σ : St} {a : Act} {w : World} {S : Nat → Prop} {G : Gh} {φ : Nat → Nat → Prop} {tab : List (Nat × Ty)}
theorem qMD : ∀ a b : List (Option Nat), idsOf (a ++ b) = idsOf a ++ idsOf b
 | [], _ => rfl
 | none :: r, b => by simp [idsOf, qMD r b]
 | some i :: r, b => by simp [idsOf, qMD r b]
theorem qeJ {α : Type} : ∀ l : List α, idsOf (l.map fun _ => (none : Option Nat)) = []
 | [] => rfl
 | _ :: r => by simp [idsOf, qeJ r]
theorem AlignB.join {G : Gh} : ∀ {a b : List (Option Nat)} {u v : List Value}, AlignB G a u → AlignB G b v → AlignB G (a ++ b) (u ++ v)
 | [], _, [], _, _, h => h
 | none :: a, _, _ :: u, _, h, h' => AlignB.join (a := a) (u := u) h h'
 | some _ :: _, _, _ :: _, _, h, h' => ⟨h.1, h.2.1, AlignB.join h.2.2 h'⟩
theorem AlignB.nones {α : Type} {G : Gh} : ∀ (l : List α) {us : List Value}, us.length = l.length → AlignB G (l.map fun _ => none) us
 | [], [], _ => trivial
 | _ :: r, _ :: us, h => AlignB.nones r (us := us) (by simpa using h)
theorem qOO (h : ∀ i j, i ≠ j → Dj (φ i) (φ j)) {a b : List Nat} (hn : (a ++ b).Nodup) : Dj (Of φ a) (Of φ b) := by
 rintro x ⟨i, hi, hx⟩ ⟨j, hj, hx'⟩
 refine h i j ?_ x hx hx'
 rintro rfl
 exact (List.nodup_append.1 hn).2.2 i hi i hj rfl
theorem qdT (hr : Rel0 F σ a w S G φ) (S' : Nat → Prop) {id ver e sz rows} (ho : look .dead σ.objs id = .row ver e sz rows) : CR F.P w F.K S' [.ow e rows] [G.β id] (φ id) := by
 obtain ⟨hid, hsz, hGs, us, hk, hrs, hown, ψ, hb, hψ, hcr⟩ := hr.row ho
 subst hsz
 exact .ow (φ2 := no) hrs us hown ψ hb hψ hcr .nil (fun _ _ h => h.elim) (fun _ h => h) (fun _ h => h.elim)
theorem qSG (hr : Rel0 F σ a w S G φ) (S' : Nat → Prop) {v : V} {u : Value} {x : T} {d : Option Nat} (hv : VR F.P w F.K S G v u) (h : ownCell σ.objs v = some (x, d)) :
  CR F.P w F.K S' [x] [u] (Of φ (idsOf [d])) ∧ AlignB G [d] [u] := by
 unfold ownCell at h
 split at h
 ·
  simp only [Option.some.injEq, Prod.mk.injEq] at h
  obtain ⟨rfl, rfl⟩ := h
  cases hv with | t hx _ => cases hx with | s h1 _ => exact ⟨.s h1 .nil, trivial⟩
 ·
  simp only [Option.some.injEq, Prod.mk.injEq] at h
  obtain ⟨rfl, rfl⟩ := h
  cases hv with | t hx _ => cases hx with | im1 a1 a2 sz a3 vs a4 a5 _ => exact ⟨.im1 a1 a2 sz a3 vs a4 a5 .nil, trivial⟩
 ·
  simp only [Option.some.injEq, Prod.mk.injEq] at h
  obtain ⟨rfl, rfl⟩ := h
  cases hv with | t hx _ => cases hx with | er _ => exact ⟨.er .nil, trivial⟩
 ·
  split at h
  ·
   rename_i ho
   simp only [Option.some.injEq, Prod.mk.injEq] at h
   obtain ⟨rfl, rfl⟩ := h
   cases hv with
   | rf hd hu _ _ =>
    subst hu
    exact ⟨(qdT hr S' ho).mono (fun b hb => ⟨_, by simp [idsOf], hb⟩), rfl, hd, trivial⟩
  · simp at h
 · simp at h
theorem qqF (hr : Rel0 F σ a w S G φ) (S' : Nat → Prop) : ∀ {vs : List V} {us : List Value} {ts : List T} {ds : List (Option Nat)}, VRs F.P w F.K S G vs us → ownCells σ.objs vs = some (ts, ds) → (idsOf ds).Nodup →
  CR F.P w F.K S' ts us (Of φ (idsOf ds)) ∧ AlignB G ds us
 | [], us, ts, ds, hv, h, hn => by
  simp only [ownCells, Option.some.injEq, Prod.mk.injEq] at h
  obtain ⟨rfl, rfl⟩ := h
  cases hv
  exact ⟨.nil, trivial⟩
 | c :: cs, us, ts, ds, hv, h, hn => by
  simp only [ownCells] at h
  split at h
  · simp at h
  rename_i x d hx
  split at h
  · simp at h
  rename_i xs ds' hxs
  simp only [Option.some.injEq, Prod.mk.injEq] at h
  obtain ⟨rfl, rfl⟩ := h
  obtain ⟨u, us, rfl, h1, h2⟩ := hv.uncons
  have e : idsOf (d :: ds') = idsOf [d] ++ idsOf ds' := by rw [← qMD]; rfl
  rw [e] at hn ⊢
  obtain ⟨c1, a1⟩ := qSG hr S' h1 hx
  obtain ⟨c2, a2⟩ := qqF hr S' h2 hxs (List.nodup_append.1 hn).2.1
  refine ⟨?_, a1.join a2⟩
  have := c1.join c2 (qOO hr.dj hn) qiD.1 qiD.2
  simpa using this
theorem qqE {P : Program} {K S S' : Nat → Prop} {G : Gh} : ∀ {cs : List V} {us : List Value} {ts : List T}, VRs P w K S G cs us → plainT cs = some ts → CR P w K S' ts us no
 | [], us, ts, hv, h => by
  simp only [plainT, Option.some.injEq] at h
  subst h
  cases hv
  exact .nil
 | c :: cs, us, ts, hv, h => by
  obtain ⟨u, us, rfl, h1, h2⟩ := hv.uncons
  simp only [plainT] at h
  split at h
  · simp at h
  rename_i ts' hts
  have hrec := qqE (S' := S') h2 hts
  split at h
  ·
   simp only [Option.some.injEq] at h
   subst h
   cases h1 with
   | t hx _ => cases hx with | s h1 _ => exact .s h1 hrec
  ·
   simp only [Option.some.injEq] at h
   subst h
   cases h1 with
   | t hx _ => cases hx with | im1 a1 a2 sz a3 vs a4 a5 _ => exact .im1 a1 a2 sz a3 vs a4 a5 hrec
  simp at h
theorem qIH (hr : Rel0 F σ a w S G φ) (S' : Nat → Prop) {objsB : List (Nat × O)} {v : V} {u : Value} {A : A} {ds : List (Option Nat)} (hv : VR F.P w F.K S G v u) (h : argOne Ls σ.objs objsB true v = some (A, ds)) (hn : (idsOf ds).Nodup) :
  ∃ us, AS [A] [u] us ∧ CR F.P w F.K S' A.cells us (Of φ (idsOf ds)) ∧ AlignB G ds us := by
 unfold argOne at h
 simp only at h
 split at h
 ·
  rename_i cs
  split at h
  ·
   rename_i ts ds' hts
   simp only [Option.some.injEq, Prod.mk.injEq] at h
   obtain ⟨rfl, rfl⟩ := h
   cases hv with
   | ag hc _ =>
    rename_i us' _
    obtain ⟨hcr, hal⟩ := qqF hr S' hc hts hn
    exact ⟨us' ++ [], .ag (by rw [hcr.len]) .nil, by simpa [A.cells] using hcr, by simpa using hal⟩
  · simp at h
 ·
  split at h
  ·
   rename_i id _ e cs ho
   split at h
   ·
    rename_i ts hts
    simp only [Option.some.injEq, Prod.mk.injEq] at h
    obtain ⟨rfl, rfl⟩ := h
    obtain ⟨g, us, hβ, hg, hus, hφ⟩ := hr.blk_lt ho
    cases hv with
    | pt hd hi hg' _ =>
     rw [hβ] at hg'
     obtain rfl : g = _ := by simpa [blk] using hg'
     have hp : (Value.pointer (some ⟨g, (0 : Int).toNat * G.sz id + 0, none⟩)) = .pointer (some ⟨g, 0, none⟩) := by simp
     rw [hp]
     refine ⟨[_], .v .nil, .bx (φ1 := φ id) (φ2 := no) us hg no ⟨hφ, fun h => h⟩ (fun _ h => h.elim) (qqE hus hts) .nil (fun _ _ h => h) (fun b hb => ⟨_, by simp [idsOf], hb⟩) (fun _ h => h.elim), hβ.symm, hd, trivial⟩
   simp at h
  · simp at h
 ·
  split at h
  ·
   rename_i x d hx
   simp only [Option.some.injEq, Prod.mk.injEq] at h
   obtain ⟨rfl, rfl⟩ := h
   obtain ⟨c1, a1⟩ := qSG hr S' hv hx
   exact ⟨[u], .v .nil, c1, a1⟩
  simp at h
theorem qeL (hr : Rel0 F σ a w S G φ) {ids : List Nat} {objsB : List (Nat × O)} (hB : Borrowable σ objsB ids) {own : Bool} {v : V} {u : Value} {A : A} {ds : List (Option Nat)} (hv : VR F.P w F.K S G v u) (h : argOne Ls σ.objs objsB own v = some (A, ds)) (hn : (idsOf ds).Nodup) :
  ∃ us, AS [A] [u] us ∧ CR F.P w F.K (Sx S φ ids) A.cells us (Of φ (idsOf ds)) ∧ AlignB G ds us := by
 cases own with
 | true => exact qIH hr _ hv h hn
 | false =>
  unfold argOne at h
  simp only at h
  split at h
  ·
   rename_i cs
   split at h
   ·
    rename_i ts hts
    simp only [Option.some.injEq, Prod.mk.injEq] at h
    obtain ⟨rfl, rfl⟩ := h
    cases hv with
    | ag hc _ =>
     rename_i us' _
     have hcr := qYD hr hB 200 hc hts
     refine ⟨us' ++ [], .ag (by rw [hcr.len]) .nil, ?_, by simpa using AlignB.nones ts hcr.len⟩
     rw [qeJ, List.append_nil]
     exact hcr.mono (fun _ h => h.elim)
   simp at h
  split at h
  ·
   rename_i x hx
   simp only [Option.some.injEq, Prod.mk.injEq] at h
   obtain ⟨rfl, rfl⟩ := h
   exact ⟨[u], .v .nil, (qpF hr hB 200 hv hx).mono (fun _ h => h.elim), trivial⟩
  simp at h
theorem AS.join {x : A} {v : Value} {us : List Value} (h : AS [x] [v] us) {as vs us'} (h' : AS as vs us') : AS (x :: as) (v :: vs) (us ++ us') := by
 cases h with
 | v h => cases h; exact .v h'
 | ag hl h => cases h; simpa using AS.ag hl h'
theorem qJH (hr : Rel0 F σ a w S G φ) {ids : List Nat} {objsB : List (Nat × O)} (hB : Borrowable σ objsB ids) : ∀ {bs : List Bool} {vs : List V} {us : List Value} {as : List A} {ds : List (Option Nat)}, VRs F.P w F.K S G vs us → argAll Ls σ.objs objsB bs vs = some (as, ds) → (idsOf ds).Nodup →
  ∃ us', AS as us us' ∧ CR F.P w F.K (Sx S φ ids) (acells as) us' (Of φ (idsOf ds)) ∧ AlignB G ds us'
 | [], [], us, as, ds, hv, h, hn => by
  simp only [argAll, Option.some.injEq, Prod.mk.injEq] at h
  obtain ⟨rfl, rfl⟩ := h
  cases hv
  exact ⟨[], .nil, .nil, trivial⟩
 | [], _ :: _, us, as, ds, hv, h, hn => by simp [argAll] at h
 | _ :: _, [], us, as, ds, hv, h, hn => by simp [argAll] at h
 | b :: bs, v :: vs, us, as, ds, hv, h, hn => by
  obtain ⟨u, us, rfl, h1, h2⟩ := hv.uncons
  simp only [argAll] at h
  split at h
  · simp at h
  rename_i x d hx
  split at h
  · simp at h
  rename_i xs ds' hxs
  simp only [Option.some.injEq, Prod.mk.injEq] at h
  obtain ⟨rfl, rfl⟩ := h
  rw [qMD] at hn ⊢
  obtain ⟨us1, s1, c1, a1⟩ := qeL hr hB h1 hx (List.nodup_append.1 hn).1
  obtain ⟨us2, s2, c2, a2⟩ := qJH hr hB h2 hxs (List.nodup_append.1 hn).2.1
  exact ⟨us1 ++ us2, s1.join s2, c1.join c2 (qOO hr.dj hn) qiD.1 qiD.2, a1.join a2⟩
theorem qPO : ∀ {l m : List Nat}, subB l m = true → ∀ i ∈ l, i ∈ m
 | [], m, _, i, h => by simp at h
 | x :: r, m, hs, i, h => by
  simp only [subB] at hs
  split at hs
  ·
   rename_i hm
   rcases List.mem_cons.1 h with rfl | h
   ·
    have mem : ∀ {d : Nat} {l : List Nat}, nodupB.memB d l = true → d ∈ l := by
     intro d l
     induction l with
     | nil => simp [nodupB.memB]
     | cons y r ih =>
      intro hx
      simp only [nodupB.memB] at hx
      cases hb : nq d y with
      | true => simp [nq_eq hb]
      | false => rw [hb] at hx; exact List.mem_cons_of_mem _ (ih hx)
    exact mem hm
   exact qPO hs i h
  simp at hs
theorem qFJ {P : Program} {f : FuncId} {fn : Func} (h : P.funcs[f]? = some fn) (hn : (fn.name == "runtime.NumGoroutine") = false) (hb : fn.body.isNone = false) (args : Array Value) (w : World) : (callFunc f args).run P w = .ok (.enter f args) w := by
 have hn' : fn.name ≠ "runtime.NumGoroutine" := by simpa using hn
 have hb' : fn.body ≠ none := by intro e; simp [e] at hb
 simp [callFunc, h, hn', hb']
theorem qvP (σ : St) (ids : List Nat) : Borrowable σ (deads ids ++ σ.objs) ids := by
 intro i hi
 rw [qj] at hi ⊢
 split at hi
 · rw [qqG] at hi; exact absurd rfl hi
 rename_i hk
 rw [if_neg hk]
 exact ⟨rfl, fun h => hk ((qLD ids i).2 h)⟩
theorem AlignB.dom {G : Gh} : ∀ {ds us}, AlignB G ds us → ∀ i ∈ idsOf ds, G.dom i
 | [], [], _, i, h => by simp [idsOf] at h
 | none :: ds, _ :: us, h, i, hi => AlignB.dom (ds := ds) (us := us) h i hi
 | some id :: ds, u :: us, h, i, hi => by
  rcases List.mem_cons.1 hi with rfl | hi
  · exact h.2.1
  exact AlignB.dom h.2.2 i hi
theorem qON (hr : Rel0 F σ a w S G φ) (ht : TabOk F.P tab) {o : Oper} {c : Call} (ho : o.op = .call c) {id : Nat} {sup : Option Sup} {ps : List Prop} {v : V} {objs' : List (Nat × O)} (h : stepC F.P Ls tab σ id c sup = some (ps, v, objs')) (hp : AllP ps) (hc : ConstsOk o.op)
  {next : Act → World → Prop} {Q : Exit → Act → World → Prop} (hnext : ∀ K S' u w' G' φ', KLe F K → Rel0 (F.up K) ⟨σ.n, σ.nx, σ.env, objs'⟩ a w' S' G' φ' → VR F.P w' K S' G' v u → next (a.put o.dst u) w') : o.wp F.P a w next Q := by
 unfold stepC at h
 split at h
 ·
  rename_i f own outs res hcal
  split at h
  ·
   rename_i pf g caps pa vs hf hvs
   split at h
   ·
    rename_i as0 ds0 h0
    split at h
    ·
     rename_i as ds h1
     split at h
     ·
      rename_i objs hsub hnd hlen hback
      split at h
      ·
       rename_i rs objs2 hres
       have hps : AllP (pf ++ pa ++ [AC F.P g as outs res]) ∧ objs' = objs2 ∧ (∀ K S G us w', VRs F.P w' K S G rs us → VR F.P w' K S G v (tup us)) := by
        split at h
        ·
         rename_i r
         simp only [Option.some.injEq, Prod.mk.injEq] at h
         obtain ⟨rfl, rfl, rfl⟩ := h
         refine ⟨hp, rfl, fun K S G us w' hv => ?_⟩
         obtain ⟨u, us, rfl, h1, h2⟩ := hv.uncons
         cases h2
         exact h1
        rename_i hne
        simp only [Option.some.injEq, Prod.mk.injEq] at h
        obtain ⟨rfl, rfl, rfl⟩ := h
        refine ⟨hp, rfl, fun K S G us w' hv => ?_⟩
        have : tup us = .tuple us.toArray := by
         match us, rs, hv.len with
         | [], _, _ => rfl
         | [u], [r], _ => exact absurd rfl (hne r)
         | _ :: _ :: _, _, _ => rfl
        rw [this]
        exact .tu hv .nil
       obtain ⟨hps, rfl, hv⟩ := hps
       rw [qI, qI] at hps
       obtain ⟨⟨hpf, hpa⟩, hac, _⟩ := hps
       have hfv := got hr (hc f (by simp [ho, Op.operands, Call.operands, hcal])) hf hpf
       have hav := qQG hr c.args.toList (fun x hx => hc x (by simp [ho, Op.operands, Call.operands, Array.mem_toList_iff.1 hx])) (by rw [hvs]; exact hpa)
       rw [hvs] at hav
       obtain ⟨capsV, hfe, hcaps⟩ : ∃ capsV, a.eval f = .func (.func g) #[] capsV.toArray ∧ VRs F.P w F.K S G caps capsV := by
        generalize a.eval f = uf at hfv
        cases hfv with
        | fn hc _ => exact ⟨_, rfl, hc⟩
       have hids := qPO hsub
       have hdn := qoC _ hnd
       obtain ⟨us', has, hcr, hal⟩ := qJH hr (qvP σ (idsOf ds0)) (hav.append hcaps) h1 hdn
       obtain ⟨⟨fn, hfn, hnm, hbd⟩, hac⟩ := hac
       have hcall := hac w F.K (Sx S φ (idsOf ds0)) (Of φ (idsOf ds)) _ us' (fun b hb => .inl (hr.KS b hb)) (fun b hb => by
        rcases hb with hb | ⟨i, _, hb⟩
        · exact hr.Slt b hb
        exact (hr.own i b hb).1) (fun b ⟨i, hi, hb⟩ => ⟨(hr.own i b hb).1, fun hs => by
        rcases hs with hs | ⟨j, hj, hs⟩
        · exact (hr.own i b hb).2.1 hs
        exact hr.dj i j (fun e => hj (e ▸ hids i hi)) b hb hs⟩) (F.tb.move hr.kept fun b ⟨i, _, hb⟩ => (hr.own i b hb).2.2.symm) has hcr
       unfold Oper.wp
       have hex : (execOp a.eval o).run F.P w = .ok (.enter g ((c.args.toList.map a.eval) ++ capsV).toArray) w := by
        obtain ⟨dst, op, type, pos, after, guard⟩ := o
        simp only at ho
        subst ho
        have e : (c.args.map a.eval) ++ capsV.toArray = ((c.args.toList.map a.eval) ++ capsV).toArray := by
         simp
        simp [execOp, resolve, hcal, hfe, Deferred.ofValue, invoke, qFJ hfn hnm hbd]
       rw [hex, Oper.upon_enter]
       refine Calls.mono hcall fun e w' he => ?_
       obtain ⟨rs', us2, φ2, K', rfl, has2, hcr2, hφ2, hk, hKK, hK'⟩ := he
       have hD := (hr.lent hal.dom hk).up (K := K') hKK (fun b hb => (hK' b hb).elim (fun h => Nat.lt_of_lt_of_le (hr.Slt b (hr.KS b h)) hk.size) (fun h => h.1)) (fun i b hi hb => by
        skip
        split at hi
        · exact hi
        rename_i hni
        rcases hK' b hb with h | ⟨_, ⟨d, hd, hb'⟩ | hge⟩
        · exact (hr.own i b hi).2.1 (hr.KS b h)
        · exact hr.dj i d (fun e => hni (e ▸ hd)) b hi hb'
        exact absurd (hr.own i b hi).1 (by omega))
       have hx : Loose (F.up K') w' (fun b => S b ∨ K' b) (fun i b => if i ∈ idsOf ds then False else φ i b) φ2 := by
        intro b hb
        obtain ⟨hlt, hnk, hor⟩ := hφ2 b hb
        rcases hor with ⟨d, hd, hb'⟩ | hge
        ·
         obtain ⟨_, h2, h3⟩ := hr.own d b hb'
         refine ⟨hlt, fun h => h.elim h2 hnk, h3, fun i hi => ?_⟩
         simp only at hi
         split at hi
         · exact hi
         rename_i hni
         exact hr.dj i d (fun e => hni (e ▸ hd)) b hi hb'
        refine ⟨hlt, fun hs => hs.elim (fun hs => absurd (hr.Slt b hs) (by omega)) hnk, .inl (Nat.le_trans hr.kept.size hge), fun i hi => ?_⟩
        simp only at hi
        split at hi
        · exact hi
        exact absurd (hr.own i b hi).1 (by omega)
       obtain ⟨G1, φ1, χ1, g1, b1, b2, b3⟩ := quG (σ := σ) (objs := σ.objs) hback hD hdn hal (by
        rw [← quB, ← quB]; exact qGB hlen) (fun i hi ver e sz rows hro => by
         obtain ⟨_, h1, h2, _⟩ := hr.row hro
         exact ⟨h1, h2⟩) hcr2 hx
       obtain ⟨G2, φ3, g2, c1, c2⟩ := qSE (F := F.up K') (σ := σ) ht hres b1 has2 b2 b3
       exact hnext K' _ _ _ G2 φ3 ⟨hKK, fun b hb => (hK' b hb).imp (fun h => h) fun ⟨_, h⟩ => by
        rcases h with ⟨d, hd, hb'⟩ | hge
        · exact (hr.own d b hb').2.2
        exact .inl (Nat.le_trans hr.kept.size hge)⟩ c1.rel (hv _ _ _ _ _ c2)
      simp at h
     simp at h
    simp at h
   simp at h
  · simp at h
 · simp at h
end Go.Proofs.YtcpekllcbimpmaaGreatDoor.L
namespace Go.Proofs.YtcpekllcbimpmaaGreatDoor.L
set_option linter.unusedVariables false
set_option linter.unusedSimpArgs false
open Go
variable {F : Fr} {σ : St} {a : Act} {w : World} {S : Nat → Prop} {G : Gh} {φ : Nat → Nat → Prop} {tab : List (Nat × Ty)}
def gate (L : Lf) (env : List (Nat × V)) (t : Nat) (want : Bool) : Option Bool :=
 match look .u env t with
 | .t (.s (.bool x)) => match want with
  | true => some x
  | false => some (L.bo x false true)
 | .cd c (.t (.s (.bool x))) => match want with
  | true => some (L.bo c x false)
  | false => some (L.bo c (L.bo x false true) false)
 | _ => none
def constsB (op : Op) : Bool := op.operands.toList.all fun x => match x with
 | .const v => v.oneCell'
 | _ => true
abbrev SR := Option (List Prop × V × List (Nat × O))
inductive Kd where
 | q | a | s | c
def kindOf : Op → Kd
 | .box _ _ => .a
 | .alloc _ => .a
 | .buildSlice _ _ _ => .a
 | .makeSlice _ _ _ => .a
 | .store _ _ _ => .s
 | .call c => match c.callee with
  | .builtin .append => .a
  | .value _ => .c
  | _ => .q
 | _ => .q
def stepW (P : Program) (L : Lf) (tab : List (Nat × Ty)) (σ : St) (id : Nat) (op : Op) (sup : Option Sup) : SR :=
 match sup with
 | some (.hd ids v os) => stepH P σ op ids v os
 | sup => match kindOf op with
  | .q => match stepQ L tab σ op sup with
   | some (ps, v, _) => some (ps, v, [])
   | none => none
  | .a => match freshB σ.nx σ.objs id with
   | true => stepA L tab σ id op
   | false => none
  | .s => match stepS L tab σ op with
   | some (ps, os) => some (ps, .u, os)
   | none => none
  | .c => match op with
   | .call c => match stepC P L tab σ id c sup with
    | some (ps, v, objs) => some (ps, v, takeN (lenN objs - lenN σ.objs) objs)
    | none => none
   | _ => none
def dstB (n : Nat) : Option Nat → Bool
 | none => true
 | some d => nl (d + 1) n
def condC (L : Lf) (b : Bool) : List V → List V → Option (List Prop × List V)
 | [], [] => some ([], [])
 | x :: r, y :: r' => match condC L b r r' with
  | none => none
  | some (ps, vs) => match x, y with
   | .t (.s (.int k x)), .t (.s (.int k' y)) => some ((k = k') :: ps, .t (.s (.int k (L.ci b x y))) :: vs)
   | .t (.s (.bool x)), .t (.s (.bool y)) => some (ps, .t (.s (.bool (L.bo b x y))) :: vs)
   | .t (.s (.string x)), .t (.s (.string y)) => some ((x = y) :: ps, .t (.s (.string y)) :: vs)
   | .t (.im true x), .t (.im true y) => some ((x = y) :: ps, .t (.im true y) :: vs)
   | _, _ => none
 | _, _ => none
def condO (L : Lf) (b : Bool) (objs : List (Nat × O)) : List (Nat × O) → Option (List Prop × List (Nat × O))
 | [] => some ([], [])
 | (id, o) :: r => match condO L b objs r, o, look .dead objs id with
  | some (ps, os), .box e cs, .box e' cs0 => match nq e e', condC L b cs cs0 with
   | true, some (qs, cs') => some (qs ++ ps, (id, .box e cs') :: os)
   | _, _ => none
  | _, _, _ => none
theorem qEI : ∀ {cs cs0 : List V} {ps : List Prop} {cs' : List V}, condC Ls true cs cs0 = some (ps, cs') → AllP ps → cs' = cs
 | [], [], ps, cs', h, _ => by simp only [condC, Option.some.injEq, Prod.mk.injEq] at h; exact h.2.symm
 | [], _ :: _, _, _, h, _ => by simp [condC] at h
 | _ :: _, [], _, _, h, _ => by simp [condC] at h
 | x :: r, y :: r', ps, cs', h, hp => by
  simp only [condC] at h
  split at h
  · simp at h
  rename_i ps1 vs1 h1
  split at h
  all_goals first | (simp at h; done) | (
   simp only [Option.some.injEq, Prod.mk.injEq] at h
   obtain ⟨rfl, rfl⟩ := h)
  · rw [qEI h1 hp.2]; rfl
  · rw [qEI h1 hp]; rfl
  · rw [qEI h1 hp.2, hp.1]
  rw [qEI h1 hp.2, hp.1]
theorem qFI : ∀ {cs cs0 : List V} {ps : List Prop} {cs' : List V}, condC Ls false cs cs0 = some (ps, cs') → AllP ps → cs' = cs0
 | [], [], ps, cs', h, _ => by simp only [condC, Option.some.injEq, Prod.mk.injEq] at h; exact h.2.symm
 | [], _ :: _, _, _, h, _ => by simp [condC] at h
 | _ :: _, [], _, _, h, _ => by simp [condC] at h
 | x :: r, y :: r', ps, cs', h, hp => by
  simp only [condC] at h
  split at h
  · simp at h
  rename_i ps1 vs1 h1
  split at h
  all_goals first | (simp at h; done) | (
   simp only [Option.some.injEq, Prod.mk.injEq] at h
   obtain ⟨rfl, rfl⟩ := h)
  · rw [qFI h1 hp.2, hp.1]; rfl
  · rw [qFI h1 hp]; rfl
  · rw [qFI h1 hp.2]
  rw [qFI h1 hp.2]
theorem qwP {objs : List (Nat × O)} : ∀ {os : List (Nat × O)} {ps : List Prop} {os' : List (Nat × O)}, condO Ls true objs os = some (ps, os') → AllP ps → os' = os
 | [], ps, os', h, _ => by simp only [condO, Option.some.injEq, Prod.mk.injEq] at h; exact h.2.symm
 | (id, o) :: r, ps, os', h, hp => by
  simp only [condO] at h
  split at h
  ·
   rename_i ps1 os1 e cs e' cs0 h1 _
   split at h
   ·
    rename_i qs cs' _ h3
    simp only [Option.some.injEq, Prod.mk.injEq] at h
    obtain ⟨rfl, rfl⟩ := h
    have hp := (qI _ _).1 hp
    rw [qwP h1 hp.2, qEI h3 hp.1]
   simp at h
  simp at h
theorem qxP {objs : List (Nat × O)} : ∀ {os : List (Nat × O)} {ps : List Prop} {os' : List (Nat × O)}, condO Ls false objs os = some (ps, os') → AllP ps → ∀ i, look O.dead (os' ++ objs) i = look .dead objs i
 | [], ps, os', h, _, i => by simp only [condO, Option.some.injEq, Prod.mk.injEq] at h; rw [← h.2]; rfl
 | (id, o) :: r, ps, os', h, hp, i => by
  simp only [condO] at h
  split at h
  ·
   rename_i ps1 os1 e cs e' cs0 h1 hlk
   split at h
   ·
    rename_i qs cs' he h3
    simp only [Option.some.injEq, Prod.mk.injEq] at h
    obtain ⟨rfl, rfl⟩ := h
    have hp := (qI _ _).1 hp
    rw [List.cons_append, qL]
    split
    ·
     rename_i hi
     rw [hi, hlk, qFI h3 hp.1, nq_eq he]
    exact qxP h1 hp.2 i
   simp at h
  simp at h
theorem Rel0.same {τ : St} (h : Rel0 F σ a w S G φ) (hn : τ.n = σ.n) (hx : τ.nx = σ.nx) (he : τ.env = σ.env) (hl : ∀ i, look O.dead τ.objs i = look .dead σ.objs i) (hk : ∀ i, hasKey σ.objs i = true → hasKey τ.objs i = true) : Rel0 F τ a w S G φ := by
 refine ⟨fun i hi => ?_, fun i v x hx' => ?_, h.n.trans hn.symm, h.KS, h.Slt, fun t => by rw [he]; exact h.env t, fun i => by rw [hl]; exact h.obj i, h.dj, h.own, h.kept, h.defs, h.anc⟩
 · rw [hx]; exact (h.nx i hi).imp id (hk i)
 refine ⟨(h.kd i v x hx').1, fun ver e sz rows hr => ?_⟩
 rw [hl] at hr
 exact (h.kd i v x hx').2 _ _ _ _ hr
def stepGd (P : Program) (L : Lf) (tab : List (Nat × Ty)) (σ : St) (id : Nat) (o : Oper) (b : Bool) (sup : Option Sup) : SR :=
 match sup with
 | some (.off v) => some ([b = false], .cd b v, [])
 | some .on0 => match stepW P L tab σ id o.op none with
  | some (ps, v, os) => match strip v with
   | (qs, v') => some ((b = true) :: (qs ++ ps), .cd b v', os)
  | none => none
 | some (.on1 s) => match stepW P L tab σ id o.op (some s) with
  | some (ps, v, os) => match strip v with
   | (qs, v') => some ((b = true) :: (qs ++ ps), .cd b v', os)
  | none => none
 | sup => match stepW P L tab σ id o.op sup with
  | some (ps, v, os) => match condO L b σ.objs os with
   | some (ps2, os2) => match strip v with
    | (qs, v') => some ((b = true → AllP (qs ++ ps)) :: ps2, .cd b v', os2)
   | none => none
  | none => none
def stepO (P : Program) (L : Lf) (tab : List (Nat × Ty)) (σ : St) (id : Nat) (ops : List Oper) (o : Oper) (sup : Option Sup) : SR :=
 match constsB o.op, dstB σ.n o.dst with
 | true, true => match o.guard with
  | none => stepW P L tab σ id o.op sup
  | some (g, want) => match nth ops g with
   | none => none
   | some og => match og.dst with
    | none => none
    | some t => match gate L σ.env t want with
     | none => none
     | some b => stepGd P L tab σ id o b sup
 | _, _ => none
def St.upd (σ : St) (d : Option Nat) (v : V) (os : List (Nat × O)) : St :=
 ⟨σ.n, σ.nx, (match d with | some d => (d, v) :: σ.env | none => σ.env), os ++ σ.objs⟩
def supOf : List (Nat × Sup) → Nat → Option Sup
 | [], _ => none
 | (k, s) :: r, n => bif nq n k then some s else supOf r n
inductive RR where
 | ok (ps : List Prop) (σ : St)
 | bad (i : Nat)
def linkCells (env : List (Nat × V)) (id ver : Nat) (i : Int) : Nat → List T → List (Nat × Nat) → Option (List Prop × List V)
 | _, [], _ => some ([], [])
 | j, c :: cs, ls => match linkCells env id ver i (j + 1) cs ls with
  | none => none
  | some (ps, vs) => match c with
   | .s v => some (ps, .t (.s v) :: vs)
   | .im k r => some (ps, .t (.im k r) :: vs)
   | .jk => match look .u env (look 0 ls j) with
    | .hl id' ver' i' j' nid => match nq id id', nq ver ver', nq j j' with
     | true, true, true => some ((i = i') :: ps, .rf nid :: vs)
     | _, _, _ => none
    | _ => none
   | _ => none
def stepK (L : Lf) (tab : List (Nat × Ty)) (σ : St) (o : Oper) (es : List T) (ls : List (Nat × Nat)) : SR :=
 match constsB o.op, dstB σ.n o.dst, o.guard with
 | true, true, none => match o.op with
  | .load t x => match getTy tab t, strip (ev σ.env x) with
   | some ty, (px, .pt id i j) => match look .dead σ.objs id with
    | .row ver _ sz rows => match nl (j + ty.size) sz, linkCells σ.env id ver i j (takeN ty.size (dropN j es)) ls with
     | true, some (qs, cs) => match fit ty cs with
      | some v => some (px ++ qs ++ [L.le 0 i, L.lt i (L.ln rows), L.ge rows i = es], v, [])
      | none => none
     | _, _ => none
    | _ => none
   | _, _ => none
  | _ => none
 | _, _, _ => none
def stepR (P : Program) (L : Lf) (tab : List (Nat × Ty)) (σ : St) (id : Nat) (ops : List Oper) (o : Oper) (sup : Option Sup) : SR :=
 match sup with
 | some (.lk es ls) => stepK L tab σ o es ls
 | sup => stepO P L tab σ id ops o sup
def runL (P : Program) (L : Lf) (tab : List (Nat × Ty)) (ops : List Oper) (sups : List (Nat × Sup)) : Nat → List Oper → St → RR
 | _, [], σ => .ok [] σ
 | i, o :: r, σ => match stepR P L tab σ (σ.nx + i) ops o (supOf sups i) with
  | none => .bad i
  | some (ps, v, os) => match runL P L tab ops sups (i + 1) r (σ.upd o.dst v os) with
   | .ok ps' σ' => .ok (ps ++ ps') σ'
   | .bad j => .bad j
def St.bump (σ : St) : St := ⟨σ.n, σ.nx + 4096, σ.env, σ.objs⟩
theorem qTG {op : Op} (h : constsB op = true) : ConstsOk op := by
 intro x hx v hv
 subst hv
 have := List.all_eq_true.1 h _ (Array.mem_toList_iff.2 hx)
 exact this
theorem qTE : ∀ {ds : List (Option Nat)} {ts : List T} {objs objs' : List (Nat × O)}, back objs ds ts = some objs' → ∃ δ, objs' = δ ++ objs
 | [], ts, objs, objs', h => by simp only [back, Option.some.injEq] at h; exact ⟨[], by simp [h]⟩
 | none :: ds, [], objs, objs', h => by simp [back] at h
 | some _ :: ds, [], objs, objs', h => by simp [back] at h
 | none :: ds, t :: ts, objs, objs', h => qTE (by simpa only [back] using h)
 | some id :: ds, t :: ts, objs, objs', h => by
  simp only [back] at h
  split at h
  ·
   split at h
   ·
    obtain ⟨δ, rfl⟩ := qTE h
    exact ⟨δ ++ [_], by simp; rfl⟩
   simp at h
  ·
   obtain ⟨δ, rfl⟩ := qTE h
   exact ⟨δ ++ [_], by simp; rfl⟩
  ·
   split at h
   ·
    obtain ⟨δ, rfl⟩ := qTE h
    exact ⟨δ ++ [_], by simp; rfl⟩
   simp at h
  simp at h
theorem qXB {nx : Nat} : ∀ {cs : List T} {objs objs' : List (Nat × O)} {id id' : Nat} {vs : List V}, openCells tab nx objs id cs = some (vs, objs', id') → ∃ δ, objs' = δ ++ objs
 | [], objs, objs', id, id', vs, h => by simp only [openCells, Option.some.injEq, Prod.mk.injEq] at h; exact ⟨[], by simp [h.2.1]⟩
 | c :: cs, objs, objs', id, id', vs, h => by
  simp only [openCells] at h
  split at h
  ·
   split at h
   ·
    rename_i hrec
    simp only [Option.some.injEq, Prod.mk.injEq] at h
    obtain ⟨δ, hδ⟩ := qXB hrec
    exact ⟨δ, by rw [← h.2.1]; exact hδ⟩
   simp at h
  ·
   split at h
   ·
    rename_i hrec
    simp only [Option.some.injEq, Prod.mk.injEq] at h
    obtain ⟨δ, hδ⟩ := qXB hrec
    exact ⟨δ, by rw [← h.2.1]; exact hδ⟩
   simp at h
  ·
   split at h
   ·
    rename_i hrec
    simp only [Option.some.injEq, Prod.mk.injEq] at h
    obtain ⟨δ, hδ⟩ := qXB hrec
    exact ⟨δ, by rw [← h.2.1]; exact hδ⟩
   simp at h
  ·
   split at h
   ·
    split at h
    ·
     rename_i hrec
     simp only [Option.some.injEq, Prod.mk.injEq] at h
     obtain ⟨δ, hδ⟩ := qXB hrec
     exact ⟨δ ++ [_], by rw [← h.2.1, hδ]; simp; rfl⟩
    simp at h
   simp at h
  ·
   split at h
   ·
    split at h
    ·
     rename_i hrec
     simp only [Option.some.injEq, Prod.mk.injEq] at h
     obtain ⟨δ, hδ⟩ := qXB hrec
     exact ⟨δ ++ [_], by rw [← h.2.1, hδ]; simp; rfl⟩
    simp at h
   simp at h
  simp at h
theorem qzC {nx : Nat} : ∀ {res : List A} {objs objs' : List (Nat × O)} {id : Nat} {vs : List V}, openRes tab nx objs id res = some (vs, objs') → ∃ δ, objs' = δ ++ objs
 | [], objs, objs', id, vs, h => by simp only [openRes, Option.some.injEq, Prod.mk.injEq] at h; exact ⟨[], by simp [h.2]⟩
 | .v x :: r, objs, objs', id, vs, h => by
  simp only [openRes] at h
  split at h
  ·
   rename_i hc
   split at h
   ·
    rename_i hrec
    simp only [Option.some.injEq, Prod.mk.injEq] at h
    obtain ⟨δ, hδ⟩ := qzC hrec
    obtain ⟨δ', hδ'⟩ := qXB hc
    exact ⟨δ ++ δ', by rw [← h.2, hδ, hδ']; simp⟩
   simp at h
  simp at h
 | .ag xs :: r, objs, objs', id, vs, h => by
  simp only [openRes] at h
  split at h
  ·
   rename_i hc
   split at h
   ·
    rename_i hrec
    simp only [Option.some.injEq, Prod.mk.injEq] at h
    obtain ⟨δ, hδ⟩ := qzC hrec
    obtain ⟨δ', hδ'⟩ := qXB hc
    exact ⟨δ ++ δ', by rw [← h.2, hδ, hδ']; simp⟩
   simp at h
  simp at h
theorem qfL {P : Program} {L : Lf} {id : Nat} {c : Call} {sup : Option Sup} {ps : List Prop} {v : V} {objs : List (Nat × O)} (h : stepC P L tab σ id c sup = some (ps, v, objs)) : ∃ δ, objs = δ ++ σ.objs := by
 unfold stepC at h
 split at h
 ·
  split at h
  ·
   split at h
   ·
    split at h
    ·
     split at h
     ·
      rename_i hb
      split at h
      ·
       rename_i hres
       obtain ⟨δ, hδ⟩ := qTE hb
       obtain ⟨δ', hδ'⟩ := qzC hres
       split at h <;> simp only [Option.some.injEq, Prod.mk.injEq] at h <;> exact ⟨δ' ++ δ, by rw [← h.2.2, hδ', hδ]; simp⟩
      simp at h
     simp at h
    simp at h
   simp at h
  simp at h
 simp at h
theorem qHK {α : Type} (δ l : List α) : takeN (lenN (δ ++ l) - lenN l) (δ ++ l) = δ := by
 rw [quB, quB, qED]
 simp
theorem qDE {os : List (Nat × O)} (h : Rel0 F ⟨σ.n, σ.nx, σ.env, os ++ σ.objs⟩ a w S G φ) {d : Option Nat} {v : V} {u : Value} (hd : dstB σ.n d = true) (hv : VR F.P w F.K S G v u) : Rel0 F (σ.upd d v os) (a.put d u) w S G φ := by
 cases d with
 | none => exact h
 | some d =>
  have := h.set (d := d) (nl_le (by simpa only [dstB] using hd)) hv
  simpa [St.put, St.upd] using this
theorem qQO {d : Nat} : ∀ {l : List Nat}, nodupB.memB d l = true → d ∈ l
 | [], h => by simp [nodupB.memB] at h
 | x :: r, h => by
  simp only [nodupB.memB] at h
  cases hb : nq d x with
  | true => rw [nq_eq hb]; simp
  | false => rw [hb] at h; exact List.mem_cons_of_mem _ (qQO h)
theorem qfJ {objs : List (Nat × O)} : ∀ {ids : List Nat} {obs : List (Nat × O)}, handObs objs ids = some obs → (∀ p ∈ obs, look .dead objs p.1 = p.2) ∧ ∀ i ∈ ids, ∃ q ∈ obs, q.1 = i
 | [], obs, h => by simp only [handObs, Option.some.injEq] at h; subst h; simp
 | i :: r, obs, h => by
  simp only [handObs] at h
  split at h
  · simp at h
  rename_i q hq
  obtain ⟨h1, h2⟩ := qfJ hq
  split at h
  · simp at h
  simp only [Option.some.injEq] at h
  subst h
  refine ⟨fun p hp => ?_, fun j hj => ?_⟩
  ·
   rcases List.mem_cons.1 hp with rfl | hp
   · rfl
   exact h1 p hp
  rcases List.mem_cons.1 hj with rfl | hj
  · exact ⟨_, List.mem_cons_self, rfl⟩
  obtain ⟨q', hq', e⟩ := h2 j hj
  exact ⟨q', List.mem_cons_of_mem _ hq', e⟩
theorem qIK {nx : Nat} {objs : List (Nat × O)} {ids : List Nat} : ∀ {os : List (Nat × O)}, keysB nx objs ids os = true → ∀ p ∈ os, p.1 ∈ ids ∨ freshB nx objs p.1 = true
 | [], _, p, hp => by simp at hp
 | (k, o) :: r, h, p, hp => by
  simp only [keysB] at h
  split at h
  ·
   rename_i hm
   rcases List.mem_cons.1 hp with rfl | hp
   · exact .inl (qQO hm)
   exact qIK h p hp
  split at h
  ·
   rename_i hf
   rcases List.mem_cons.1 hp with rfl | hp
   · exact .inr hf
   exact qIK h p hp
  simp at h
theorem qPN (hr : Rel0 F σ a w S G φ) {op : Op} {ids : List Nat} {v v' : V} {os os' : List (Nat × O)} {ps : List Prop} (h : stepH F.P σ op ids v os = some (ps, v', os')) (hp : AllP ps) (hc : ConstsOk op) :
  ∃ u w' G' φ', (∀ o : Oper, o.op = op → (execOp a.eval o).run F.P w = .ok (.value u) w') ∧ Rel0 F ⟨σ.n, σ.nx, σ.env, os' ++ σ.objs⟩ a w' S G' φ' ∧ VR F.P w' F.K S G' v' u := by
 unfold stepH at h
 split at h
 ·
  rename_i obs qs vals ho hk he
  simp only [Option.some.injEq, Prod.mk.injEq] at h
  obtain ⟨rfl, rfl, rfl⟩ := h
  rw [qI] at hp
  obtain ⟨hp1, hp2, _⟩ := hp
  have hv := qQG hr op.operands.toList (fun x hx => hc x (Array.mem_toList_iff.1 hx)) (by rw [he]; exact hp1)
  rw [he] at hv
  obtain ⟨h1, h2⟩ := qfJ ho
  exact hp2 F σ a w S G φ rfl hr hv h1 (fun p hp => (qIK hk p hp).imp (fun h => h2 _ h) id)
 · simp at h
theorem qHG (hr : Rel0 F σ a w S G φ) (ht : TabOk F.P tab) {o : Oper} {id : Nat} {sup : Option Sup} {ps : List Prop} {v : V} {os : List (Nat × O)} (h : stepW F.P Ls tab σ id o.op sup = some (ps, v, os)) (hp : AllP ps) (hc : ConstsOk o.op)
  {next : Act → World → Prop} {Q : Exit → Act → World → Prop} (hnext : ∀ K S' u w' G' φ', KLe F K → Rel0 (F.up K) ⟨σ.n, σ.nx, σ.env, os ++ σ.objs⟩ a w' S' G' φ' → VR F.P w' K S' G' v u → next (a.put o.dst u) w') : o.wp F.P a w next Q := by
 unfold stepW at h
 split at h
 ·
  obtain ⟨u, w', G', φ', he, h1, hv⟩ := qPN hr h hp hc
  unfold Oper.wp
  rw [he o rfl, Oper.upon_value]
  exact hnext F.K S u w' G' φ' (KLe.refl F) h1 hv
 split at h
 ·
  split at h
  ·
   rename_i hq
   simp only [Option.some.injEq, Prod.mk.injEq] at h
   obtain ⟨rfl, rfl, rfl⟩ := h
   obtain ⟨u, he, hv⟩ := qJN hr ht hq hp hc
   unfold Oper.wp
   rw [he, Oper.upon_value]
   exact hnext F.K S u w G φ (KLe.refl F) hr hv
  · simp at h
 ·
  split at h
  ·
   rename_i hf
   obtain ⟨u, w', G', φ', he, h1, hv⟩ := qMN hr ht h hp hc hf
   unfold Oper.wp
   rw [he, Oper.upon_value]
   exact hnext F.K S u w' G' φ' (KLe.refl F) h1 hv
  · simp at h
 ·
  split at h
  ·
   rename_i hs
   simp only [Option.some.injEq, Prod.mk.injEq] at h
   obtain ⟨rfl, rfl, rfl⟩ := h
   obtain ⟨w', G', φ', he, h1⟩ := qNN hr ht hs hp hc
   unfold Oper.wp
   rw [he, Oper.upon_skip]
   exact hnext F.K S _ w' G' φ' (KLe.refl F) h1 (.any _)
  · simp at h
 ·
  split at h
  ·
   rename_i c hop
   split at h
   ·
    rename_i hcl
    simp only [Option.some.injEq, Prod.mk.injEq] at h
    obtain ⟨rfl, rfl, rfl⟩ := h
    obtain ⟨δ, rfl⟩ := qfL hcl
    rw [qHK] at hnext
    exact qON hr ht hop hcl hp hc hnext
   simp at h
  simp at h
theorem qCP (hr : Rel0 F σ a w S G φ) {ops : List Oper} {g t : Nat} {want b : Bool} {og : Oper} (hg : nth ops g = some og) (ht : og.dst = some t) (h : gate Ls σ.env t want = some b) : (yielded ops.toArray a.tmps g == some want) = b := by
 have hy : yielded ops.toArray a.tmps g = match a.tmps.getD t undef with | .bool x => some x | _ => none := by
  unfold yielded
  rw [qUL] at hg
  simp only [List.getElem?_toArray, hg, ht, Option.bind_some]
  cases hx : a.tmps[t]? with
  | none => simp [Array.getD_eq_getD_getElem?, hx, undef]
  | some x => simp [Array.getD_eq_getD_getElem?, hx]; cases x <;> rfl
 have hv := hr.env t
 rw [hy]
 unfold gate at h
 split at h
 ·
  rename_i x hx
  rw [hx] at hv
  generalize a.tmps.getD t undef = u at *
  cases hv with
  | t hc _ =>
   cases hc
   cases want <;> simp only [Option.some.injEq] at h <;> subst h <;> cases x <;> simp [Ls]
 ·
  rename_i c x hx
  rw [hx] at hv
  generalize a.tmps.getD t undef = u at *
  cases hv with
  | cd0 _ => cases want <;> simp only [Option.some.injEq] at h <;> subst h <;> simp [Ls, undef]
  | cd1 hv _ =>
   cases hv with
   | t hc _ =>
    cases hc
    cases want <;> simp only [Option.some.injEq] at h <;> subst h <;> cases x <;> simp [Ls]
 simp at h
theorem qgL (hr : Rel0 F σ a w S G φ) (ht : TabOk F.P tab) {o : Oper} {id : Nat} {b : Bool} {sup : Option Sup} {ps : List Prop} {v : V} {os : List (Nat × O)} (h : stepGd F.P Ls tab σ id o b sup = some (ps, v, os)) (hp : AllP ps) (hcb : constsB o.op = true) (hdb : dstB σ.n o.dst = true)
  {next : Act → World → Prop} {Q : Exit → Act → World → Prop} (hnext : ∀ K S' a' w' G' φ', KLe F K → Rel0 (F.up K) (σ.upd o.dst v os) a' w' S' G' φ' → next a' w') :
  if b = true then o.wp F.P a w next Q else next (a.put o.dst undef) w := by
 have on : ∀ {s : Option Sup}, (match stepW F.P Ls tab σ id o.op s with
   | some (ps, v, os) => match strip v with
    | (qs, v') => some ((b = true) :: (qs ++ ps), V.cd b v', os)
   | none => none) = some (ps, v, os) → if b = true then o.wp F.P a w next Q else next (a.put o.dst undef) w := by
  intro s h
  split at h
  ·
   rename_i ps' v' os' hw
   simp only [Option.some.injEq, Prod.mk.injEq] at h
   obtain ⟨rfl, rfl, rfl⟩ := h
   obtain ⟨hb, hp⟩ := hp
   have hp := (qI _ _).1 hp
   subst hb
   rw [if_pos rfl]
   exact qHG hr ht hw hp.2 (qTG hcb) fun K S' u w' G' φ' hk h1 hv => hnext K S' _ _ _ _ hk (qDE (F := F.up K) h1 hdb (.cd1 (VR.strip hv hp.1) .nil))
  · simp at h
 unfold stepGd at h
 split at h
 ·
  simp only [Option.some.injEq, Prod.mk.injEq] at h
  obtain ⟨rfl, rfl, rfl⟩ := h
  obtain ⟨hb, _⟩ := hp
  subst hb
  rw [if_neg (by simp)]
  exact hnext F.K S _ _ _ _ (KLe.refl F) (qDE (os := []) hr hdb (.cd0 .nil))
 · exact on h
 · exact on h
 ·
  split at h
  ·
   rename_i ps' v' os' hw
   split at h
   ·
    rename_i ps2 os2 hco
    simp only [Option.some.injEq, Prod.mk.injEq] at h
    obtain ⟨rfl, rfl, rfl⟩ := h
    cases b with
    | true =>
     rw [if_pos rfl]
     have hp1 := (qI _ _).1 (hp.1 rfl)
     obtain rfl := qwP hco hp.2
     exact qHG hr ht hw hp1.2 (qTG hcb) fun K S' u w' G' φ' hk h1 hv => hnext K S' _ _ _ _ hk (qDE (F := F.up K) h1 hdb (.cd1 (VR.strip hv hp1.1) .nil))
    | false =>
     rw [if_neg (by simp)]
     have hl := qxP hco hp.2
     refine hnext F.K S _ _ _ _ (KLe.refl F) (qDE (hr.same (τ := ⟨σ.n, σ.nx, σ.env, os2 ++ σ.objs⟩) rfl rfl rfl hl (fun i hi => (qZC _ _ _).2 (.inr hi))) hdb (.cd0 .nil))
   simp at h
  simp at h
theorem qQN (hr : Rel0 F σ a w S G φ) (ht : TabOk F.P tab) {ops : List Oper} {o : Oper} {id : Nat} {sup : Option Sup} {ps : List Prop} {v : V} {os : List (Nat × O)} (h : stepO F.P Ls tab σ id ops o sup = some (ps, v, os)) (hp : AllP ps)
  {next : Act → World → Prop} {Q : Exit → Act → World → Prop} (hnext : ∀ K S' a' w' G' φ', KLe F K → Rel0 (F.up K) (σ.upd o.dst v os) a' w' S' G' φ' → next a' w') :
  if Region.wanted o (yielded ops.toArray a.tmps) then o.wp F.P a w next Q else next (a.put o.dst undef) w := by
 unfold stepO at h
 split at h
 ·
  rename_i hcb hdb
  split at h
  ·
   rename_i hg
   rw [if_pos (by simp [Region.wanted, hg])]
   exact qHG hr ht h hp (qTG hcb) fun K S' u w' G' φ' hk h1 hv => hnext K S' _ _ _ _ hk (qDE (F := F.up K) h1 hdb hv)
  ·
   rename_i g want hg
   split at h
   · simp at h
   rename_i og hog
   split at h
   · simp at h
   rename_i t hdt
   split at h
   · simp at h
   rename_i b hb
   have hwant : Region.wanted o (yielded ops.toArray a.tmps) = b := by
    unfold Region.wanted
    rw [hg]
    exact qCP hr hog hdt hb
   rw [hwant]
   exact qgL hr ht h hp hcb hdb hnext
 · simp at h
theorem qrE {P : Program} {K : Nat → Prop} (hKS : Sub K S) {env : List (Nat × V)} {tm : Nat → Value} (hr : ∀ t, VR P w K S G (look .u env t) (tm t)) {id ver : Nat} {i : Int} {rows0 : Rws} {us0 : List Value} (hk : G.κ id ver = some (rows0, us0)) {ψ : Nat → Prop} :
  ∀ (l : List T) (j : Nat) (ls : List (Nat × Nat)) (us : List Value) (ps : List Prop) (cs : List V), linkCells env id ver i j l ls = some (ps, cs) → AllP ps → (∀ k u, us[k]? = some u → us0[i.toNat * G.sz id + (j + k)]? = some u) →
   CR P w K K l us ψ → VRs P w K S G cs us
 | [], j, ls, us, ps, cs, h, _, _, hc => by
  simp only [linkCells, Option.some.injEq, Prod.mk.injEq] at h
  obtain ⟨rfl, rfl⟩ := h
  cases hc
  exact .nil
 | c :: l, j, ls, us, ps, cs, h, hp, h2, hc => by
  simp only [linkCells] at h
  obtain ⟨u1, u2, φ1, φ2, rfl, ha, hb, _, _, _⟩ := CR.split (a := [c]) hc
  obtain ⟨u, rfl⟩ : ∃ u, u1 = [u] := by
   have := ha.len
   match u1, this with
   | [u], _ => exact ⟨u, rfl⟩
  cases hrec : linkCells env id ver i (j + 1) l ls with
  | none => simp [hrec] at h
  | some q =>
   obtain ⟨qs, vs⟩ := q
   have ih := qrE (ψ := φ2) hKS hr hk l (j + 1) ls u2 qs vs hrec
   have h2' : ∀ k u, u2[k]? = some u → us0[i.toNat * G.sz id + (j + 1 + k)]? = some u := fun k u hk => by have := h2 (k + 1) u (by simpa using hk); rwa [Nat.add_assoc, Nat.add_comm 1 k]
   rw [hrec] at h
   simp only at h
   cases c with
   | s v =>
    simp only [Option.some.injEq, Prod.mk.injEq] at h
    obtain ⟨rfl, rfl⟩ := h
    cases ha with
    | s hv _ => exact .t (.s hv .nil) (ih hp h2' hb)
   | im k r =>
    simp only [Option.some.injEq, Prod.mk.injEq] at h
    obtain ⟨rfl, rfl⟩ := h
    refine .t ?_ (ih hp h2' hb)
    cases ha with
    | im0 hn hcc sz hs vs hA hr0 _ => exact .im0 hn hcc sz hs vs (fun hp => let ⟨b, o, e, hb, hx⟩ := hA hp; ⟨b, o, e, hKS b hb, hx⟩) (hr0.more hKS) .nil
    | im1 hn hcc sz hs vs hA hr0 _ => exact .im1 hn hcc sz hs vs hA hr0 .nil
   | jk =>
    simp only at h
    split at h
    ·
     rename_i id' ver' i' j' nid hlk
     split at h
     ·
      rename_i e1 e2 e3
      obtain rfl := nq_eq e1
      obtain rfl := nq_eq e2
      obtain rfl := nq_eq e3
      simp only [Option.some.injEq, Prod.mk.injEq] at h
      obtain ⟨rfl, rfl⟩ := h
      obtain ⟨rfl, hp⟩ := hp
      have hv := hr (look 0 ls j)
      rw [hlk] at hv
      generalize tm (look 0 ls j) = z at hv
      cases hv with
      | hl hid hd2 hi r0 u0 hk' hu _ =>
       rw [hk] at hk'
       simp only [Option.some.injEq, Prod.mk.injEq] at hk'
       obtain ⟨rfl, rfl⟩ := hk'
       have h3 := h2 0 u rfl
       rw [Nat.add_zero, hu] at h3
       have h4 : u = G.β nid := (Option.some.inj h3).symm
       exact .rf hd2 h4 (ha.one u (by simp)) (ih hp h2' hb)
     simp at h
    simp at h
   | _ => simp at h
theorem qyP (h : Rel0 F σ a w S G φ) {t : Nat} {ty : Ty} (ht : TyOk F.P t ty) {id ver e sz j : Nat} {i : Int} {rows : Rws} {es : List T} {qs : List Prop} {cs : List V} {ls : List (Nat × Nat)} (ho : look .dead σ.objs id = .row ver e sz rows) {u : Value} {v : V} (hv : VR F.P w F.K S G (.pt id i j) u)
  (hle' : j + ty.size ≤ sz) (h0 : 0 ≤ i) (h1 : i < Ls.ln rows) (he : Ls.ge rows i = es) (hcs : linkCells σ.env id ver i j ((es.drop j).take ty.size) ls = some (qs, cs)) (hpq : AllP qs) (hf : fit ty cs = some v) :
  ∃ x, (Instr.loadAt t u).run F.P w = .ok x w ∧ VR F.P w F.K S G v x := by
 obtain ⟨hid, hsz, hGs, us, hk, hrs, hown, ψ, _, _, hcr⟩ := h.row ho
 have hlt : i.toNat < rows.length := by simp only [Ls] at h1; omega
 have hfl := qvB rows hrs
 have hul : us.length = rows.length * sz := hcr.len.trans hfl
 have hbd : i.toNat * sz + sz ≤ rows.length * sz := by rw [← Nat.succ_mul]; exact Nat.mul_le_mul_right _ hlt
 have hcr' : CR F.P w F.K F.K ((es.drop j).take ty.size) ((us.drop (i.toNat * sz + j)).take ty.size) ψ := by
  have h2 := (hcr.drop (i.toNat * sz + j)).take ty.size
  have : (rows.flatten.drop (i.toNat * sz + j)).take ty.size = (es.drop j).take ty.size := by
   rw [← ge_eq he, ← qeD rows i.toNat hrs hlt, List.drop_take, List.drop_drop, List.take_take]
   congr 1
   omega
  rwa [this] at h2
 have hvs := qrE (ψ := ψ) h.KS (fun t => h.env t) hk _ j ls _ qs cs hcs hpq (fun k u hu => by
  rw [List.getElem?_take] at hu
  split at hu
  ·
   rw [List.getElem?_drop] at hu
   rw [hGs, ← Nat.add_assoc]
   exact hu
  · cases hu) hcr'
 cases hv with
 | pt hid' hi' hg _ =>
  rename_i g _
  refine ⟨one ty ((us.drop (i.toNat * sz + j)).take ty.size), ?_, qPG hf hvs⟩
  simp only [Instr.loadAt, Instr.sureAddr, Sem.run_bind, Sem.run_pure, Result.andThen_ok]
  refine qQE ht (by rw [List.length_take, List.length_drop, hul]; omega) (fun k x hx => ?_)
  rw [List.getElem?_take] at hx
  split at hx
  ·
   rw [List.getElem?_drop] at hx
   rw [hGs]
   exact qqD hown hg hx
  cases hx
theorem qRN (hr : Rel0 F σ a w S G φ) (ht : TabOk F.P tab) {ops : List Oper} {o : Oper} {es : List T} {ls : List (Nat × Nat)} {ps : List Prop} {v : V} {os : List (Nat × O)} (h : stepK Ls tab σ o es ls = some (ps, v, os)) (hp : AllP ps)
  {next : Act → World → Prop} {Q : Exit → Act → World → Prop} (hnext : ∀ K S' a' w' G' φ', KLe F K → Rel0 (F.up K) (σ.upd o.dst v os) a' w' S' G' φ' → next a' w') :
  if Region.wanted o (yielded ops.toArray a.tmps) then o.wp F.P a w next Q else next (a.put o.dst undef) w := by
 unfold stepK at h
 split at h
 ·
  rename_i hcb hdb hg
  split at h
  ·
   rename_i t x hop
   split at h
   ·
    rename_i ty px id i j hty hxs
    split at h
    ·
     rename_i ver e sz rows ho
     split at h
     ·
      rename_i qs cs hle hcs
      split at h
      ·
       rename_i v' hf
       simp only [Option.some.injEq, Prod.mk.injEq] at h
       obtain ⟨rfl, rfl, rfl⟩ := h
       rw [qI, qI] at hp
       obtain ⟨⟨hpx, hpq⟩, h0, h1, he, _⟩ := hp
       rw [if_pos (by simp [Region.wanted, hg])]
       have hcon := qTG hcb
       have hx : ∀ v, x = .const v → v.oneCell' = true := by rw [hop] at hcon; exact fun v hv => hcon x (by simp [Op.operands]) v hv
       rw [qED, qXD] at hcs
       obtain ⟨u, hu, hvu⟩ := qyP hr (ht _ _ hty) ho (got hr hx hxs hpx) (qNC hle) h0 h1 he hcs hpq hf
       obtain ⟨dst, op, type, pos, after, guard⟩ := o
       simp only at hop
       subst hop
       unfold Oper.wp
       rw [show (execOp a.eval ⟨dst, .load t x, type, pos, after, guard⟩).run F.P w = .ok (.value u) w from by simp [execOp, hu], Oper.upon_value]
       exact hnext F.K S _ w G φ (KLe.refl F) (by simpa using qDE (os := []) hr hdb hvu)
      simp at h
     simp at h
    simp at h
   simp at h
  · simp at h
 · simp at h
theorem qGI (hr : Rel0 F σ a w S G φ) (ht : TabOk F.P tab) {ops : List Oper} {o : Oper} {id : Nat} {sup : Option Sup} {ps : List Prop} {v : V} {os : List (Nat × O)} (h : stepR F.P Ls tab σ id ops o sup = some (ps, v, os)) (hp : AllP ps)
  {next : Act → World → Prop} {Q : Exit → Act → World → Prop} (hnext : ∀ K S' a' w' G' φ', KLe F K → Rel0 (F.up K) (σ.upd o.dst v os) a' w' S' G' φ' → next a' w') :
  if Region.wanted o (yielded ops.toArray a.tmps) then o.wp F.P a w next Q else next (a.put o.dst undef) w := by
 unfold stepR at h
 split at h
 · exact qRN hr ht h hp hnext
 · exact qQN hr ht h hp hnext
theorem qgJ {ops : List Oper} {sups : List (Nat × Sup)} {Q : Exit → Act → World → Prop} : ∀ {l : List Oper} {i : Nat} {F : Fr} {S : Nat → Prop} {σ σ' : St} {a : Act} {w : World} {G : Gh} {φ : Nat → Nat → Prop} {ps : List Prop}, TabOk F.P tab → runL F.P Ls tab ops sups i l σ = .ok ps σ' → AllP ps → Rel0 F σ a w S G φ →
  (∀ K S' a' w' G' φ', KLe F K → Rel0 (F.up K) σ' a' w' S' G' φ' → Q .normal a' w') → wpList F.P ops.toArray Q l a w
 | [], i, F, S, σ, σ', a, w, G, φ, ps, ht, h, hp, hr, hq => by
  simp only [runL, RR.ok.injEq] at h
  obtain ⟨rfl, rfl⟩ := h
  exact hq F.K S _ _ _ _ (KLe.refl F) hr
 | o :: r, i, F, S, σ, σ', a, w, G, φ, ps, ht, h, hp, hr, hq => by
  simp only [runL] at h
  split at h
  · simp at h
  rename_i ps1 v os hs
  split at h
  ·
   rename_i ps2 σ2 hrec
   simp only [RR.ok.injEq] at h
   obtain ⟨rfl, rfl⟩ := h
   rw [qI] at hp
   refine wpList_step fun K hK => ?_
   exact qGI hr ht hs hp.1 fun K1 S1 a' w' G' φ' hk h1 => hK _ _ (qgJ (F := F.up K1) ht hrec hp.2 h1 fun K2 S2 a2 w2 G2 φ2 hk2 h2 => hq K2 S2 a2 w2 G2 φ2 (hk.trans hk2) h2)
  simp at h
end Go.Proofs.YtcpekllcbimpmaaGreatDoor.L
namespace Go.Proofs.YtcpekllcbimpmaaGreatDoor.L
set_option linter.unusedVariables false
set_option linter.unusedSimpArgs false
open Go
variable {F : Fr} {σ : St} {a : Act} {w : World} {S : Nat → Prop} {G : Gh} {φ : Nat → Nat → Prop} {tab : List (Nat × Ty)}
def Run (F : Fr) (σ : St) (c : Code) (Q : Exit → St → Prop) : Prop := ∀ a w, Rel F σ a w → c.wp F.P (fun e a w => ∃ σ', Q e σ' ∧ Rel F σ' a w) a w
def Weak (F : Fr) (σ τ : St) : Prop := ∀ a w, Rel F σ a w → Rel F τ a w
def RelS (F : Fr) (σ : St) (a : Act) (w : World) : Prop := ∃ S G φ, Rel0 F σ a w S G φ
def WeakS (F : Fr) (σ τ : St) : Prop := ∀ a w, RelS F σ a w → RelS F τ a w
theorem Weak.up {τ : St} (h : ∀ K, WeakS (F.up K) σ τ) : Weak F σ τ := fun a w ⟨K, hK, hr⟩ => ⟨K, hK, h K a w hr⟩
variable {Q Q' : Exit → St → Prop} {x y c : Code}
theorem Run.weak {τ : St} (h : Run F τ c Q) (hw : Weak F σ τ) : Run F σ c Q := fun a w hr => h a w (hw a w hr)
theorem Run.mono (h : Run F σ c Q) (hq : ∀ e σ, Q e σ → Q' e σ) : Run F σ c Q' :=
 fun a w hr => Code.wp_mono (fun _ _ _ ⟨σ', h1, h2⟩ => ⟨σ', hq _ _ h1, h2⟩) (h a w hr)
def thenQ (N : St → Prop) (Q : Exit → St → Prop) : Exit → St → Prop
 | .normal, σ => N σ
 | e, σ => Q e σ
theorem Run.seq (h : Run F σ x (thenQ (fun σ' => Run F σ' y Q) Q)) : Run F σ (.seq x y) Q := by
 intro a w hr
 refine wp_seq (Code.wp_mono (fun e a' w' hq => ?_) (h a w hr))
 obtain ⟨σ', h1, h2⟩ := hq
 cases e with
 | normal => exact h1 a' w' h2
 | _ => exact ⟨σ', h1, h2⟩
theorem Run.skip (h : Q .normal σ) : Run F σ .skip Q := fun _ _ hr => wp_skip ⟨σ, h, hr⟩
theorem Run.ret (h : Q .ret σ) : Run F σ .ret Q := fun _ _ hr => wp_ret ⟨σ, h, hr⟩
theorem Run.exit {id : Nat} (h : Q (.exit id) σ) : Run F σ (.exit id) Q := fun _ _ hr => wp_exit ⟨σ, h, hr⟩
def blockQ (id : Nat) (Q : Exit → St → Prop) : Exit → St → Prop
 | .exit id', σ => if id' = id then Q .normal σ else Q (.exit id') σ
 | e, σ => Q e σ
theorem Run.block {id : Nat} (h : Run F σ c (blockQ id Q)) : Run F σ (.block id c) Q := by
 intro a w hr
 refine wp_block (Code.wp_mono (fun e a' w' hq => ?_) (h a w hr))
 obtain ⟨σ', h1, h2⟩ := hq
 cases e with
 | exit id' =>
  simp only [Exit.inBlock]
  simp only [blockQ] at h1
  split
  · rename_i e; rw [if_pos e] at h1; exact ⟨σ', h1, h2⟩
  rename_i e; rw [if_neg e] at h1; exact ⟨σ', h1, h2⟩
 | _ => exact ⟨σ', h1, h2⟩
theorem Run.cond {k : Operand} {b : Bool} {ps : List Prop} (hc : strip (ev σ.env k) = (ps, .t (.s (.bool b)))) (hp : AllP ps) (ht : b = true → Run F σ x Q) (hf : b = false → Run F σ y Q) : Run F σ (.cond k x y) Q := by
 rintro a w ⟨K, hK, S, G, φ, hr⟩
 have hk : ∀ v, k = .const v → v.oneCell' = true := by
  rintro v rfl
  simp only [ev, strip] at hc
  simp only [Prod.mk.injEq, V.t.injEq, T.s.injEq] at hc
  rw [hc.2]
  rfl
 have hv := got hr hk hc hp
 have e : a.eval k = .bool b := by
  generalize a.eval k = u at hv
  cases hv with | t h _ => cases h; rfl
 exact wp_cond_split e (fun h => ht h a w ⟨K, hK, S, G, φ, hr⟩) (fun h => hf h a w ⟨K, hK, S, G, φ, hr⟩)
theorem qSN {P : Program} {α : Type} {c : Code} {Q : Exit → Act → World → Prop} (I : α → Act → World → Prop) (μ : α → Nat) {x0 : α} {a : Act} {w : World} (h₀ : I x0 a w)
  (round : ∀ x a w, I x a w → c.wp P (Exit.then (fun a' w' => ∃ y, μ y < μ x ∧ I y a' w') Q) a w) : (Code.loop c).wp P Q a w := by
 intro b k cs
 have key : ∀ n x a w, μ x = n → I x a w → ∃ e a' w', Q e a' w' ∧ Arrives P (lone (b.at a (.code c :: .inLoop c :: k)) cs w) b k cs e a' w' := by
  intro n
  induction n using Nat.strongRecOn with
  | _ n ih =>
   intro x a w hn hI
   obtain ⟨e, a₁, w₁, hq, harr⟩ := round x a w hI b (.inLoop c :: k) cs
   cases e with
   | normal =>
    obtain ⟨y, hlt, hI₁⟩ := hq
    obtain ⟨e₂, a₂, w₂, hq₂, harr₂⟩ := ih (μ y) (hn ▸ hlt) y a₁ w₁ rfl hI₁
    exact ⟨e₂, a₂, w₂, hq₂, .of_steps (Steps.trans harr (.one step_inLoop)) harr₂⟩
   | exit id => exact ⟨_, a₁, w₁, hq, .pass (x := .inLoop c) rfl (fun _ _ => .inl (by simp)) harr⟩
   | goto l => exact ⟨_, a₁, w₁, hq, .pass (x := .inLoop c) rfl (fun _ _ => .inl (by simp)) harr⟩
   | ret => exact ⟨_, a₁, w₁, hq, .pass (x := .inLoop c) rfl (fun _ _ => .inl (by simp)) harr⟩
   | panic ch => exact ⟨_, a₁, w₁, hq, .pass (x := .inLoop c) rfl (fun _ _ => .inl (by simp)) harr⟩
   | outgrown => exact ⟨_, a₁, w₁, hq, .pass (x := .inLoop c) rfl (fun _ _ => .inl (by simp)) harr⟩
 obtain ⟨e, a', w', hq, harr⟩ := key _ x0 a w rfl h₀
 exact ⟨e, a', w', hq, .of_steps (.one step_loop) harr⟩
theorem Run.loop {α : Type} (I : α → St) (R : α → Prop) (μ : α → Nat) (x0 : α) (h0 : Weak F σ (I x0)) (hR : R x0)
  (round : ∀ x, R x → Run F (I x) c (thenQ (fun σ' => ∃ y, μ y < μ x ∧ R y ∧ Weak F σ' (I y)) Q)) : Run F σ (.loop c) Q := by
 intro a w hr
 refine qSN (fun x a w => R x ∧ Rel F (I x) a w) μ (x0 := x0) ⟨hR, h0 a w hr⟩ fun x a w ⟨hx, hI⟩ => ?_
 refine Code.wp_mono (fun e a' w' hq => ?_) (round x hx a w hI)
 obtain ⟨σ', h1, h2⟩ := hq
 cases e with
 | normal =>
  obtain ⟨y, hlt, hy, hw⟩ := h1
  exact ⟨y, hlt, hy, hw _ _ h2⟩
 | _ => exact ⟨σ', h1, h2⟩
theorem Rel.bump (h : Rel F σ a w) : Rel F σ.bump a w := by
 obtain ⟨K, hK, S, G, φ, h⟩ := h
 exact ⟨K, hK, S, G, φ, fun i hi => (h.nx i hi).imp (fun h => Nat.lt_of_lt_of_le h (Nat.le_add_right _ _)) id, h.kd, h.n, h.KS, h.Slt, h.env, h.obj, h.dj, h.own, h.kept, h.defs, h.anc⟩
theorem Run.region {L : Lf} (hL : L = Ls) (ht : TabOk F.P tab) (sups : List (Nat × Sup)) {id : Nat} {ops : List Oper} {ps : List Prop} {σ' : St} (h : runL F.P L tab ops sups 0 ops σ = .ok ps σ') (hp : AllP ps) (hq : Q .normal σ'.bump) : Run F σ (.region id ops.toArray false) Q := by
 subst hL
 rintro a w ⟨K, hK, S, G, φ, hr⟩
 exact wp_region_list (by simpa using qgJ (F := F.up K) ht h hp hr fun K' S' a' w' G' φ' hk h1 => ⟨σ'.bump, hq, Rel.bump ⟨K', hK.trans hk, S', G', φ', h1⟩⟩)
def openA (tab : List (Nat × Ty)) (nx : Nat) : List (Nat × O) → Nat → List T → Option (List V × List (Nat × O) × Nat × List (Option Nat))
 | objs, id, [] => some ([], objs, id, [])
 | objs, id, c :: cs => match c with
  | .ow e rows => match getTy tab e, freshB nx objs id with
   | some ty, true => match openA tab nx ((id, .row 0 e ty.size rows) :: objs) (id + 1) cs with
    | some (vs, os, id', ds) => some (.rf id :: vs, os, id', some id :: ds)
    | none => none
   | _, _ => none
  | .bx e xs => match plainV xs, freshB nx objs id with
   | some us, true => match openA tab nx ((id, .box e us) :: objs) (id + 1) cs with
    | some (vs, os, id', ds) => some (.pt id 0 0 :: vs, os, id', some id :: ds)
    | none => none
   | _, _ => none
  | c => match openA tab nx objs id cs with
   | some (vs, os, id', ds) => some ((match c with | .jk => .u | c => .t c) :: vs, os, id', none :: ds)
   | none => none
def regroup : List A → List V → Option (List V)
 | [], [] => some []
 | .v _ :: r, x :: vs => match regroup r vs with
  | some l => some (x :: l)
  | none => none
 | .ag xs :: r, vs => match regroup r (dropN (lenN xs) vs) with
  | some l => some (.ag (takeN (lenN xs) vs) :: l)
  | none => none
 | _, _ => none
def numb : Nat → List V → List (Nat × V)
 | _, [] => []
 | k, v :: r => (k, v) :: numb (k + 1) r
def entry (tab : List (Nat × Ty)) (n : Nat) (args : List A) : Option (St × List (Option Nat)) :=
 match openA tab 0 [] 0 (acells args) with
 | some (vs, os, id, ds) => match regroup args vs with
  | some l => match nl (lenN l) n with
   | true => some (⟨n, id, numb 0 l, os⟩, ds)
   | false => none
  | none => none
 | none => none
def resV (tab : List (Nat × Ty)) (σ : St) : ResultVar → Option V
 | .tmp t => match strip (look .u σ.env t) with
  | ([], v) => some v
  | _ => none
 | .cell t ty => match look .u σ.env t, getTy tab ty with
  | .pt id 0 0, some ty => match look .dead σ.objs id with
   | .box _ cs => match nl ty.size (lenN cs) with
    | true => fit ty (takeN ty.size cs)
    | false => none
   | _ => none
  | _, _ => none
def resVs (tab : List (Nat × Ty)) (σ : St) : List ResultVar → Option (List V)
 | [] => some []
 | r :: rs => match resV tab σ r with
  | none => none
  | some v => match resVs tab σ rs with
   | none => none
   | some vs => some (v :: vs)
def outC (objs : List (Nat × O)) : List (Option Nat) → Option (List T × List Nat)
 | [] => some ([], [])
 | none :: ds => match outC objs ds with
  | some (ts, l) => some (.jk :: ts, l)
  | none => none
 | some id :: ds => match outC objs ds with
  | none => none
  | some (ts, l) => match look .dead objs id with
   | .row _ e _ rows => some (.ow e rows :: ts, id :: l)
   | .box e cs => match plainT cs with
    | some xs => some (.bx e xs :: ts, id :: l)
    | none => none
   | .dead => some (.jk :: ts, l)
def trues : List V → List Bool
 | [] => []
 | _ :: r => true :: trues r
def finish (tab : List (Nat × Ty)) (rs : List ResultVar) (ds : List (Option Nat)) (σ : St) : Option (List T × List A) :=
 match resVs tab σ rs with
 | none => none
 | some vs => match outC σ.objs ds with
  | none => none
  | some (ts, l) => match argAll Ls σ.objs σ.objs (trues vs) vs with
   | none => none
   | some (as, ds') => match nodupB (l ++ idsOf ds') with
    | true => some (ts, as)
    | false => none
end Go.Proofs.YtcpekllcbimpmaaGreatDoor.L
namespace Go.Proofs.YtcpekllcbimpmaaGreatDoor.L
set_option linter.unusedVariables false
set_option linter.unusedSimpArgs false
open Go
variable {F : Fr} {σ : St} {a : Act} {w : World} {S : Nat → Prop} {G : Gh} {φ : Nat → Nat → Prop} {tab : List (Nat × Ty)}
theorem qUE (ht : TabOk F.P tab) : ∀ {cs : List T} {objs objs' : List (Nat × O)} {id id' : Nat} {vs : List V} {ds : List (Option Nat)} {us : List Value} {G : Gh} {φ : Nat → Nat → Prop} {χ : Nat → Prop}, openA tab σ.nx objs id cs = some (vs, objs', id', ds) → RelD F ⟨σ.n, σ.nx, σ.env, objs⟩ a w S G φ [] →
  CR F.P w F.K S cs us χ → Loose F w S φ χ →
  ∃ G' φ', G.le G' ∧ RelD F ⟨σ.n, σ.nx, σ.env, objs'⟩ a w S G' φ' [] ∧ VRs F.P w F.K S G' vs us ∧ AlignB G' ds us
 | [], objs, objs', id, id', vs, ds, us, G, φ, χ, h, hr, hc, hx => by
  simp only [openA, Option.some.injEq, Prod.mk.injEq] at h
  obtain ⟨rfl, rfl, _, rfl⟩ := h
  cases hc
  exact ⟨G, φ, Gh.le.refl G, hr, .nil, trivial⟩
 | c :: cs, objs, objs', id, id', vs, ds, us, G, φ, χ, h, hr, hc, hx => by
  obtain ⟨u, us, φ1, φ2, rfl, h1, h2, hd12, s1, s2⟩ := hc.uncons
  have plain : ∀ {v : V}, (match openA tab σ.nx objs id cs with | some (vs, os, id', ds) => some (v :: vs, os, id', none :: ds) | none => none) = some (vs, objs', id', ds) → (∀ G', VR F.P w F.K S G' v u) → ∃ G' φ', G.le G' ∧ RelD F ⟨σ.n, σ.nx, σ.env, objs'⟩ a w S G' φ' [] ∧ VRs F.P w F.K S G' vs (u :: us) ∧ AlignB G' ds (u :: us) := by
   intro v h hv
   split at h
   ·
    rename_i vs' os i' ds' hrec
    simp only [Option.some.injEq, Prod.mk.injEq] at h
    obtain ⟨rfl, rfl, rfl, rfl⟩ := h
    obtain ⟨G', φ', a1, a2, a3, a4⟩ := qUE ht hrec hr h2 (hx.less s2)
    exact ⟨G', φ', a1, a2, .cons (hv G') a3, a4⟩
   simp at h
  simp only [openA] at h
  cases c with
  | s v => exact plain h fun G' => by cases h1 with | s h1 _ => exact VR.s h1
  | jk => exact plain h fun G' => .any u
  | er => exact plain h fun G' => by cases h1 with | er _ => exact .t (.er .nil) .nil
  | im k r =>
   refine plain h fun G' => ?_
   cases h1 with
   | im0 hn hcc sz hs vs hA hr' _ => exact .t (.im0 hn hcc sz hs vs hA hr' .nil) .nil
   | im1 hn hcc sz hs vs hA hr' _ => exact .t (.im1 hn hcc sz hs vs hA hr' .nil) .nil
  | ip cs => exact plain h fun G' => by cases h1 with | ip vs hS hA hr' _ => exact .t (.ip vs hS hA hr' .nil) .nil
  | fn f cs => exact plain h fun G' => by cases h1 with | fn vs hr' _ => exact .t (.fn vs hr' .nil) .nil
  | ow e rows =>
   simp only at h
   split at h
   ·
    rename_i ty hty hf
    split at h
    ·
     rename_i vs' os i' ds' hrec
     simp only [Option.some.injEq, Prod.mk.injEq] at h
     obtain ⟨rfl, rfl, rfl, rfl⟩ := h
     have hce := qyC (ht _ _ hty)
     cases h1 with
     | ow hs vs hown ψ hbb hψ hcr hnil hd0 s3 s4 =>
      have h1v : u.oneCell' = true := by rcases hown.2 with ⟨rfl, _⟩ | ⟨g, cap, cur, rfl, _⟩ <;> rfl
      obtain ⟨φ', hle, hr', hx'⟩ := hr.come (id := id) hf (v := u) (sz := ty.size) (k := some (rows, vs)) (o := .row 0 e ty.size rows) hx s1 hd12 s2 ⟨.inr rfl, hce.symm, by simp [Gh.add], vs, by simp [Gh.add], by rw [← hce]; exact hs, by rw [← hce]; simpa [Gh.add] using hown, ψ, fun b hb => by
       have hb : u.ownBlock = some b := by simpa [Gh.add] using hb
       exact ⟨s3 b (hbb b hb).1, (hbb b hb).2⟩, fun b hb => s3 b (hψ b hb), hcr⟩
      obtain ⟨G', φ'', a1, a2, a3, a4⟩ := qUE ht hrec hr' h2 hx'
      have hβ : u = G'.β id := by rw [a1.β id (.inr rfl)]; simp [Gh.add]
      exact ⟨G', φ'', hle.trans a1, a2, .cons (.rf (a1.dom _ (.inr rfl)) hβ h1v .nil) a3, hβ, a1.dom _ (.inr rfl), a4⟩
    simp at h
   simp at h
  | bx e xs =>
   simp only at h
   split at h
   ·
    rename_i us0 hpl hf
    split at h
    ·
     rename_i vs' os i' ds' hrec
     simp only [Option.some.injEq, Prod.mk.injEq] at h
     obtain ⟨rfl, rfl, rfl, rfl⟩ := h
     cases h1 with
     | @bx _ _ _ _ _ _ g _ _ vs hg ψ hbb hψ hcr hnil hd0 s3 s4 =>
      obtain ⟨φ', hle, hr', hx'⟩ := hr.come (id := id) hf (v := .pointer (some ⟨g, 0, none⟩)) (sz := 0) (k := none) (o := .box e us0) hx s1 hd12 s2 ⟨.inr rfl, g, vs, by simp [Gh.add], hg, s3 _ hbb.1, qtD hpl hcr hr.KS⟩
      obtain ⟨G', φ'', a1, a2, a3, a4⟩ := qUE ht hrec hr' h2 hx'
      have hβ : Value.pointer (some ⟨g, 0, none⟩) = G'.β id := by rw [a1.β id (.inr rfl)]; simp [Gh.add]
      refine ⟨G', φ'', hle.trans a1, a2, .cons ?_ a3, hβ, a1.dom _ (.inr rfl), a4⟩
      have hp : VR F.P w F.K S G' (.pt id 0 0) (.pointer (some ⟨g, (0 : Int).toNat * G'.sz id + 0, none⟩)) := .pt (a1.dom _ (.inr rfl)) (Int.le_refl _) (by rw [a1.β id (.inr rfl)]; simp [Gh.add, blk]) .nil
      simpa using hp
    simp at h
   simp at h
theorem qVE {P : Program} {K : Nat → Prop} : ∀ {args : List A} {vs l : List V} {us xs : List Value}, regroup args vs = some l → AS args xs us → VRs P w K S G vs us → VRs P w K S G l xs
 | [], [], l, us, xs, h, has, hv => by
  simp only [regroup, Option.some.injEq] at h
  subst h
  cases has
  exact .nil
 | [], _ :: _, l, us, xs, h, has, hv => by simp [regroup] at h
 | .v x :: r, [], l, us, xs, h, has, hv => by simp [regroup] at h
 | .v x :: r, v :: vs, l, us, xs, h, has, hv => by
  simp only [regroup] at h
  split at h
  ·
   rename_i l' hrec
   simp only [Option.some.injEq] at h
   subst h
   cases has with
   | v has =>
    obtain ⟨u, us, he, h1, h2⟩ := hv.uncons
    simp only [List.cons.injEq] at he
    obtain ⟨rfl, rfl⟩ := he
    exact .cons h1 (qVE hrec has h2)
  simp at h
 | .ag ts :: r, vs, l, us, xs, h, has, hv => by
  simp only [regroup] at h
  split at h
  ·
   rename_i l' hrec
   simp only [Option.some.injEq] at h
   subst h
   cases has with
   | ag hl has =>
    rename_i us0 vs0 us1
    rw [quB, ← hl] at hrec
    rw [quB, ← hl, qED]
    rw [qXD] at hrec
    have h1 := hv.take us0.length
    have h2 := hv.drop us0.length
    rw [List.take_left] at h1
    rw [List.drop_left] at h2
    exact .ag h1 (qVE hrec has h2)
  simp at h
theorem qhL : ∀ (vs : List V) (k t : Nat), look V.u (numb k vs) t = if k ≤ t then (vs[t - k]?).getD .u else .u
 | [], k, t => by simp [numb, look]
 | v :: r, k, t => by
  rw [numb, qL, qhL r (k + 1) t]
  by_cases h : t = k
  · subst h; simp
  rw [if_neg h]
  by_cases h2 : k + 1 ≤ t
  ·
   rw [if_pos h2, if_pos (by omega), show t - k = (t - (k + 1)) + 1 by omega]
   simp
  rw [if_neg h2, if_neg (by omega)]
def ancOf : List (Option Nat) → List Value → Nat → Option Value
 | some j :: ds, u :: us, i => if i = j then some u else ancOf ds us i
 | none :: ds, _ :: us, i => ancOf ds us i
 | _, _, _ => none
theorem qJK {G : Gh} : ∀ {ds us}, AlignB G ds us → ∀ i v, ancOf ds us i = some v → G.dom i ∧ G.β i = v
 | [], [], _, i, v, h => by simp [ancOf] at h
 | none :: ds, _ :: us, ha, i, v, h => qJK (ds := ds) (us := us) ha i v (by simpa only [ancOf] using h)
 | some j :: ds, u :: us, ha, i, v, h => by
  simp only [ancOf] at h
  split at h
  ·
   rename_i e
   subst e
   simp only [Option.some.injEq] at h
   subst h
   exact ⟨ha.2.1, ha.1.symm⟩
  exact qJK ha.2.2 i v h
theorem qIG : ∀ {args : List A} {vs l : List V}, regroup args vs = some l → l.length = args.length
 | [], [], l, h => by simp only [regroup, Option.some.injEq] at h; subst h; rfl
 | [], _ :: _, l, h => by simp [regroup] at h
 | .v x :: r, [], l, h => by simp [regroup] at h
 | .v x :: r, v :: vs, l, h => by
  simp only [regroup] at h
  split at h
  ·
   rename_i l' hrec
   simp only [Option.some.injEq] at h
   subst h
   simp [qIG hrec]
  simp at h
 | .ag ts :: r, vs, l, h => by
  simp only [regroup] at h
  split at h
  ·
   rename_i l' hrec
   simp only [Option.some.injEq] at h
   subst h
   simp [qIG hrec]
  simp at h
theorem AS.len {as : List A} {vs us : List Value} (h : AS as vs us) : vs.length = as.length := by
 induction h <;> simp_all
theorem qTN {P : Program} (ht : TabOk P tab) {n : Nat} {args : List A} {σ : St} {ds : List (Option Nat)} (he : entry tab n args = some (σ, ds)) {w : World} {K S φ : Nat → Prop} {xs us : List Value} (hKS : Sub K S) (hS : ∀ b, S b → b < w.heap.size) (hφ : ∀ b, φ b → b < w.heap.size ∧ ¬ S b)
  (htb : Tb P w φ) (has : AS args xs us) (hcr : CR P w K S (acells args) us φ) : Rel ⟨P, w, φ, K, ancOf ds us, htb⟩ σ ⟨xs.toArray ++ Array.replicate (n - xs.toArray.size) undef, []⟩ w := by
 unfold entry at he
 split at he
 ·
  rename_i vs os id ds' ho
  split at he
  ·
   rename_i l hl
   split at he
   ·
    rename_i hn
    simp only [Option.some.injEq, Prod.mk.injEq] at he
    obtain ⟨rfl, rfl⟩ := he
    have hlen : xs.length ≤ n := by
     have := qNC hn
     rw [quB] at this
     have h1 := qIG hl
     have h2 := has.len
     omega
    have hr0 : RelD ⟨P, w, φ, K, fun _ => none, htb⟩ ⟨n, 0, [], []⟩ ⟨xs.toArray ++ Array.replicate (n - xs.toArray.size) undef, []⟩ w S ⟨fun _ => False, fun _ => undef, fun _ => 0, fun _ _ => none⟩ (fun _ _ => False) [] := by
     refine ⟨fun _ h => h.elim, fun _ _ _ h => by simp at h, ?_, hKS, hS, fun t => .any _, fun _ _ => trivial, fun _ _ _ _ h => h.elim, fun _ _ h => h.elim, Kept.refl _ _, rfl, fun _ _ h => by simp at h, by simp, by simp⟩
     simp
     omega
    obtain ⟨G, ψ, _, h1, h2, h3⟩ := qUE (F := ⟨P, w, φ, K, fun _ => none, htb⟩) (σ := ⟨n, 0, [], []⟩) ht ho hr0 hcr (fun b hb => ⟨(hφ b hb).1, (hφ b hb).2, .inr hb, fun _ h => h⟩)
    have h4 := qVE hl has h2
    refine ⟨K, KLe.refl _, S, G, ψ, fun i hi => .inr ?_, h1.kd, h1.n, h1.KS, h1.Slt, fun t => ?_, h1.rel.obj, h1.dj, h1.own, h1.kept, h1.defs, qJK h3⟩
    · exact (h1.nx i hi).resolve_left (Nat.not_lt_zero _)
    show VR P w K S G (look .u (numb 0 l) t) _
    rw [qhL, if_pos (Nat.zero_le _), Nat.sub_zero]
    cases hx : l[t]? with
    | none => exact .any _
    | some v =>
     obtain ⟨u, hu, hv⟩ := h4.nth hx
     have : (xs.toArray ++ Array.replicate (n - xs.toArray.size) undef).getD t undef = u := by
      have hlt := (List.getElem?_eq_some_iff.1 hu).1
      rw [Array.getD_eq_getD_getElem?, Array.getElem?_append_left (by simpa using hlt)]
      simp [hu]
     rw [this]
     exact hv
   simp at he
  · simp at he
 · simp at he
theorem qDP (hr : Rel0 F σ a w S G φ) (ht : TabOk F.P tab) {r : ResultVar} {v : V} (h : resV tab σ r = some v) :
  ∃ u, ((match r with | .tmp t => pure (a.tmps.getD t undef) | .cell x t => do loadVar t (← asAddr (a.tmps.getD x undef)) : Sem Value)).run F.P w = .ok u w ∧ VR F.P w F.K S G v u := by
 cases r with
 | tmp t =>
  simp only [resV] at h
  split at h
  ·
   rename_i v' hs
   simp only [Option.some.injEq] at h
   subst h
   have := (hr.env t).strip (by rw [hs]; trivial)
   rw [hs] at this
   exact ⟨_, rfl, this⟩
  · simp at h
 | cell x t =>
  simp only [resV] at h
  split at h
  ·
   rename_i id ty hx hty
   split at h
   ·
    rename_i e cs ho
    split at h
    ·
     rename_i hle
     have hv := hr.env x
     rw [hx] at hv
     have := qKO hr (ht _ _ hty) (j := 0) ho hv (by rw [Nat.zero_add, ← quB]; exact qNC hle) (v := v) (by rw [List.drop_zero, ← qED]; exact h)
     obtain ⟨z, h1, h2⟩ := this
     refine ⟨z, ?_, h2⟩
     show ((do loadVar t (← asAddr (a.tmps.getD x undef))) : Sem Value).run F.P w = _
     generalize a.tmps.getD x undef = u at hv h1 ⊢
     cases hv with
     | pt _ _ _ _ => simpa [asAddr, Instr.loadAt, Instr.sureAddr] using h1
    simp at h
   simp at h
  simp at h
theorem qHI (hr : Rel0 F σ a w S G φ) (ht : TabOk F.P tab) : ∀ {rs : List ResultVar} {vs : List V}, resVs tab σ rs = some vs →
  ∃ us, ((rs.mapM fun r => match r with | .tmp t => pure (a.tmps.getD t undef) | .cell x t => do loadVar t (← asAddr (a.tmps.getD x undef)) : Sem (List Value))).run F.P w = .ok us w ∧ VRs F.P w F.K S G vs us
 | [], vs, h => by
  simp only [resVs, Option.some.injEq] at h
  subst h
  exact ⟨[], rfl, .nil⟩
 | r :: rs, vs, h => by
  simp only [resVs] at h
  split at h
  · simp at h
  rename_i v hv
  split at h
  · simp at h
  rename_i vs' hvs
  simp only [Option.some.injEq] at h
  subst h
  obtain ⟨u, h1, h2⟩ := qDP hr ht hv
  obtain ⟨us, h3, h4⟩ := qHI hr ht hvs
  refine ⟨u :: us, ?_, .cons h2 h4⟩
  simp only [List.mapM_cons, Sem.run_bind, h1, Result.andThen_ok, Sem.run_pure, h3]
theorem qUN {fn : Func} {tmps : Array Value} {P : Program} {us : List Value} (h : ((fn.results.toList.mapM fun r => match r with | .tmp t => pure (tmps.getD t undef) | .cell x t => do loadVar t (← asAddr (tmps.getD x undef)) : Sem (List Value))).run P w = .ok us w) :
  (results fn tmps).run P w = .ok (tup us) w := by
 have hm : ((fn.results.mapM fun r => match r with | .tmp t => pure (tmps.getD t undef) | .cell x t => do loadVar t (← asAddr (tmps.getD x undef)) : Sem (Array Value))).run P w = .ok us.toArray w := by
  rw [Array.mapM_eq_mapM_toList]
  rw [← bind_pure_comp]
  simp only [Sem.run_bind, h, Result.andThen_ok, Sem.run_pure]
 unfold results
 simp only [Sem.run_bind, Sem.run_pure]
 refine (congrArg (fun r => Result.andThen r _) hm).trans ?_
 simp only [Result.andThen_ok]
 match us with
 | [] => rfl
 | [u] => rfl
 | u :: v :: r => simp [tup]
theorem qEE (hr : Rel0 F σ a w S G φ) : ∀ {ds : List (Option Nat)} {ts : List T} {l : List Nat} {us : List Value}, outC σ.objs ds = some (ts, l) → AlignB G ds us → (∀ u ∈ us, u.oneCell' = true) → l.Nodup → CR F.P w F.K F.K ts us (Of φ l)
 | [], ts, l, us, h, ha, h1, hn => by
  simp only [outC, Option.some.injEq, Prod.mk.injEq] at h
  obtain ⟨rfl, rfl⟩ := h
  match us, ha with
  | [], _ => exact .nil
 | none :: ds, ts, l, us, h, ha, h1, hn => by
  simp only [outC] at h
  split at h
  ·
   rename_i ts' l' hrec
   simp only [Option.some.injEq, Prod.mk.injEq] at h
   obtain ⟨rfl, rfl⟩ := h
   match us, ha with
   | u :: us, ha => exact .jk (h1 u (by simp)) (qEE hr hrec ha (fun u hu => h1 u (by simp [hu])) hn)
  simp at h
 | some id :: ds, ts, l, us, h, ha, h1, hn => by
  simp only [outC] at h
  split at h
  · simp at h
  rename_i ts' l' hrec
  match us, ha with
  | u :: us, ha =>
   obtain ⟨rfl, hd, ha⟩ := ha
   have h1' : ∀ u ∈ us, u.oneCell' = true := fun u hu => h1 u (by simp [hu])
   split at h
   ·
    rename_i ver e sz rows ho
    simp only [Option.some.injEq, Prod.mk.injEq] at h
    obtain ⟨rfl, rfl⟩ := h
    have hn' := List.nodup_cons.1 hn
    have := (qcJ hr ho).join (qEE hr hrec ha h1' hn'.2) (φ := Of φ (id :: l')) (fun b hb ⟨j, hj, hb'⟩ => hr.dj id j (fun e => hn'.1 (e ▸ hj)) b hb hb') (fun b hb => ⟨id, by simp, hb⟩) (fun b ⟨j, hj, hb⟩ => ⟨j, by simp [hj], hb⟩)
    simpa using this
   ·
    rename_i e cs ho
    split at h
    ·
     rename_i xs hxs
     simp only [Option.some.injEq, Prod.mk.injEq] at h
     obtain ⟨rfl, rfl⟩ := h
     have hn' := List.nodup_cons.1 hn
     obtain ⟨g, vs, hβ, hg, hus, hφ⟩ := hr.blk_lt ho
     have hb : CR F.P w F.K F.K [.bx e xs] [G.β id] (φ id) := by
      rw [hβ]
      exact .bx (φ1 := φ id) (φ2 := no) vs hg no ⟨hφ, fun h => h⟩ (fun _ h => h.elim) (qqE hus hxs) .nil (fun _ _ h => h) (fun b hb => hb) (fun _ h => h.elim)
     have := hb.join (qEE hr hrec ha h1' hn'.2) (φ := Of φ (id :: l')) (fun b hb ⟨j, hj, hb'⟩ => hr.dj id j (fun e => hn'.1 (e ▸ hj)) b hb hb') (fun b hb => ⟨id, by simp, hb⟩) (fun b ⟨j, hj, hb⟩ => ⟨j, by simp [hj], hb⟩)
     simpa using this
    simp at h
   simp only [Option.some.injEq, Prod.mk.injEq] at h
   obtain ⟨rfl, rfl⟩ := h
   exact .jk (h1 _ (by simp)) (qEE hr hrec ha h1' hn)
theorem qKH (hr : Rel0 F σ a w S G φ) (S' : Nat → Prop) {objsB : List (Nat × O)} : ∀ {vs : List V} {us : List Value} {as : List A} {ds : List (Option Nat)}, VRs F.P w F.K S G vs us → argAll Ls σ.objs objsB (trues vs) vs = some (as, ds) → (idsOf ds).Nodup →
  ∃ us', AS as us us' ∧ CR F.P w F.K S' (acells as) us' (Of φ (idsOf ds))
 | [], us, as, ds, hv, h, hn => by
  simp only [trues, argAll, Option.some.injEq, Prod.mk.injEq] at h
  obtain ⟨rfl, rfl⟩ := h
  cases hv
  exact ⟨[], .nil, .nil⟩
 | v :: vs, us, as, ds, hv, h, hn => by
  obtain ⟨u, us, rfl, h1, h2⟩ := hv.uncons
  simp only [trues, argAll] at h
  split at h
  · simp at h
  rename_i x d hx
  split at h
  · simp at h
  rename_i xs ds' hxs
  simp only [Option.some.injEq, Prod.mk.injEq] at h
  obtain ⟨rfl, rfl⟩ := h
  rw [qMD] at hn ⊢
  obtain ⟨us1, s1, c1, _⟩ := qIH hr S' h1 hx (List.nodup_append.1 hn).1
  obtain ⟨us2, s2, c2⟩ := qKH hr S' h2 hxs (List.nodup_append.1 hn).2.1
  exact ⟨us1 ++ us2, s1.join s2, c1.join c2 (qOO hr.dj hn) qiD.1 qiD.2⟩
def EndQ (tab : List (Nat × Ty)) (rs : List ResultVar) (ds : List (Option Nat)) (outs res : List A) (σ : St) : Prop :=
 finish tab rs ds σ = some (acells outs, res)
def endQ (N : St → Prop) : Exit → St → Prop
 | .normal, σ => N σ
 | .ret, σ => N σ
 | _, _ => False
theorem qmH : ∀ {ds : List (Option Nat)} {us : List Value} {i v}, ancOf ds us i = some v → i ∈ idsOf ds
 | [], us, i, v, h => by cases us <;> simp [ancOf] at h
 | none :: ds, [], i, v, h => by simp [ancOf] at h
 | some _ :: ds, [], i, v, h => by simp [ancOf] at h
 | none :: ds, _ :: us, i, v, h => qmH (ds := ds) (us := us) (by simpa only [ancOf] using h)
 | some k :: ds, u :: us, i, v, h => by
  simp only [ancOf] at h
  split at h
  · rename_i e; subst e; simp [idsOf]
  exact List.mem_cons_of_mem _ (qmH h)
theorem qII : ∀ {ds : List (Option Nat)} {us : List Value} {G : Gh}, us.length = ds.length → (idsOf ds).Nodup → (∀ i v, ancOf ds us i = some v → G.dom i ∧ G.β i = v) → AlignB G ds us
 | [], [], G, _, _, _ => trivial
 | none :: ds, u :: us, G, hl, hn, h => qII (ds := ds) (us := us) (by simpa using hl) hn (fun i v hi => h i v (by simpa only [ancOf] using hi))
 | some j :: ds, u :: us, G, hl, hn, h => by
  rw [qdJ] at hn
  obtain ⟨h1, h2⟩ := h j u (by simp [ancOf])
  refine ⟨h2.symm, h1, qII (by simpa using hl) (List.nodup_cons.1 hn).2 fun i v hi => h i v ?_⟩
  simp only [ancOf]
  rw [if_neg]
  · exact hi
  rintro rfl
  exact (List.nodup_cons.1 hn).1 (qmH hi)
end Go.Proofs.YtcpekllcbimpmaaGreatDoor.L
namespace Go.Proofs.YtcpekllcbimpmaaGreatDoor.L
set_option linter.unusedVariables false
set_option linter.unusedSimpArgs false
open Go
variable {F : Fr} {σ τ : St} {a : Act} {w : World} {S : Nat → Prop} {G : Gh} {φ : Nat → Nat → Prop} {tab : List (Nat × Ty)}
def vers (ρ : List (Nat × Nat)) (τo σo : List (Nat × O)) (i : Nat) : Option (Nat × Nat) :=
 match getN ρ i with
 | none => none
 | some j => match look .dead τo i, look .dead σo j with
  | .row x _ _ _, .row y _ _ _ => some (x, y)
  | _, _ => none
where getN : List (Nat × Nat) → Nat → Option Nat
 | [], _ => none
 | (k, x) :: r, n => bif nq n k then some x else getN r n
def pullV (ρ : List (Nat × Nat)) (τo σo : List (Nat × O)) : Nat → V → Option V
 | _, .t x => some (.t x)
 | _, .u => some .u
 | _, .rf i => match vers.getN ρ i with
  | some j => some (.rf j)
  | none => none
 | _, .sb i lo hi => match vers.getN ρ i with
  | some j => some (.sb j lo hi)
  | none => none
 | _, .np i ver k c e rows => match vers.getN ρ i, vers ρ τo σo i with
  | some j, some (x, y) => match nq ver x with
   | true => some (.np j y k c e rows)
   | false => none
  | _, _ => none
 | _, .pt i k c => match vers.getN ρ i with
  | some j => some (.pt j k c)
  | none => none
 | n + 1, .ag cs => match pullL n cs with
  | some l => some (.ag l)
  | none => none
 | n + 1, .tu cs => match pullL n cs with
  | some l => some (.tu l)
  | none => none
 | n + 1, .fn f cs => match pullL n cs with
  | some l => some (.fn f l)
  | none => none
 | _, _ => none
where pullL : Nat → List V → Option (List V)
 | _, [] => some []
 | 0, _ => none
 | n + 1, c :: cs => match pullV ρ τo σo n c with
  | none => none
  | some x => match pullL n cs with
   | none => none
   | some xs => some (x :: xs)
def weakE (ρ : List (Nat × Nat)) (τo σo : List (Nat × O)) (σe : List (Nat × V)) : List (Nat × V) → Option (List Prop)
 | [] => some []
 | (t, v) :: r => match weakE ρ τo σo σe r with
  | none => none
  | some ps => match v with
   | .u => some ps
   | v => match pullV ρ τo σo 100 v with
    | some v' => some ((v' = look .u σe t) :: ps)
    | none => none
def weakO (ρ : List (Nat × Nat)) (τo σo : List (Nat × O)) : List (Nat × O) → Option (List Prop)
 | [] => some []
 | (i, o) :: r => match weakO ρ τo σo r with
  | none => none
  | some ps => match o with
   | .dead => some ps
   | .row _ e sz rows => match vers.getN ρ i with
    | some j => match look .dead σo j with
     | .row _ e' sz' rows' => match nq e e', nq sz sz' with
      | true, true => some ((rows = rows') :: ps)
      | _, _ => none
     | _ => none
    | none => none
   | .box e cs => match vers.getN ρ i with
    | some j => match look .dead σo j, pullV.pullL ρ τo σo 100 cs with
     | .box e' cs', some cs'' => match nq e e' with
      | true => some ((cs'' = cs') :: ps)
      | false => none
     | _, _ => none
    | none => none
def fixB (ρ : List (Nat × Nat)) : List Nat → Bool
 | [] => true
 | i :: r => match vers.getN ρ i with
  | some j => match nq i j with
   | true => fixB ρ r
   | false => false
  | none => false
def knownB (nx : Nat) (τo : List (Nat × O)) : List (Nat × Nat) → Bool
 | [] => true
 | (i, _) :: r => match nl (i + 1) nx, hasKey τo i with
  | false, false => false
  | _, _ => knownB nx τo r
def sndL : List (Nat × Nat) → List Nat
 | [] => []
 | (_, j) :: r => j :: sndL r
def weakP (A : List Nat) (ρ : List (Nat × Nat)) (σ τ : St) : Option (List Prop) :=
 match nq σ.n τ.n, nodupB (sndL ρ), fixB ρ A, knownB τ.nx τ.objs ρ with
 | true, true, true, true => match weakE ρ τ.objs σ.objs σ.env τ.env, weakO ρ τ.objs σ.objs τ.objs with
  | some p, some q => some (p ++ q)
  | _, _ => none
 | _, _, _, _ => none
abbrev gN := vers.getN
def Gh.pull (G : Gh) (ρ : List (Nat × Nat)) (τo σo : List (Nat × O)) : Gh where
 dom i := ∃ j, gN ρ i = some j ∧ G.dom j
 β i := G.β ((gN ρ i).getD 0)
 sz i := G.sz ((gN ρ i).getD 0)
 κ i v := match gN ρ i with
  | none => none
  | some j => match vers ρ τo σo i with
   | none => none
   | some (x, y) => if v = x then G.κ j y else none
theorem qRO : ∀ {ρ : List (Nat × Nat)} {i j}, gN ρ i = some j → (i, j) ∈ ρ
 | [], i, j, h => by simp [gN, vers.getN] at h
 | (k, x) :: r, i, j, h => by
  simp only [gN, vers.getN] at h
  cases hb : nq i k with
  | true =>
   rw [hb] at h
   simp only [cond_true, Option.some.injEq] at h
   rw [nq_eq hb, h]
   exact List.mem_cons_self
  | false =>
   rw [hb] at h
   exact List.mem_cons_of_mem _ (qRO h)
theorem qzP : ∀ ρ : List (Nat × Nat), sndL ρ = ρ.map (·.2)
 | [] => rfl
 | (_, _) :: r => by simp [sndL, qzP r]
theorem qAQ : ∀ {r : List (Nat × Nat)} {i i' j : Nat}, (r.map (·.2)).Nodup → (i, j) ∈ r → (i', j) ∈ r → i = i'
 | [], _, _, _, _, h, _ => by simp at h
 | p :: r, i, i', j, hn, m1, m2 => by
  rw [List.map_cons, List.nodup_cons] at hn
  have mem : ∀ {k}, (k, j) ∈ r → j ∈ r.map (·.2) := fun h => List.mem_map.2 ⟨_, h, rfl⟩
  rcases List.mem_cons.1 m1 with e1 | m1
  ·
   rcases List.mem_cons.1 m2 with e2 | m2
   · rw [← e1] at e2; exact (Prod.mk.inj e2).1.symm
   exact absurd (mem m2) (by rw [← e1] at hn; exact hn.1)
  rcases List.mem_cons.1 m2 with e2 | m2
  · exact absurd (mem m1) (by rw [← e2] at hn; exact hn.1)
  exact qAQ hn.2 m1 m2
theorem qJU {ρ : List (Nat × Nat)} (hn : (sndL ρ).Nodup) {i i' j : Nat} (h : gN ρ i = some j) (h' : gN ρ i' = some j) : i = i' := by
 rw [qzP] at hn
 exact qAQ hn (qRO h) (qRO h')
mutual
theorem qJI {P : Program} {K : Nat → Prop} {ρ : List (Nat × Nat)} {τo σo : List (Nat × O)} : ∀ (n : Nat) {v v' : V} {u : Value}, pullV ρ τo σo n v = some v' → VR P w K S G v' u → VR P w K S (G.pull ρ τo σo) v u
 | n, v, v', u, h, hv => by
  have hβ : ∀ {i j}, gN ρ i = some j → (G.pull ρ τo σo).β i = G.β j := fun h => by simp [Gh.pull, h]
  have hsz : ∀ {i j}, gN ρ i = some j → (G.pull ρ τo σo).sz i = G.sz j := fun h => by simp [Gh.pull, h]
  unfold pullV at h
  split at h
  · simp only [Option.some.injEq] at h; subst h; cases hv with | t hx _ => exact .t hx .nil
  · exact .any u
  ·
   split at h
   ·
    rename_i j hj
    simp only [Option.some.injEq] at h
    subst h
    cases hv with | rf hd hu h1 _ => exact .rf ⟨j, hj, hd⟩ (by rw [hβ hj]; exact hu) h1 .nil
   simp at h
  ·
   split at h
   ·
    rename_i j hj
    simp only [Option.some.injEq] at h
    subst h
    cases hv with | sb hd h0 h1 hn hm hc hA hb _ => exact .sb ⟨j, hj, hd⟩ h0 h1 hn hm hc (by rw [hβ hj, hsz hj]; exact hA) (by rw [hβ hj]; exact hb) .nil
   simp at h
  ·
   split at h
   ·
    rename_i j x y hj hvv
    split at h
    ·
     rename_i hb
     obtain rfl := qGB hb
     simp only [Option.some.injEq] at h
     subst h
     cases hv with
     | np hd hi rows0 us0 hk hj' hrw hl hu hsl _ =>
      refine .np ⟨j, hj, hd⟩ hi rows0 us0 (by
       simp only [Gh.pull]
       rw [show gN ρ _ = some j from hj, hvv]
       simpa using hk) (by rw [hsz hj]; exact hj') hrw hl (by rw [hsz hj]; exact hu) hsl .nil
    simp at h
   simp at h
  ·
   split at h
   ·
    rename_i j hj
    simp only [Option.some.injEq] at h
    subst h
    cases hv with
    | pt hd hi hg _ =>
     rw [← hsz hj]
     exact .pt ⟨j, hj, hd⟩ hi (by rw [hβ hj]; exact hg) .nil
   simp at h
  ·
   split at h
   ·
    rename_i l hl
    simp only [Option.some.injEq] at h
    subst h
    cases hv with | ag hc _ => exact .ag (qkD _ hl hc) .nil
   simp at h
  ·
   split at h
   ·
    rename_i l hl
    simp only [Option.some.injEq] at h
    subst h
    cases hv with | tu hc _ => exact .tu (qkD _ hl hc) .nil
   simp at h
  ·
   split at h
   ·
    rename_i l hl
    simp only [Option.some.injEq] at h
    subst h
    cases hv with | fn hc _ => exact .fn (qkD _ hl hc) .nil
   simp at h
  simp at h
theorem qkD {P : Program} {K : Nat → Prop} {ρ : List (Nat × Nat)} {τo σo : List (Nat × O)} : ∀ (n : Nat) {vs vs' : List V} {us : List Value}, pullV.pullL ρ τo σo n vs = some vs' → VRs P w K S G vs' us → VRs P w K S (G.pull ρ τo σo) vs us
 | n, [], vs', us, h, hv => by
  simp only [pullV.pullL, Option.some.injEq] at h
  subst h
  cases hv
  exact .nil
 | 0, c :: cs, vs', us, h, hv => by simp [pullV.pullL] at h
 | n + 1, c :: cs, vs', us, h, hv => by
  simp only [pullV.pullL] at h
  split at h
  · simp at h
  rename_i x hx
  split at h
  · simp at h
  rename_i xs hxs
  simp only [Option.some.injEq] at h
  subst h
  obtain ⟨u, us, rfl, h1, h2⟩ := hv.uncons
  exact .cons (qJI n hx h1) (qkD n hxs h2)
end
theorem qJG {P : Program} {K : Nat → Prop} {ρ : List (Nat × Nat)} {τo σo : List (Nat × O)} {σe : List (Nat × V)} {tmps : Nat → Value} (hr : ∀ t, VR P w K S G (look .u σe t) (tmps t)) : ∀ {τe : List (Nat × V)} {ps : List Prop}, weakE ρ τo σo σe τe = some ps → AllP ps → ∀ t, VR P w K S (G.pull ρ τo σo) (look .u τe t) (tmps t)
 | [], ps, _, _, t => .any _
 | (k, v) :: r, ps, h, hp, t => by
  simp only [weakE] at h
  split at h
  · simp at h
  rename_i ps' hrec
  rw [qL]
  split at h
  ·
   simp only [Option.some.injEq] at h
   subst h
   split
   · exact .any _
   exact qJG hr hrec hp t
  split at h
  ·
   rename_i v' hv'
   simp only [Option.some.injEq] at h
   subst h
   split
   ·
    rename_i e
    subst e
    refine qJI _ hv' ?_
    rw [hp.1]
    exact hr t
   exact qJG hr hrec hp.2 t
  simp at h
theorem qBQ {P : Program} {K : Nat → Prop} {ρ : List (Nat × Nat)} {τo σo : List (Nat × O)} (hobj : ∀ j, OR P w K S G (φ j) j (look .dead σo j)) : ∀ {l : List (Nat × O)} {ps : List Prop}, weakO ρ τo σo l = some ps → AllP ps → ∀ i, look O.dead l i = look O.dead τo i → OR P w K S (G.pull ρ τo σo) (fun b => match gN ρ i with | some j => φ j b | none => False) i (look .dead l i)
 | [], ps, h, hp, i, he => trivial
 | (k, o) :: r, ps, h, hp, i, he => by
  simp only [weakO] at h
  split at h
  · simp at h
  rename_i ps' hrec
  rw [qL] at he ⊢
  have rest : AllP ps' → i ≠ k → OR P w K S (G.pull ρ τo σo) (fun b => match gN ρ i with | some j => φ j b | none => False) i (look .dead r i) := fun hp' hne => qBQ hobj hrec hp' i (by rw [if_neg hne] at he; exact he)
  split at h
  ·
   simp only [Option.some.injEq] at h
   subst h
   by_cases e : i = k
   · rw [if_pos e]; trivial
   rw [if_neg e]; exact rest hp e
  ·
   rename_i ver e sz rows
   split at h
   ·
    rename_i j hj
    split at h
    ·
     rename_i ver' e' sz' rows' ho
     split at h
     ·
      rename_i hb1 hb2
      obtain rfl := qGB hb1
      obtain rfl := qGB hb2
      simp only [Option.some.injEq] at h
      subst h
      obtain ⟨rfl, hp⟩ := hp
      by_cases e : i = k
      ·
       subst e
       rw [if_pos rfl] at he ⊢
       have := hobj j
       rw [ho] at this
       obtain ⟨hd, h1, h2, us, hk, h3, h4, ψ, h5, h6, h7⟩ := this
       have hβ : (G.pull ρ τo σo).β i = G.β j := by simp [Gh.pull, show gN ρ i = some j from hj]
       refine ⟨⟨j, hj, hd⟩, h1, by simpa [Gh.pull, show gN ρ i = some j from hj] using h2, us, ?_, h3, by rw [hβ]; exact h4, ψ, ?_, ?_, h7⟩
       ·
        have hvv : vers ρ τo σo i = some (ver, ver') := by
         unfold vers
         rw [hj, ← he]
         simp only
         rw [ho]
        simp only [Gh.pull]
        rw [show gN ρ i = some j from hj, hvv]
        simpa using hk
       ·
        intro b hb
        rw [hβ] at hb
        rw [show gN ρ i = some j from hj]
        exact h5 b hb
       intro b hb
       rw [show gN ρ i = some j from hj]
       exact h6 b hb
      rw [if_neg e]; exact rest hp e
     simp at h
    simp at h
   simp at h
  rename_i e cs
  split at h
  ·
   rename_i j hj
   split at h
   ·
    rename_i e' cs' cs'' ho hcs
    split at h
    ·
     rename_i hb1
     obtain rfl := qGB hb1
     simp only [Option.some.injEq] at h
     subst h
     obtain ⟨rfl, hp⟩ := hp
     by_cases e : i = k
     ·
      subst e
      rw [if_pos rfl]
      have := hobj j
      rw [ho] at this
      obtain ⟨hd, g, us, h1, h2, h3, h4⟩ := this
      have hβ : (G.pull ρ τo σo).β i = G.β j := by simp [Gh.pull, show gN ρ i = some j from hj]
      exact ⟨⟨j, hj, hd⟩, g, us, by rw [hβ]; exact h1, h2, by rw [show gN ρ i = some j from hj]; exact h3, qkD _ hcs h4⟩
     rw [if_neg e]; exact rest hp e
    simp at h
   simp at h
  simp at h
theorem qhJ : ∀ {ρ : List (Nat × Nat)} {A : List Nat}, fixB ρ A = true → ∀ i ∈ A, gN ρ i = some i
 | ρ, [], _, i, hi => by simp at hi
 | ρ, k :: r, h, i, hi => by
  simp only [fixB] at h
  split at h
  ·
   rename_i j hj
   split at h
   ·
    rename_i hb
    obtain rfl := qGB hb
    rcases List.mem_cons.1 hi with rfl | hi
    · exact hj
    exact qhJ h i hi
   simp at h
  simp at h
theorem qLH {nx : Nat} {τo : List (Nat × O)} : ∀ {ρ : List (Nat × Nat)}, knownB nx τo ρ = true → ∀ i j, (i, j) ∈ ρ → i < nx ∨ hasKey τo i = true
 | [], _, i, j, h => by simp at h
 | (k, x) :: r, hk, i, j, h => by
  simp only [knownB] at hk
  split at hk
  · simp at hk
  rename_i hne
  rcases List.mem_cons.1 h with e | h
  ·
   obtain ⟨rfl, rfl⟩ := Prod.mk.inj e
   cases h1 : nl (i + 1) nx with
   | true => exact .inl (qNC h1)
   | false =>
    cases h2 : hasKey τo i with
    | true => exact .inr rfl
    | false => exact (hne h1 h2).elim
  exact qLH hk i j h
theorem WeakS.of (A : List Nat) (ρ : List (Nat × Nat)) (hA : ∀ i v, F.anc i = some v → i ∈ A) {ps : List Prop} (h : weakP A ρ σ τ = some ps) (hp : AllP ps) : WeakS F σ τ := by
 rintro a w ⟨S, G, φ, hr⟩
 unfold weakP at h
 split at h
 ·
  rename_i hn hnd hfix hkn
  split at h
  ·
   rename_i p q hpe hpo
   simp only [Option.some.injEq] at h
   subst h
   rw [qI] at hp
   have hnd := qoC _ hnd
   refine ⟨S, G.pull ρ τ.objs σ.objs, fun i b => match gN ρ i with | some j => φ j b | none => False, ?_, ?_, ?_, hr.KS, hr.Slt, fun t => qJG (fun t => hr.env t) hpe hp.1 t, fun i => qBQ hr.obj hpo hp.2 i rfl, ?_, ?_, hr.kept, hr.defs, ?_⟩
   ·
    rintro i ⟨j, hj, _⟩
    exact qLH hkn i j (qRO hj)
   ·
    intro i v x hx
    simp only [Gh.pull] at hx
    split at hx
    · simp at hx
    rename_i j hj
    split at hx
    · simp at hx
    rename_i x' y' hv
    split at hx
    ·
     rename_i hc
     refine ⟨⟨j, hj, (hr.kd j y' x hx).1⟩, fun ver e sz rows ho => ?_⟩
     unfold vers at hv
     rw [show vers.getN ρ i = some j from hj, ho] at hv
     simp only at hv
     split at hv
     ·
      rename_i heq _
      simp only [O.row.injEq] at heq
      simp only [Option.some.injEq, Prod.mk.injEq] at hv
      omega
     simp at hv
    simp at hx
   · rw [hr.n]; exact qGB hn
   ·
    intro i i' hne b hb hb'
    cases hi : gN ρ i with
    | none => rw [hi] at hb; exact hb
    | some j =>
     cases hi' : gN ρ i' with
     | none => rw [hi'] at hb'; exact hb'
     | some j' =>
      rw [hi] at hb
      rw [hi'] at hb'
      refine hr.dj j j' ?_ b hb hb'
      rintro rfl
      exact hne (qJU hnd hi hi')
   ·
    intro i b hb
    cases hi : gN ρ i with
    | none => rw [hi] at hb; exact hb.elim
    | some j => rw [hi] at hb; exact hr.own j b hb
   intro i v hv
   obtain ⟨h1, h2⟩ := hr.anc i v hv
   have := qhJ hfix i (hA i v hv)
   exact ⟨⟨i, this, h1⟩, by simp [Gh.pull, this, h2]⟩
  simp at h
 simp at h
theorem Weak.of (A : List Nat) (ρ : List (Nat × Nat)) (hA : ∀ i v, F.anc i = some v → i ∈ A) {ps : List Prop} (h : weakP A ρ σ τ = some ps) (hp : AllP ps) : Weak F σ τ := Weak.up fun K => WeakS.of (F := F.up K) A ρ hA h hp
end Go.Proofs.YtcpekllcbimpmaaGreatDoor.L