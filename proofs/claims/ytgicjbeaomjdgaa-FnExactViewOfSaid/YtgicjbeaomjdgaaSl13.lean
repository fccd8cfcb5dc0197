/- Calls are sound, 3: the arguments; the step. -/
import Derived.Test.YtgicjbeaomjdgaaSl12
namespace Go.Proofs.Ytgicjbeaomjdgaa.L
set_option linter.unusedVariables false
set_option linter.unusedSimpArgs false
open Go

variable {F : Fr} {σ : St} {a : Act} {w : World} {S : Nat → Prop} {G : Gh} {φ : Nat → Nat → Prop} {tab : List (Nat × Ty)}

theorem idsOf_append : ∀ a b : List (Option Nat), idsOf (a ++ b) = idsOf a ++ idsOf b
  | [], _ => rfl
  | none :: r, b => by simp [idsOf, idsOf_append r b]
  | some i :: r, b => by simp [idsOf, idsOf_append r b]

theorem idsOf_none {α : Type} : ∀ l : List α, idsOf (l.map fun _ => (none : Option Nat)) = []
  | [] => rfl
  | _ :: r => by simp [idsOf, idsOf_none r]

theorem AlignB.join {G : Gh} : ∀ {a b : List (Option Nat)} {u v : List Value}, AlignB G a u → AlignB G b v → AlignB G (a ++ b) (u ++ v)
  | [], _, [], _, _, h => h
  | none :: a, _, _ :: u, _, h, h' => AlignB.join (a := a) (u := u) h h'
  | some _ :: _, _, _ :: _, _, h, h' => ⟨h.1, h.2.1, AlignB.join h.2.2 h'⟩

theorem AlignB.nones {α : Type} {G : Gh} : ∀ (l : List α) {us : List Value}, us.length = l.length → AlignB G (l.map fun _ => none) us
  | [], [], _ => trivial
  | _ :: r, _ :: us, h => AlignB.nones r (us := us) (by simpa using h)

theorem Of_dj2 (h : ∀ i j, i ≠ j → Dj (φ i) (φ j)) {a b : List Nat} (hn : (a ++ b).Nodup) : Dj (Of φ a) (Of φ b) := by
  rintro x ⟨i, hi, hx⟩ ⟨j, hj, hx'⟩
  refine h i j ?_ x hx hx'
  rintro rfl
  exact (List.nodup_append.1 hn).2.2 i hi i hj rfl

theorem row_ow' (hr : Rel0 F σ a w S G φ) (S' : Nat → Prop) {id ver e sz rows} (ho : look .dead σ.objs id = .row ver e sz rows) : CR F.P w F.K S' [.ow e rows] [G.β id] (φ id) := by
  obtain ⟨hid, hsz, hGs, us, hk, hrs, hown, ψ, hb, hψ, hcr⟩ := hr.row ho
  subst hsz
  exact .ow (φ2 := no) hrs us hown ψ hb hψ hcr .nil (fun _ _ h => h.elim) (fun _ h => h) (fun _ h => h.elim)

theorem ownCell_sound (hr : Rel0 F σ a w S G φ) (S' : Nat → Prop) {v : V} {u : Value} {x : T} {d : Option Nat} (hv : VR F.P w F.K S G v u) (h : ownCell σ.objs v = some (x, d)) :
    CR F.P w F.K S' [x] [u] (Of φ (idsOf [d])) ∧ AlignB G [d] [u] := by
  unfold ownCell at h
  split at h
  · simp only [Option.some.injEq, Prod.mk.injEq] at h
    obtain ⟨rfl, rfl⟩ := h
    cases hv with | t hx _ => cases hx with | s h1 _ => exact ⟨.s h1 .nil, trivial⟩
  · simp only [Option.some.injEq, Prod.mk.injEq] at h
    obtain ⟨rfl, rfl⟩ := h
    cases hv with | t hx _ => cases hx with | im1 a1 a2 sz a3 vs a4 a5 _ => exact ⟨.im1 a1 a2 sz a3 vs a4 a5 .nil, trivial⟩
  · simp only [Option.some.injEq, Prod.mk.injEq] at h
    obtain ⟨rfl, rfl⟩ := h
    cases hv with | t hx _ => cases hx with | er _ => exact ⟨.er .nil, trivial⟩
  · split at h
    · rename_i ho
      simp only [Option.some.injEq, Prod.mk.injEq] at h
      obtain ⟨rfl, rfl⟩ := h
      cases hv with
      | rf hd hu _ _ =>
        subst hu
        exact ⟨(row_ow' hr S' ho).mono (fun b hb => ⟨_, by simp [idsOf], hb⟩), rfl, hd, trivial⟩
    · simp at h
  · simp at h

theorem ownCells_sound (hr : Rel0 F σ a w S G φ) (S' : Nat → Prop) : ∀ {vs : List V} {us : List Value} {ts : List T} {ds : List (Option Nat)}, VRs F.P w F.K S G vs us → ownCells σ.objs vs = some (ts, ds) → (idsOf ds).Nodup →
    CR F.P w F.K S' ts us (Of φ (idsOf ds)) ∧ AlignB G ds us
  | [], us, ts, ds, hv, h, hn => by
    simp only [ownCells, Option.some.injEq, Prod.mk.injEq] at h
    obtain ⟨rfl, rfl⟩ := h
    cases hv
    exact ⟨.nil, trivial⟩
  | c :: cs, us, ts, ds, hv, h, hn => by
    simp only [ownCells] at h
    split at h
    · simp at h
    · rename_i x d hx
      split at h
      · simp at h
      · rename_i xs ds' hxs
        simp only [Option.some.injEq, Prod.mk.injEq] at h
        obtain ⟨rfl, rfl⟩ := h
        obtain ⟨u, us, rfl, h1, h2⟩ := hv.uncons
        have e : idsOf (d :: ds') = idsOf [d] ++ idsOf ds' := by rw [← idsOf_append]; rfl
        rw [e] at hn ⊢
        obtain ⟨c1, a1⟩ := ownCell_sound hr S' h1 hx
        obtain ⟨c2, a2⟩ := ownCells_sound hr S' h2 hxs (List.nodup_append.1 hn).2.1
        refine ⟨?_, a1.join a2⟩
        have := c1.join c2 (Of_dj2 hr.dj hn) Of_app.1 Of_app.2
        simpa using this

theorem plainT_sound {P : Program} {K S S' : Nat → Prop} {G : Gh} : ∀ {cs : List V} {us : List Value} {ts : List T}, VRs P w K S G cs us → plainT cs = some ts → CR P w K S' ts us no
  | [], us, ts, hv, h => by
    simp only [plainT, Option.some.injEq] at h
    subst h
    cases hv
    exact .nil
  | c :: cs, us, ts, hv, h => by
    obtain ⟨u, us, rfl, h1, h2⟩ := hv.uncons
    simp only [plainT] at h
    split at h
    · simp at h
    · rename_i ts' hts
      have hrec := plainT_sound (S' := S') h2 hts
      split at h
      · simp only [Option.some.injEq] at h
        subst h
        cases h1 with
        | t hx _ => cases hx with | s h1 _ => exact .s h1 hrec
      · simp only [Option.some.injEq] at h
        subst h
        cases h1 with
        | t hx _ => cases hx with | im1 a1 a2 sz a3 vs a4 a5 _ => exact .im1 a1 a2 sz a3 vs a4 a5 hrec
      · simp at h

theorem ownOne_sound (hr : Rel0 F σ a w S G φ) (S' : Nat → Prop) {objsB : List (Nat × O)} {v : V} {u : Value} {A : A} {ds : List (Option Nat)} (hv : VR F.P w F.K S G v u) (h : argOne Ls σ.objs objsB true v = some (A, ds)) (hn : (idsOf ds).Nodup) :
    ∃ us, AS [A] [u] us ∧ CR F.P w F.K S' A.cells us (Of φ (idsOf ds)) ∧ AlignB G ds us := by
  unfold argOne at h
  simp only at h
  split at h
  · rename_i cs
    split at h
    · rename_i ts ds' hts
      simp only [Option.some.injEq, Prod.mk.injEq] at h
      obtain ⟨rfl, rfl⟩ := h
      cases hv with
      | ag hc _ =>
        rename_i us' _
        obtain ⟨hcr, hal⟩ := ownCells_sound hr S' hc hts hn
        exact ⟨us' ++ [], .ag (by rw [hcr.len]) .nil, by simpa [A.cells] using hcr, by simpa using hal⟩
    · simp at h
  · split at h
    · rename_i id _ e cs ho
      split at h
      · rename_i ts hts
        simp only [Option.some.injEq, Prod.mk.injEq] at h
        obtain ⟨rfl, rfl⟩ := h
        obtain ⟨g, us, hβ, hg, hus, hφ⟩ := hr.blk_lt ho
        cases hv with
        | pt hd hi hg' _ =>
          rw [hβ] at hg'
          obtain rfl : g = _ := by simpa [blk] using hg'
          have hp : (Value.pointer (some ⟨g, (0 : Int).toNat * G.sz id + 0, none⟩)) = .pointer (some ⟨g, 0, none⟩) := by simp
          rw [hp]
          refine ⟨[_], .v .nil, .bx (φ1 := φ id) (φ2 := no) us hg no ⟨hφ, fun h => h⟩ (fun _ h => h.elim) (plainT_sound hus hts) .nil (fun _ _ h => h) (fun b hb => ⟨_, by simp [idsOf], hb⟩) (fun _ h => h.elim), hβ.symm, hd, trivial⟩
      · simp at h
    · simp at h
  · split at h
    · rename_i x d hx
      simp only [Option.some.injEq, Prod.mk.injEq] at h
      obtain ⟨rfl, rfl⟩ := h
      obtain ⟨c1, a1⟩ := ownCell_sound hr S' hv hx
      exact ⟨[u], .v .nil, c1, a1⟩
    · simp at h

theorem argOne_sound (hr : Rel0 F σ a w S G φ) {ids : List Nat} {objsB : List (Nat × O)} (hB : Borrowable σ objsB ids) {own : Bool} {v : V} {u : Value} {A : A} {ds : List (Option Nat)} (hv : VR F.P w F.K S G v u) (h : argOne Ls σ.objs objsB own v = some (A, ds)) (hn : (idsOf ds).Nodup) :
    ∃ us, AS [A] [u] us ∧ CR F.P w F.K (Sx S φ ids) A.cells us (Of φ (idsOf ds)) ∧ AlignB G ds us := by
  cases own with
  | true => exact ownOne_sound hr _ hv h hn
  | false =>
    unfold argOne at h
    simp only at h
    split at h
    · rename_i cs
      split at h
      · rename_i ts hts
        simp only [Option.some.injEq, Prod.mk.injEq] at h
        obtain ⟨rfl, rfl⟩ := h
        cases hv with
        | ag hc _ =>
          rename_i us' _
          have hcr := lendAll_sound hr hB 200 hc hts
          refine ⟨us' ++ [], .ag (by rw [hcr.len]) .nil, ?_, by simpa using AlignB.nones ts hcr.len⟩
          rw [idsOf_none, List.append_nil]
          exact hcr.mono (fun _ h => h.elim)
      · simp at h
    · split at h
      · rename_i x hx
        simp only [Option.some.injEq, Prod.mk.injEq] at h
        obtain ⟨rfl, rfl⟩ := h
        exact ⟨[u], .v .nil, (lendCell_sound hr hB 200 hv hx).mono (fun _ h => h.elim), trivial⟩
      · simp at h

theorem AS.join {x : A} {v : Value} {us : List Value} (h : AS [x] [v] us) {as vs us'} (h' : AS as vs us') : AS (x :: as) (v :: vs) (us ++ us') := by
  cases h with
  | v h => cases h; exact .v h'
  | ag hl h => cases h; simpa using AS.ag hl h'

theorem argAll_sound (hr : Rel0 F σ a w S G φ) {ids : List Nat} {objsB : List (Nat × O)} (hB : Borrowable σ objsB ids) : ∀ {bs : List Bool} {vs : List V} {us : List Value} {as : List A} {ds : List (Option Nat)}, VRs F.P w F.K S G vs us → argAll Ls σ.objs objsB bs vs = some (as, ds) → (idsOf ds).Nodup →
    ∃ us', AS as us us' ∧ CR F.P w F.K (Sx S φ ids) (acells as) us' (Of φ (idsOf ds)) ∧ AlignB G ds us'
  | [], [], us, as, ds, hv, h, hn => by
    simp only [argAll, Option.some.injEq, Prod.mk.injEq] at h
    obtain ⟨rfl, rfl⟩ := h
    cases hv
    exact ⟨[], .nil, .nil, trivial⟩
  | [], _ :: _, us, as, ds, hv, h, hn => by simp [argAll] at h
  | _ :: _, [], us, as, ds, hv, h, hn => by simp [argAll] at h
  | b :: bs, v :: vs, us, as, ds, hv, h, hn => by
    obtain ⟨u, us, rfl, h1, h2⟩ := hv.uncons
    simp only [argAll] at h
    split at h
    · simp at h
    · rename_i x d hx
      split at h
      · simp at h
      · rename_i xs ds' hxs
        simp only [Option.some.injEq, Prod.mk.injEq] at h
        obtain ⟨rfl, rfl⟩ := h
        rw [idsOf_append] at hn ⊢
        obtain ⟨us1, s1, c1, a1⟩ := argOne_sound hr hB h1 hx (List.nodup_append.1 hn).1
        obtain ⟨us2, s2, c2, a2⟩ := argAll_sound hr hB h2 hxs (List.nodup_append.1 hn).2.1
        exact ⟨us1 ++ us2, s1.join s2, c1.join c2 (Of_dj2 hr.dj hn) Of_app.1 Of_app.2, a1.join a2⟩

theorem subB_mem : ∀ {l m : List Nat}, subB l m = true → ∀ i ∈ l, i ∈ m
  | [], m, _, i, h => by simp at h
  | x :: r, m, hs, i, h => by
    simp only [subB] at hs
    split at hs
    · rename_i hm
      rcases List.mem_cons.1 h with rfl | h
      · have mem : ∀ {d : Nat} {l : List Nat}, nodupB.memB d l = true → d ∈ l := by
          intro d l
          induction l with
          | nil => simp [nodupB.memB]
          | cons y r ih =>
            intro hx
            simp only [nodupB.memB] at hx
            cases hb : nq d y with
            | true => simp [nq_eq hb]
            | false => rw [hb] at hx; exact List.mem_cons_of_mem _ (ih hx)
        exact mem hm
      · exact subB_mem hs i h
    · simp at hs

theorem callFunc_enter {P : Program} {f : FuncId} {fn : Func} (h : P.funcs[f]? = some fn) (hn : (fn.name == "runtime.NumGoroutine") = false) (hb : fn.body.isNone = false) (args : Array Value) (w : World) : (callFunc f args).run P w = .ok (.enter f args) w := by
  have hn' : fn.name ≠ "runtime.NumGoroutine" := by simpa using hn
  have hb' : fn.body ≠ none := by intro e; simp [e] at hb
  simp [callFunc, h, hn', hb']

theorem borrow_ok (σ : St) (ids : List Nat) : Borrowable σ (deads ids ++ σ.objs) ids := by
  intro i hi
  rw [look_append] at hi ⊢
  split at hi
  · rw [look_deads] at hi; exact absurd rfl hi
  · rename_i hk
    rw [if_neg hk]
    exact ⟨rfl, fun h => hk ((hasKey_deads ids i).2 h)⟩

theorem AlignB.dom {G : Gh} : ∀ {ds us}, AlignB G ds us → ∀ i ∈ idsOf ds, G.dom i
  | [], [], _, i, h => by simp [idsOf] at h
  | none :: ds, _ :: us, h, i, hi => AlignB.dom (ds := ds) (us := us) h i hi
  | some id :: ds, u :: us, h, i, hi => by
    rcases List.mem_cons.1 hi with rfl | hi
    · exact h.2.1
    · exact AlignB.dom h.2.2 i hi

theorem stepC_sound (hr : Rel0 F σ a w S G φ) (ht : TabOk F.P tab) {o : Oper} {c : Call} (ho : o.op = .call c) {id : Nat} {sup : Option Sup} {ps : List Prop} {v : V} {objs' : List (Nat × O)} (h : stepC F.P Ls tab σ id c sup = some (ps, v, objs')) (hp : AllP ps) (hc : ConstsOk o.op)
    {next : Act → World → Prop} {Q : Exit → Act → World → Prop} (hnext : ∀ K S' u w' G' φ', KLe F K → Rel0 (F.up K) ⟨σ.n, σ.nx, σ.env, objs'⟩ a w' S' G' φ' → VR F.P w' K S' G' v u → next (a.put o.dst u) w') : o.wp F.P a w next Q := by
  unfold stepC at h
  split at h
  · rename_i f own outs res hcal
    split at h
    · rename_i pf g caps pa vs hf hvs
      split at h
      · rename_i as0 ds0 h0
        split at h
        · rename_i as ds h1
          split at h
          · rename_i objs hsub hnd hlen hback
            split at h
            · rename_i rs objs2 hres
              have hps : AllP (pf ++ pa ++ [AC F.P g as outs res]) ∧ objs' = objs2 ∧ (∀ K S G us w', VRs F.P w' K S G rs us → VR F.P w' K S G v (tup us)) := by
                split at h
                · rename_i r
                  simp only [Option.some.injEq, Prod.mk.injEq] at h
                  obtain ⟨rfl, rfl, rfl⟩ := h
                  refine ⟨hp, rfl, fun K S G us w' hv => ?_⟩
                  obtain ⟨u, us, rfl, h1, h2⟩ := hv.uncons
                  cases h2
                  exact h1
                · rename_i hne
                  simp only [Option.some.injEq, Prod.mk.injEq] at h
                  obtain ⟨rfl, rfl, rfl⟩ := h
                  refine ⟨hp, rfl, fun K S G us w' hv => ?_⟩
                  have : tup us = .tuple us.toArray := by
                    match us, rs, hv.len with
                    | [], _, _ => rfl
                    | [u], [r], _ => exact absurd rfl (hne r)
                    | _ :: _ :: _, _, _ => rfl
                  rw [this]
                  exact .tu hv .nil
              obtain ⟨hps, rfl, hv⟩ := hps
              rw [AllP_append, AllP_append] at hps
              obtain ⟨⟨hpf, hpa⟩, hac, _⟩ := hps
              have hfv := got hr (hc f (by simp [ho, Op.operands, Call.operands, hcal])) hf hpf
              have hav := evs_sound hr c.args.toList (fun x hx => hc x (by simp [ho, Op.operands, Call.operands, Array.mem_toList_iff.1 hx])) (by rw [hvs]; exact hpa)
              rw [hvs] at hav
              obtain ⟨capsV, hfe, hcaps⟩ : ∃ capsV, a.eval f = .func (.func g) #[] capsV.toArray ∧ VRs F.P w F.K S G caps capsV := by
                generalize a.eval f = uf at hfv
                cases hfv with
                | fn hc _ => exact ⟨_, rfl, hc⟩
              have hids := subB_mem hsub
              have hdn := nodupB_iff _ hnd
              obtain ⟨us', has, hcr, hal⟩ := argAll_sound hr (borrow_ok σ (idsOf ds0)) (hav.append hcaps) h1 hdn
              obtain ⟨⟨fn, hfn, hnm, hbd⟩, hac⟩ := hac
              have hcall := hac w F.K (Sx S φ (idsOf ds0)) (Of φ (idsOf ds)) _ us' (fun b hb => .inl (hr.KS b hb)) (fun b hb => by
                rcases hb with hb | ⟨i, _, hb⟩
                · exact hr.Slt b hb
                · exact (hr.own i b hb).1) (fun b ⟨i, hi, hb⟩ => ⟨(hr.own i b hb).1, fun hs => by
                  rcases hs with hs | ⟨j, hj, hs⟩
                  · exact (hr.own i b hb).2.1 hs
                  · exact hr.dj i j (fun e => hj (e ▸ hids i hi)) b hb hs⟩) has hcr
              unfold Oper.wp
              have hex : (execOp a.eval o).run F.P w = .ok (.enter g ((c.args.toList.map a.eval) ++ capsV).toArray) w := by
                obtain ⟨dst, op, type, pos, after, guard⟩ := o
                simp only at ho
                subst ho
                have e : (c.args.map a.eval) ++ capsV.toArray = ((c.args.toList.map a.eval) ++ capsV).toArray := by
                  simp
                simp [execOp, resolve, hcal, hfe, Deferred.ofValue, invoke, callFunc_enter hfn hnm hbd]
              rw [hex, Oper.upon_enter]
              refine Calls.mono hcall fun e w' he => ?_
              obtain ⟨rs', us2, φ2, K', rfl, has2, hcr2, hφ2, hk, hKK, hK'⟩ := he
              have hD := (hr.lent hal.dom hk).up (K := K') hKK (fun b hb => (hK' b hb).elim (fun h => Nat.lt_of_lt_of_le (hr.Slt b (hr.KS b h)) hk.size) (fun h => h.1)) (fun i b hi hb => by
                skip
                split at hi
                · exact hi
                · rename_i hni
                  rcases hK' b hb with h | ⟨_, ⟨d, hd, hb'⟩ | hge⟩
                  · exact (hr.own i b hi).2.1 (hr.KS b h)
                  · exact hr.dj i d (fun e => hni (e ▸ hd)) b hi hb'
                  · exact absurd (hr.own i b hi).1 (by omega))
              have hx : Loose (F.up K') w' (fun b => S b ∨ K' b) (fun i b => if i ∈ idsOf ds then False else φ i b) φ2 := by
                intro b hb
                obtain ⟨hlt, hnk, hor⟩ := hφ2 b hb
                rcases hor with ⟨d, hd, hb'⟩ | hge
                · obtain ⟨_, h2, h3⟩ := hr.own d b hb'
                  refine ⟨hlt, fun h => h.elim h2 hnk, h3, fun i hi => ?_⟩
                  simp only at hi
                  split at hi
                  · exact hi
                  · rename_i hni
                    exact hr.dj i d (fun e => hni (e ▸ hd)) b hi hb'
                · refine ⟨hlt, fun hs => hs.elim (fun hs => absurd (hr.Slt b hs) (by omega)) hnk, .inl (Nat.le_trans hr.kept.size hge), fun i hi => ?_⟩
                  simp only at hi
                  split at hi
                  · exact hi
                  · exact absurd (hr.own i b hi).1 (by omega)
              obtain ⟨G1, φ1, χ1, g1, b1, b2, b3⟩ := back_sound (σ := σ) (objs := σ.objs) hback hD hdn hal (by
                rw [← lenN_eq, ← lenN_eq]; exact beq_true hlen) (fun i hi ver e sz rows hro => by
                  obtain ⟨_, h1, h2, _⟩ := hr.row hro
                  exact ⟨h1, h2⟩) hcr2 hx
              obtain ⟨G2, φ3, g2, c1, c2⟩ := openRes_sound (F := F.up K') (σ := σ) ht hres b1 has2 b2 b3
              exact hnext K' _ _ _ G2 φ3 ⟨hKK, fun b hb => (hK' b hb).imp (fun h => h) fun ⟨_, h⟩ => by
                rcases h with ⟨d, hd, hb'⟩ | hge
                · exact (hr.own d b hb').2.2
                · exact .inl (Nat.le_trans hr.kept.size hge)⟩ c1.rel (hv _ _ _ _ _ c2)
            · simp at h
          · simp at h
        · simp at h
      · simp at h
    · simp at h
  · simp at h

end Go.Proofs.Ytgicjbeaomjdgaa.L
