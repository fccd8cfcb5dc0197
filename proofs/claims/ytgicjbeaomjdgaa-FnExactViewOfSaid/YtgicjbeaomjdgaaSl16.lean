/- A function's entry and end are sound: a contract out of a run. -/
import Derived.Test.YtgicjbeaomjdgaaSl15
namespace Go.Proofs.Ytgicjbeaomjdgaa.L
set_option linter.unusedVariables false
set_option linter.unusedSimpArgs false
open Go

variable {F : Fr} {σ : St} {a : Act} {w : World} {S : Nat → Prop} {G : Gh} {φ : Nat → Nat → Prop} {tab : List (Nat × Ty)}

theorem openA_sound (ht : TabOk F.P tab) : ∀ {cs : List T} {objs objs' : List (Nat × O)} {id id' : Nat} {vs : List V} {ds : List (Option Nat)} {us : List Value} {G : Gh} {φ : Nat → Nat → Prop} {χ : Nat → Prop}, openA tab σ.nx objs id cs = some (vs, objs', id', ds) → RelD F ⟨σ.n, σ.nx, σ.env, objs⟩ a w S G φ [] →
    CR F.P w F.K S cs us χ → Loose F w S φ χ →
    ∃ G' φ', G.le G' ∧ RelD F ⟨σ.n, σ.nx, σ.env, objs'⟩ a w S G' φ' [] ∧ VRs F.P w F.K S G' vs us ∧ AlignB G' ds us
  | [], objs, objs', id, id', vs, ds, us, G, φ, χ, h, hr, hc, hx => by
    simp only [openA, Option.some.injEq, Prod.mk.injEq] at h
    obtain ⟨rfl, rfl, _, rfl⟩ := h
    cases hc
    exact ⟨G, φ, Gh.le.refl G, hr, .nil, trivial⟩
  | c :: cs, objs, objs', id, id', vs, ds, us, G, φ, χ, h, hr, hc, hx => by
    obtain ⟨u, us, φ1, φ2, rfl, h1, h2, hd12, s1, s2⟩ := hc.uncons
    have plain : ∀ {v : V}, (match openA tab σ.nx objs id cs with | some (vs, os, id', ds) => some (v :: vs, os, id', none :: ds) | none => none) = some (vs, objs', id', ds) → (∀ G', VR F.P w F.K S G' v u) → ∃ G' φ', G.le G' ∧ RelD F ⟨σ.n, σ.nx, σ.env, objs'⟩ a w S G' φ' [] ∧ VRs F.P w F.K S G' vs (u :: us) ∧ AlignB G' ds (u :: us) := by
      intro v h hv
      split at h
      · rename_i vs' os i' ds' hrec
        simp only [Option.some.injEq, Prod.mk.injEq] at h
        obtain ⟨rfl, rfl, rfl, rfl⟩ := h
        obtain ⟨G', φ', a1, a2, a3, a4⟩ := openA_sound ht hrec hr h2 (hx.less s2)
        exact ⟨G', φ', a1, a2, .cons (hv G') a3, a4⟩
      · simp at h
    simp only [openA] at h
    cases c with
    | s v => exact plain h fun G' => by cases h1 with | s h1 _ => exact VR.s h1
    | jk => exact plain h fun G' => .any u
    | er => exact plain h fun G' => by cases h1 with | er _ => exact .t (.er .nil) .nil
    | im k r =>
      refine plain h fun G' => ?_
      cases h1 with
      | im0 hn hcc sz hs vs hA hr' _ => exact .t (.im0 hn hcc sz hs vs hA hr' .nil) .nil
      | im1 hn hcc sz hs vs hA hr' _ => exact .t (.im1 hn hcc sz hs vs hA hr' .nil) .nil
    | ip cs => exact plain h fun G' => by cases h1 with | ip vs hS hA hr' _ => exact .t (.ip vs hS hA hr' .nil) .nil
    | fn f cs => exact plain h fun G' => by cases h1 with | fn vs hr' _ => exact .t (.fn vs hr' .nil) .nil
    | ow e rows =>
      simp only at h
      split at h
      · rename_i ty hty hf
        split at h
        · rename_i vs' os i' ds' hrec
          simp only [Option.some.injEq, Prod.mk.injEq] at h
          obtain ⟨rfl, rfl, rfl, rfl⟩ := h
          have hce := cellsOf_ty (ht _ _ hty)
          cases h1 with
          | ow hs vs hown ψ hbb hψ hcr hnil hd0 s3 s4 =>
            have h1v : u.oneCell' = true := by rcases hown.2 with ⟨rfl, _⟩ | ⟨g, cap, cur, rfl, _⟩ <;> rfl
            obtain ⟨φ', hle, hr', hx'⟩ := hr.come (id := id) hf (v := u) (sz := ty.size) (k := some (rows, vs)) (o := .row 0 e ty.size rows) hx s1 hd12 s2 ⟨.inr rfl, hce.symm, by simp [Gh.add], vs, by simp [Gh.add], by rw [← hce]; exact hs, by rw [← hce]; simpa [Gh.add] using hown, ψ, fun b hb => by
              have hb : u.ownBlock = some b := by simpa [Gh.add] using hb
              exact ⟨s3 b (hbb b hb).1, (hbb b hb).2⟩, fun b hb => s3 b (hψ b hb), hcr⟩
            obtain ⟨G', φ'', a1, a2, a3, a4⟩ := openA_sound ht hrec hr' h2 hx'
            have hβ : u = G'.β id := by rw [a1.β id (.inr rfl)]; simp [Gh.add]
            exact ⟨G', φ'', hle.trans a1, a2, .cons (.rf (a1.dom _ (.inr rfl)) hβ h1v .nil) a3, hβ, a1.dom _ (.inr rfl), a4⟩
        · simp at h
      · simp at h
    | bx e xs =>
      simp only at h
      split at h
      · rename_i us0 hpl hf
        split at h
        · rename_i vs' os i' ds' hrec
          simp only [Option.some.injEq, Prod.mk.injEq] at h
          obtain ⟨rfl, rfl, rfl, rfl⟩ := h
          cases h1 with
          | @bx _ _ _ _ _ _ g _ _ vs hg ψ hbb hψ hcr hnil hd0 s3 s4 =>
            obtain ⟨φ', hle, hr', hx'⟩ := hr.come (id := id) hf (v := .pointer (some ⟨g, 0, none⟩)) (sz := 0) (k := none) (o := .box e us0) hx s1 hd12 s2 ⟨.inr rfl, g, vs, by simp [Gh.add], hg, s3 _ hbb.1, plainV_sound hpl hcr hr.KS⟩
            obtain ⟨G', φ'', a1, a2, a3, a4⟩ := openA_sound ht hrec hr' h2 hx'
            have hβ : Value.pointer (some ⟨g, 0, none⟩) = G'.β id := by rw [a1.β id (.inr rfl)]; simp [Gh.add]
            refine ⟨G', φ'', hle.trans a1, a2, .cons ?_ a3, hβ, a1.dom _ (.inr rfl), a4⟩
            have hp : VR F.P w F.K S G' (.pt id 0 0) (.pointer (some ⟨g, (0 : Int).toNat * G'.sz id + 0, none⟩)) := .pt (a1.dom _ (.inr rfl)) (Int.le_refl _) (by rw [a1.β id (.inr rfl)]; simp [Gh.add, blk]) .nil
            simpa using hp
        · simp at h
      · simp at h

theorem VRs.take_drop {P K} {vs : List V} {us : List Value} (h : VRs P w K S G vs us) (n : Nat) : VRs P w K S G (vs.take n) (us.take n) ∧ VRs P w K S G (vs.drop n) (us.drop n) := ⟨h.take n, h.drop n⟩

theorem regroup_sound {P : Program} {K : Nat → Prop} : ∀ {args : List A} {vs l : List V} {us xs : List Value}, regroup args vs = some l → AS args xs us → VRs P w K S G vs us → VRs P w K S G l xs
  | [], [], l, us, xs, h, has, hv => by
    simp only [regroup, Option.some.injEq] at h
    subst h
    cases has
    exact .nil
  | [], _ :: _, l, us, xs, h, has, hv => by simp [regroup] at h
  | .v x :: r, [], l, us, xs, h, has, hv => by simp [regroup] at h
  | .v x :: r, v :: vs, l, us, xs, h, has, hv => by
    simp only [regroup] at h
    split at h
    · rename_i l' hrec
      simp only [Option.some.injEq] at h
      subst h
      cases has with
      | v has =>
        obtain ⟨u, us, he, h1, h2⟩ := hv.uncons
        simp only [List.cons.injEq] at he
        obtain ⟨rfl, rfl⟩ := he
        exact .cons h1 (regroup_sound hrec has h2)
    · simp at h
  | .ag ts :: r, vs, l, us, xs, h, has, hv => by
    simp only [regroup] at h
    split at h
    · rename_i l' hrec
      simp only [Option.some.injEq] at h
      subst h
      cases has with
      | ag hl has =>
        rename_i us0 vs0 us1
        rw [lenN_eq, ← hl] at hrec
        rw [lenN_eq, ← hl, takeN_eq]
        rw [dropN_eq] at hrec
        have h1 := hv.take us0.length
        have h2 := hv.drop us0.length
        rw [List.take_left] at h1
        rw [List.drop_left] at h2
        exact .ag h1 (regroup_sound hrec has h2)
    · simp at h

theorem look_numb : ∀ (vs : List V) (k t : Nat), look V.u (numb k vs) t = if k ≤ t then (vs[t - k]?).getD .u else .u
  | [], k, t => by simp [numb, look]
  | v :: r, k, t => by
    rw [numb, look_cons, look_numb r (k + 1) t]
    by_cases h : t = k
    · subst h; simp
    · rw [if_neg h]
      by_cases h2 : k + 1 ≤ t
      · rw [if_pos h2, if_pos (by omega), show t - k = (t - (k + 1)) + 1 by omega]
        simp
      · rw [if_neg h2, if_neg (by omega)]

def ancOf : List (Option Nat) → List Value → Nat → Option Value
  | some j :: ds, u :: us, i => if i = j then some u else ancOf ds us i
  | none :: ds, _ :: us, i => ancOf ds us i
  | _, _, _ => none

theorem ancOf_ok {G : Gh} : ∀ {ds us}, AlignB G ds us → ∀ i v, ancOf ds us i = some v → G.dom i ∧ G.β i = v
  | [], [], _, i, v, h => by simp [ancOf] at h
  | none :: ds, _ :: us, ha, i, v, h => ancOf_ok (ds := ds) (us := us) ha i v (by simpa only [ancOf] using h)
  | some j :: ds, u :: us, ha, i, v, h => by
    simp only [ancOf] at h
    split at h
    · rename_i e
      subst e
      simp only [Option.some.injEq] at h
      subst h
      exact ⟨ha.2.1, ha.1.symm⟩
    · exact ancOf_ok ha.2.2 i v h

theorem regroup_len : ∀ {args : List A} {vs l : List V}, regroup args vs = some l → l.length = args.length
  | [], [], l, h => by simp only [regroup, Option.some.injEq] at h; subst h; rfl
  | [], _ :: _, l, h => by simp [regroup] at h
  | .v x :: r, [], l, h => by simp [regroup] at h
  | .v x :: r, v :: vs, l, h => by
    simp only [regroup] at h
    split at h
    · rename_i l' hrec
      simp only [Option.some.injEq] at h
      subst h
      simp [regroup_len hrec]
    · simp at h
  | .ag ts :: r, vs, l, h => by
    simp only [regroup] at h
    split at h
    · rename_i l' hrec
      simp only [Option.some.injEq] at h
      subst h
      simp [regroup_len hrec]
    · simp at h

theorem AS.len {as : List A} {vs us : List Value} (h : AS as vs us) : vs.length = as.length := by
  induction h <;> simp_all

theorem entry_sound {P : Program} (ht : TabOk P tab) {n : Nat} {args : List A} {σ : St} {ds : List (Option Nat)} (he : entry tab n args = some (σ, ds)) {w : World} {K S φ : Nat → Prop} {xs us : List Value} (hKS : Sub K S) (hS : ∀ b, S b → b < w.heap.size) (hφ : ∀ b, φ b → b < w.heap.size ∧ ¬ S b)
    (has : AS args xs us) (hcr : CR P w K S (acells args) us φ) : Rel ⟨P, w, φ, K, ancOf ds us⟩ σ ⟨xs.toArray ++ Array.replicate (n - xs.toArray.size) undef, []⟩ w := by
  unfold entry at he
  split at he
  · rename_i vs os id ds' ho
    split at he
    · rename_i l hl
      split at he
      · rename_i hn
        simp only [Option.some.injEq, Prod.mk.injEq] at he
        obtain ⟨rfl, rfl⟩ := he
        have hlen : xs.length ≤ n := by
          have := ble_true hn
          rw [lenN_eq] at this
          have h1 := regroup_len hl
          have h2 := has.len
          omega
        have hr0 : RelD ⟨P, w, φ, K, fun _ => none⟩ ⟨n, 0, [], []⟩ ⟨xs.toArray ++ Array.replicate (n - xs.toArray.size) undef, []⟩ w S ⟨fun _ => False, fun _ => undef, fun _ => 0, fun _ _ => none⟩ (fun _ _ => False) [] := by
          refine ⟨fun _ h => h.elim, fun _ _ _ h => by simp at h, ?_, hKS, hS, fun t => .any _, fun _ _ => trivial, fun _ _ _ _ h => h.elim, fun _ _ h => h.elim, Kept.refl _ _, rfl, fun _ _ h => by simp at h, by simp, by simp⟩
          simp
          omega
        obtain ⟨G, ψ, _, h1, h2, h3⟩ := openA_sound (F := ⟨P, w, φ, K, fun _ => none⟩) (σ := ⟨n, 0, [], []⟩) ht ho hr0 hcr (fun b hb => ⟨(hφ b hb).1, (hφ b hb).2, .inr hb, fun _ h => h⟩)
        have h4 := regroup_sound hl has h2
        refine ⟨K, KLe.refl _, S, G, ψ, fun i hi => .inr ?_, h1.kd, h1.n, h1.KS, h1.Slt, fun t => ?_, h1.rel.obj, h1.dj, h1.own, h1.kept, h1.defs, ancOf_ok h3⟩
        · exact (h1.nx i hi).resolve_left (Nat.not_lt_zero _)
        · show VR P w K S G (look .u (numb 0 l) t) _
          rw [look_numb, if_pos (Nat.zero_le _), Nat.sub_zero]
          cases hx : l[t]? with
          | none => exact .any _
          | some v =>
            obtain ⟨u, hu, hv⟩ := h4.nth hx
            have : (xs.toArray ++ Array.replicate (n - xs.toArray.size) undef).getD t undef = u := by
              have hlt := (List.getElem?_eq_some_iff.1 hu).1
              rw [Array.getD_eq_getD_getElem?, Array.getElem?_append_left (by simpa using hlt)]
              simp [hu]
            rw [this]
            exact hv
      · simp at he
    · simp at he
  · simp at he

/-! ### the end -/

theorem resV_sound (hr : Rel0 F σ a w S G φ) (ht : TabOk F.P tab) {r : ResultVar} {v : V} (h : resV tab σ r = some v) :
    ∃ u, ((match r with | .tmp t => pure (a.tmps.getD t undef) | .cell x t => do loadVar t (← asAddr (a.tmps.getD x undef)) : Sem Value)).run F.P w = .ok u w ∧ VR F.P w F.K S G v u := by
  cases r with
  | tmp t =>
    simp only [resV] at h
    split at h
    · rename_i v' hs
      simp only [Option.some.injEq] at h
      subst h
      have := (hr.env t).strip (by rw [hs]; trivial)
      rw [hs] at this
      exact ⟨_, rfl, this⟩
    · simp at h
  | cell x t =>
    simp only [resV] at h
    split at h
    · rename_i id ty hx hty
      split at h
      · rename_i e cs ho
        split at h
        · rename_i hle
          have hv := hr.env x
          rw [hx] at hv
          have := load_box hr (ht _ _ hty) (j := 0) ho hv (by rw [Nat.zero_add, ← lenN_eq]; exact ble_true hle) (v := v) (by rw [List.drop_zero, ← takeN_eq]; exact h)
          obtain ⟨z, h1, h2⟩ := this
          refine ⟨z, ?_, h2⟩
          show ((do loadVar t (← asAddr (a.tmps.getD x undef))) : Sem Value).run F.P w = _
          generalize a.tmps.getD x undef = u at hv h1 ⊢
          cases hv with
          | pt _ _ _ _ => simpa [asAddr, Instr.loadAt, Instr.sureAddr] using h1
        · simp at h
      · simp at h
    · simp at h

theorem resVs_sound (hr : Rel0 F σ a w S G φ) (ht : TabOk F.P tab) : ∀ {rs : List ResultVar} {vs : List V}, resVs tab σ rs = some vs →
    ∃ us, ((rs.mapM fun r => match r with | .tmp t => pure (a.tmps.getD t undef) | .cell x t => do loadVar t (← asAddr (a.tmps.getD x undef)) : Sem (List Value))).run F.P w = .ok us w ∧ VRs F.P w F.K S G vs us
  | [], vs, h => by
    simp only [resVs, Option.some.injEq] at h
    subst h
    exact ⟨[], rfl, .nil⟩
  | r :: rs, vs, h => by
    simp only [resVs] at h
    split at h
    · simp at h
    · rename_i v hv
      split at h
      · simp at h
      · rename_i vs' hvs
        simp only [Option.some.injEq] at h
        subst h
        obtain ⟨u, h1, h2⟩ := resV_sound hr ht hv
        obtain ⟨us, h3, h4⟩ := resVs_sound hr ht hvs
        refine ⟨u :: us, ?_, .cons h2 h4⟩
        simp only [List.mapM_cons, Sem.run_bind, h1, Result.andThen_ok, Sem.run_pure, h3]

theorem results_run {fn : Func} {tmps : Array Value} {P : Program} {us : List Value} (h : ((fn.results.toList.mapM fun r => match r with | .tmp t => pure (tmps.getD t undef) | .cell x t => do loadVar t (← asAddr (tmps.getD x undef)) : Sem (List Value))).run P w = .ok us w) :
    (results fn tmps).run P w = .ok (tup us) w := by
  have hm : ((fn.results.mapM fun r => match r with | .tmp t => pure (tmps.getD t undef) | .cell x t => do loadVar t (← asAddr (tmps.getD x undef)) : Sem (Array Value))).run P w = .ok us.toArray w := by
    rw [Array.mapM_eq_mapM_toList]
    rw [← bind_pure_comp]
    simp only [Sem.run_bind, h, Result.andThen_ok, Sem.run_pure]
  unfold results
  simp only [Sem.run_bind, Sem.run_pure]
  refine (congrArg (fun r => Result.andThen r _) hm).trans ?_
  simp only [Result.andThen_ok]
  match us with
  | [] => rfl
  | [u] => rfl
  | u :: v :: r => simp [tup]

theorem outC_sound (hr : Rel0 F σ a w S G φ) : ∀ {ds : List (Option Nat)} {ts : List T} {l : List Nat} {us : List Value}, outC σ.objs ds = some (ts, l) → AlignB G ds us → (∀ u ∈ us, u.oneCell' = true) → l.Nodup → CR F.P w F.K F.K ts us (Of φ l)
  | [], ts, l, us, h, ha, h1, hn => by
    simp only [outC, Option.some.injEq, Prod.mk.injEq] at h
    obtain ⟨rfl, rfl⟩ := h
    match us, ha with
    | [], _ => exact .nil
  | none :: ds, ts, l, us, h, ha, h1, hn => by
    simp only [outC] at h
    split at h
    · rename_i ts' l' hrec
      simp only [Option.some.injEq, Prod.mk.injEq] at h
      obtain ⟨rfl, rfl⟩ := h
      match us, ha with
      | u :: us, ha => exact .jk (h1 u (by simp)) (outC_sound hr hrec ha (fun u hu => h1 u (by simp [hu])) hn)
    · simp at h
  | some id :: ds, ts, l, us, h, ha, h1, hn => by
    simp only [outC] at h
    split at h
    · simp at h
    · rename_i ts' l' hrec
      match us, ha with
      | u :: us, ha =>
        obtain ⟨rfl, hd, ha⟩ := ha
        have h1' : ∀ u ∈ us, u.oneCell' = true := fun u hu => h1 u (by simp [hu])
        split at h
        · rename_i ver e sz rows ho
          simp only [Option.some.injEq, Prod.mk.injEq] at h
          obtain ⟨rfl, rfl⟩ := h
          have hn' := List.nodup_cons.1 hn
          have := (row_ow hr ho).join (outC_sound hr hrec ha h1' hn'.2) (φ := Of φ (id :: l')) (fun b hb ⟨j, hj, hb'⟩ => hr.dj id j (fun e => hn'.1 (e ▸ hj)) b hb hb') (fun b hb => ⟨id, by simp, hb⟩) (fun b ⟨j, hj, hb⟩ => ⟨j, by simp [hj], hb⟩)
          simpa using this
        · rename_i e cs ho
          split at h
          · rename_i xs hxs
            simp only [Option.some.injEq, Prod.mk.injEq] at h
            obtain ⟨rfl, rfl⟩ := h
            have hn' := List.nodup_cons.1 hn
            obtain ⟨g, vs, hβ, hg, hus, hφ⟩ := hr.blk_lt ho
            have hb : CR F.P w F.K F.K [.bx e xs] [G.β id] (φ id) := by
              rw [hβ]
              exact .bx (φ1 := φ id) (φ2 := no) vs hg no ⟨hφ, fun h => h⟩ (fun _ h => h.elim) (plainT_sound hus hxs) .nil (fun _ _ h => h) (fun b hb => hb) (fun _ h => h.elim)
            have := hb.join (outC_sound hr hrec ha h1' hn'.2) (φ := Of φ (id :: l')) (fun b hb ⟨j, hj, hb'⟩ => hr.dj id j (fun e => hn'.1 (e ▸ hj)) b hb hb') (fun b hb => ⟨id, by simp, hb⟩) (fun b ⟨j, hj, hb⟩ => ⟨j, by simp [hj], hb⟩)
            simpa using this
          · simp at h
        · simp only [Option.some.injEq, Prod.mk.injEq] at h
          obtain ⟨rfl, rfl⟩ := h
          exact .jk (h1 _ (by simp)) (outC_sound hr hrec ha h1' hn)

theorem ownAll_sound (hr : Rel0 F σ a w S G φ) (S' : Nat → Prop) {objsB : List (Nat × O)} : ∀ {vs : List V} {us : List Value} {as : List A} {ds : List (Option Nat)}, VRs F.P w F.K S G vs us → argAll Ls σ.objs objsB (trues vs) vs = some (as, ds) → (idsOf ds).Nodup →
    ∃ us', AS as us us' ∧ CR F.P w F.K S' (acells as) us' (Of φ (idsOf ds))
  | [], us, as, ds, hv, h, hn => by
    simp only [trues, argAll, Option.some.injEq, Prod.mk.injEq] at h
    obtain ⟨rfl, rfl⟩ := h
    cases hv
    exact ⟨[], .nil, .nil⟩
  | v :: vs, us, as, ds, hv, h, hn => by
    obtain ⟨u, us, rfl, h1, h2⟩ := hv.uncons
    simp only [trues, argAll] at h
    split at h
    · simp at h
    · rename_i x d hx
      split at h
      · simp at h
      · rename_i xs ds' hxs
        simp only [Option.some.injEq, Prod.mk.injEq] at h
        obtain ⟨rfl, rfl⟩ := h
        rw [idsOf_append] at hn ⊢
        obtain ⟨us1, s1, c1, _⟩ := ownOne_sound hr S' h1 hx (List.nodup_append.1 hn).1
        obtain ⟨us2, s2, c2⟩ := ownAll_sound hr S' h2 hxs (List.nodup_append.1 hn).2.1
        exact ⟨us1 ++ us2, s1.join s2, c1.join c2 (Of_dj2 hr.dj hn) Of_app.1 Of_app.2⟩

/-- What a function's end must be. -/
def EndQ (tab : List (Nat × Ty)) (rs : List ResultVar) (ds : List (Option Nat)) (outs res : List A) (σ : St) : Prop :=
  finish tab rs ds σ = some (acells outs, res)

def endQ (N : St → Prop) : Exit → St → Prop
  | .normal, σ => N σ
  | .ret, σ => N σ
  | _, _ => False

theorem ancOf_in : ∀ {ds : List (Option Nat)} {us : List Value} {i v}, ancOf ds us i = some v → i ∈ idsOf ds
  | [], us, i, v, h => by cases us <;> simp [ancOf] at h
  | none :: ds, [], i, v, h => by simp [ancOf] at h
  | some _ :: ds, [], i, v, h => by simp [ancOf] at h
  | none :: ds, _ :: us, i, v, h => ancOf_in (ds := ds) (us := us) (by simpa only [ancOf] using h)
  | some k :: ds, u :: us, i, v, h => by
    simp only [ancOf] at h
    split at h
    · rename_i e; subst e; simp [idsOf]
    · exact List.mem_cons_of_mem _ (ancOf_in h)

theorem ancOf_mem : ∀ {ds : List (Option Nat)} {us : List Value} {G : Gh}, us.length = ds.length → (idsOf ds).Nodup → (∀ i v, ancOf ds us i = some v → G.dom i ∧ G.β i = v) → AlignB G ds us
  | [], [], G, _, _, _ => trivial
  | none :: ds, u :: us, G, hl, hn, h => ancOf_mem (ds := ds) (us := us) (by simpa using hl) hn (fun i v hi => h i v (by simpa only [ancOf] using hi))
  | some j :: ds, u :: us, G, hl, hn, h => by
    rw [idsOf_cons] at hn
    obtain ⟨h1, h2⟩ := h j u (by simp [ancOf])
    refine ⟨h2.symm, h1, ancOf_mem (by simpa using hl) (List.nodup_cons.1 hn).2 fun i v hi => h i v ?_⟩
    simp only [ancOf]
    rw [if_neg]
    · exact hi
    · rintro rfl
      exact (List.nodup_cons.1 hn).1 (ancOf_in hi)

/-- THE CONTRACT OUT OF A RUN. -/
theorem AC.of_run {P : Program} (ht : TabOk P tab) {f : FuncId} {fn : Func} {c : Code} {args outs res : List A} {σ : St} {ds : List (Option Nat)} (hf : P.funcs[f]? = some fn) (hnm : (fn.name == "runtime.NumGoroutine") = false) (hb : fn.body = some c)
    (he : entry tab fn.ntmps args = some (σ, ds)) (hds : (idsOf ds).Nodup ∧ ds.length = (acells args).length) (h : ∀ F : Fr, F.P = P → (∀ i v, F.anc i = some v → i ∈ idsOf ds) → Run F σ c (endQ (EndQ tab fn.results.toList ds outs res))) : AC P f args outs res := by
  refine ⟨⟨fn, hf, hnm, by simp [hb]⟩, ?_⟩
  intro w K S φ vs us hKS hS hφ has hcr
  have hrel := entry_sound ht he hKS hS hφ has hcr
  refine calls_of_wp hf hb (Code.wp_mono (fun e a' w' hq => ?_) (h _ rfl (fun i v hi => ancOf_in hi) _ _ hrel))
  obtain ⟨σ', hq, K', hK, S', G, φ', hr⟩ := hq
  have key : EndQ tab fn.results.toList ds outs res σ' → a'.defers = [] ∧ ∃ v, (results fn a'.tmps).run P w' = .ok v w' ∧ ∃ rs us' φ' K', Ending.returned v = .returned (tup rs) ∧ AS res rs us' ∧ CR P w' K' K' (acells outs ++ acells res) (us ++ us') φ' ∧ (∀ b, φ' b → b < w'.heap.size ∧ ¬ K' b ∧ (φ b ∨ w.heap.size ≤ b)) ∧ Kept w w' φ ∧ Sub K K' ∧ (∀ b, K' b → K b ∨ (b < w'.heap.size ∧ (φ b ∨ w.heap.size ≤ b))) := by
    intro hE
    refine ⟨hr.defs, ?_⟩
    unfold EndQ finish at hE
    split at hE
    · simp at hE
    · rename_i vs' hvs
      split at hE
      · simp at hE
      · rename_i ts l hout
        split at hE
        · simp at hE
        · rename_i as ds' hown
          split at hE
          · rename_i hnd
            simp only [Option.some.injEq, Prod.mk.injEq] at hE
            obtain ⟨rfl, rfl⟩ := hE
            have hnd := nodupB_iff _ hnd
            obtain ⟨rs, h1, h2⟩ := resVs_sound hr ht hvs
            obtain ⟨us', s1, c1⟩ := ownAll_sound hr K' h2 hown (List.nodup_append.1 hnd).2.1
            have hal := ancOf_mem (G := G) (by rw [hcr.len, hds.2]) hds.1 hr.anc
            have c2 := outC_sound hr hout hal hcr.one (List.nodup_append.1 hnd).1
            refine ⟨_, results_run h1, rs, us', Of φ' (l ++ idsOf ds'), K', rfl, s1, c2.join c1 (Of_dj2 hr.dj hnd) Of_app.1 Of_app.2, ?_, hr.kept, hK.1, fun b hb => (hK.2 b hb).imp (fun h => h) fun h => ⟨hr.Slt b (hr.KS b hb), h.symm⟩⟩
            rintro b ⟨i, _, hb⟩
            obtain ⟨h1, h2, h3⟩ := hr.own i b hb
            exact ⟨h1, fun h => h2 (hr.KS b h), h3.symm⟩
          · simp at hE
  cases e with
  | normal => exact key hq
  | ret => exact key hq
  | _ => exact hq.elim

end Go.Proofs.Ytgicjbeaomjdgaa.L
