/- A plain step, whole. -/
import Derived.Test.YtgicjbeaomjdgaaSl6
namespace Go.Proofs.Ytgicjbeaomjdgaa.L
set_option linter.unusedVariables false
set_option linter.unusedSimpArgs false
open Go

variable {F : Fr} {σ : St} {a : Act} {w : World} {S : Nat → Prop} {G : Gh} {φ : Nat → Nat → Prop} {tab : List (Nat × Ty)}

theorem beq_true {a b : Nat} (h : nq a b = true) : a = b := nq_eq h
theorem ble_true {a b : Nat} (h : nl a b = true) : a ≤ b := nl_le h

/-- What an operand's value is, stripped. -/
theorem got (hr : Rel0 F σ a w S G φ) {x : Operand} (hc : ∀ v, x = .const v → v.oneCell' = true) {p : List Prop} {v : V} (h : strip (ev σ.env x) = (p, v)) (hp : AllP p) : VR F.P w F.K S G v (a.eval x) := by
  have := (hr.ev x hc).strip (by rw [h]; exact hp)
  rwa [h] at this

theorem qPick_sound (hr : Rel0 F σ a w S G φ) {c x y : Operand} (hc : ∀ z, z = c ∨ z = x ∨ z = y → ∀ v, z = .const v → v.oneCell' = true) {ps : List Prop} {v : V} {b : Bool} (h : qPick Ls σ.env c x y = some (ps, v, b)) (hp : AllP ps) :
    ∃ cb, a.eval c = .bool cb ∧ VR F.P w F.K S G v (if cb then a.eval x else a.eval y) := by
  unfold qPick at h
  split at h
  · rename_i pc cb hcs
    split at h
    rename_i pa va pb vb hxs hys
    split at h
    · rename_i v' hpv
      simp only [Option.some.injEq, Prod.mk.injEq] at h
      obtain ⟨rfl, rfl, _⟩ := h
      rw [AllP_append] at hp
      obtain ⟨hp1, hp2, hp3, _⟩ := hp
      have h1 := (got hr (hc c (by simp)) hcs hp1).s_inv.1
      refine ⟨cb, h1, pickV_sound hpv (fun e => got hr (hc x (by simp)) hxs (hp2 e)) (fun e => got hr (hc y (by simp)) hys (hp3 e))⟩
    · simp at h
  · simp at h

theorem noGuard {u v : Value} (hn : ¬ (u = .nilIface ∧ v = .nilIface)) (h1 : u.oneCell' = true) : (match (generalizing := false) u, v with | .nilIface, .nilIface => False | .agg _, .agg _ => False | _, _ => True) := by
  split
  · exact hn ⟨rfl, rfl⟩
  · simp [Value.oneCell'] at h1
  · trivial

theorem eqGuard_const {P : Program} {o : BinOp} {xt : Nat} {x y : Operand} (hcy : constB y = true) : (eqGuard o xt x y .nilIface .nilIface).run P w = .ok () w := by
  cases y <;> simp [constB] at hcy
  unfold eqGuard
  by_cases ho : (o matches .eql | .neq) = true <;> simp

theorem binV_one {o : BinOp} {x y v : Value} {ps : List Prop} (hb : binV Ls o x y = some (ps, v)) : v.oneCell' = true := by
  unfold binV at hb
  split at hb <;> simp only [Option.some.injEq, Prod.mk.injEq, reduceCtorEq] at hb <;> obtain ⟨_, rfl⟩ := hb <;> rfl

theorem qBin_sound (hr : Rel0 F σ a w S G φ) (ht : TabOk F.P tab) {o : BinOp} {xt : Nat} {x y : Operand} (hc : ∀ z, z = x ∨ z = y → ∀ v, z = .const v → v.oneCell' = true) {ps : List Prop} {v : V} {b : Bool} (h : qBin Ls tab σ.env o xt x y = some (ps, v, b)) (hp : AllP ps) :
    ∃ u, (do eqGuard o xt x y (a.eval x) (a.eval y); binOp o xt (a.eval x) (a.eval y) : Sem Value).run F.P w = .ok u w ∧ VR F.P w F.K S G v u := by
  unfold qBin at h
  split at h
  · rename_i px vx py vy hxs hys
    split at h
    · rename_i p v' hb hk
      simp only [Option.some.injEq, Prod.mk.injEq] at h
      obtain ⟨rfl, rfl, _⟩ := h
      rw [AllP_append, AllP_append] at hp
      obtain ⟨e1, o1⟩ := (got hr (hc x (by simp)) hxs hp.1.1).s_inv
      obtain ⟨e2, o2⟩ := (got hr (hc y (by simp)) hys hp.1.2).s_inv
      have hB : ∀ a b, vx = .bool a → vy = .bool b → F.P.underlying xt = some .bool := by
        rintro a b rfl rfl
        simp only [okBin] at hk
        split at hk
        · rename_i ty hty; exact (ht _ _ hty).isB hk
        · simp at hk
      have hI : vx = .nilIface → vy = .nilIface → (∃ ms, F.P.underlying xt = some (.interface ms)) ∧ constB y = true := by
        rintro rfl rfl
        simp only [okBin] at hk
        split at hk
        · rename_i ty hty
          split at hk
          · rename_i hi; exact ⟨(ht _ _ hty).isI hi, hk⟩
          · simp at hk
        · simp at hk
      have hbs := binV_sound (P := F.P) (w := w) xt hb hp.2 hB (fun e e' => (hI e e').1)
      have hg : (eqGuard o xt x y vx vy).run F.P w = .ok () w := by
        by_cases hn : vx = .nilIface ∧ vy = .nilIface
        · obtain ⟨rfl, rfl⟩ := hn
          exact eqGuard_const (hI rfl rfl).2
        · exact eqGuard_plain o xt x y vx vy (noGuard hn o1)
      refine ⟨v', ?_, VR.s (binV_one hb)⟩
      simp only [e1, e2, Sem.run_bind, hg, Result.andThen_ok, hbs]
    · simp at h
  · rename_i px py hxs hys
    split at h
    · rename_i ty hty
      have key : AllP (px ++ py) → ty.isI = true → ∃ t x', a.eval x = .iface t x' ∧ a.eval y = .nilIface ∧ ∃ ms, F.P.underlying xt = some (.interface ms) := by
        intro hp hi
        rw [AllP_append] at hp
        have h1 := got hr (hc x (by simp)) hxs hp.1
        have h2 := (got hr (hc y (by simp)) hys hp.2).s_inv.1
        have hi' := (ht _ _ hty).isI hi
        generalize a.eval x = ux at h1
        cases h1 with
        | t hx' _ => cases hx' with
          | er _ => exact ⟨_, _, rfl, h2, hi'⟩
      split at h
      · rename_i hi
        simp only [Option.some.injEq, Prod.mk.injEq] at h
        obtain ⟨rfl, rfl, _⟩ := h
        obtain ⟨t, x', e1, e2, ms, hm⟩ := key hp hi
        refine ⟨.bool true, ?_, VR.s rfl⟩
        have hg := eqGuard_plain (P := F.P) (w := w) .neq xt x y (.iface t x') .nilIface (by simp)
        simp only [e1, e2, Sem.run_bind, hg, Result.andThen_ok, binOp, equal_er hm, Sem.run_pure]
        rfl
      · rename_i hi
        simp only [Option.some.injEq, Prod.mk.injEq] at h
        obtain ⟨rfl, rfl, _⟩ := h
        obtain ⟨t, x', e1, e2, ms, hm⟩ := key hp hi
        refine ⟨.bool false, ?_, VR.s rfl⟩
        have hg := eqGuard_plain (P := F.P) (w := w) .eql xt x y (.iface t x') .nilIface (by simp)
        simp only [e1, e2, Sem.run_bind, hg, Result.andThen_ok, binOp, equal_er hm, Sem.run_pure]
      · simp at h
    · simp at h
  · simp at h

theorem eqInts_sound {P : Program} {K : Nat → Prop} : ∀ {ks : List IntKind} {xs ys : List V} {ux uy : List Value} {ps : List Prop} {b : Bool}, eqInts Ls ks xs ys = some (ps, b) → AllP ps → VRs P w K S G xs ux → VRs P w K S G ys uy →
    ∃ ns ms : List Int, ns.length = ks.length ∧ ms.length = ks.length ∧ ux = List.zipWith Value.int ks ns ∧ uy = List.zipWith Value.int ks ms ∧ b = decide (ns = ms)
  | [], [], [], ux, uy, ps, b, h, hp, hx, hy => by
    simp only [eqInts, Option.some.injEq, Prod.mk.injEq] at h
    cases hx
    cases hy
    exact ⟨[], [], rfl, rfl, rfl, rfl, by simp [h.2]⟩
  | k :: ks, x :: xs, y :: ys, ux, uy, ps, b, h, hp, hx, hy => by
    unfold eqInts at h
    split at h
    · rename_i heq _ _; simp at heq
    · rename_i k' ks' k1 x r k2 y r' hk hx' hy'
      simp only [List.cons.injEq] at hk hx' hy'
      obtain ⟨rfl, rfl⟩ := hk
      obtain ⟨rfl, rfl⟩ := hx'
      obtain ⟨rfl, rfl⟩ := hy'
      split at h
      · rename_i ps' b' hrec
        simp only [Option.some.injEq, Prod.mk.injEq] at h
        obtain ⟨rfl, rfl⟩ := h
        obtain ⟨rfl, rfl, hp⟩ := hp
        obtain ⟨u, us, rfl, h1, h2⟩ := hx.uncons
        obtain ⟨v, vs, rfl, h3, h4⟩ := hy.uncons
        obtain ⟨ns, ms, e1, e2, e3, e4, e5⟩ := eqInts_sound hrec hp h2 h4
        refine ⟨x :: ns, y :: ms, by simp [e1], by simp [e2], by rw [h1.s_inv.1, e3]; rfl, by rw [h3.s_inv.1, e4]; rfl, ?_⟩
        rw [e5]
        by_cases hxy : x = y <;> simp [Ls, hxy]
      · simp at h
    · simp at h
  | [], _ :: _, _, _, _, _, _, h, _, _, _ => by simp [eqInts] at h
  | [], [], _ :: _, _, _, _, _, h, _, _, _ => by simp [eqInts] at h
  | _ :: _, [], _, _, _, _, _, h, _, _, _ => by simp [eqInts] at h
  | _ :: _, _ :: _, [], _, _, _, _, h, _, _, _ => by simp [eqInts] at h

theorem qEqA_sound (hr : Rel0 F σ a w S G φ) (ht : TabOk F.P tab) {o : BinOp} {xt : Nat} {x y : Operand} (hc : ∀ z, z = x ∨ z = y → ∀ v, z = .const v → v.oneCell' = true) {ps : List Prop} {v : V} {b : Bool} (h : qEqA Ls tab σ.env o xt x y = some (ps, v, b)) (hp : AllP ps) :
    ∃ u, (do eqGuard o xt x y (a.eval x) (a.eval y); binOp o xt (a.eval x) (a.eval y) : Sem Value).run F.P w = .ok u w ∧ VR F.P w F.K S G v u := by
  unfold qEqA at h
  split at h
  · rename_i px xs py ys ty hxs hys hty
    split at h
    · rename_i ks hks
      obtain ⟨hg, he⟩ := (ht _ _ hty).eqI ks hks
      have key : ∀ {ps' : List Prop} {b' : Bool}, eqInts Ls ks xs ys = some (ps', b') → AllP (px ++ py ++ ps') → ∃ ux uy, a.eval x = .agg ux ∧ a.eval y = .agg uy ∧ (Op.equal xt (.agg ux) (.agg uy)).run F.P w = .ok b' w := by
        intro ps' b' hb hp
        rw [AllP_append, AllP_append] at hp
        have h1 := got hr (hc x (by simp)) hxs hp.1.1
        have h2 := got hr (hc y (by simp)) hys hp.1.2
        generalize a.eval x = ux at *
        generalize a.eval y = uy at *
        cases h1 with
        | ag h1 _ =>
          cases h2 with
          | ag h2 _ =>
            obtain ⟨ns, ms, e1, e2, rfl, rfl, rfl⟩ := eqInts_sound hb hp.2 h1 h2
            exact ⟨_, _, rfl, rfl, he w ns ms e1 e2⟩
      have hgd : ∀ {ux uy : Array Value}, (eqGuard o xt x y (.agg ux) (.agg uy)).run F.P w = .ok () w := by
        intro ux uy
        unfold eqGuard
        cases o <;> simp [hg]
      split at h
      · rename_i ps' b' hb
        simp only [Option.some.injEq, Prod.mk.injEq] at h
        obtain ⟨rfl, rfl, _⟩ := h
        obtain ⟨ux, uy, e1, e2, e3⟩ := key hb hp
        refine ⟨.bool b', ?_, VR.s rfl⟩
        rw [e1, e2]
        simp only [Sem.run_bind, hgd, Result.andThen_ok, binOp, e3, Sem.run_pure]
      · rename_i ps' b' hb
        simp only [Option.some.injEq, Prod.mk.injEq] at h
        obtain ⟨rfl, rfl, _⟩ := h
        obtain ⟨ux, uy, e1, e2, e3⟩ := key hb hp
        refine ⟨.bool (!b'), ?_, ?_⟩
        · rw [e1, e2]
          simp only [Sem.run_bind, hgd, Result.andThen_ok, binOp, e3, Sem.run_pure]
        · have : Ls.bo b' false true = !b' := by cases b' <;> rfl
          rw [this]
          exact VR.s rfl
      · simp at h
    · simp at h
  · simp at h

theorem qUn_sound (hr : Rel0 F σ a w S G φ) {o : UnOp} {x : Operand} (hc : ∀ v, x = .const v → v.oneCell' = true) {ps : List Prop} {v : V} {b : Bool} (h : qUn Ls σ.env o x = some (ps, v, b)) (hp : AllP ps) :
    ∃ u, (Op.unary o (a.eval x)).run F.P w = .ok u w ∧ VR F.P w F.K S G v u := by
  unfold qUn at h
  split at h
  · rename_i px vx hxs
    split at h
    · rename_i v' hu
      simp only [Option.some.injEq, Prod.mk.injEq] at h
      obtain ⟨rfl, rfl, _⟩ := h
      have e := (got hr hc hxs hp).s_inv.1
      refine ⟨v', by rw [e]; exact unV_sound hu, VR.s ?_⟩
      unfold unV at hu
      split at hu <;> simp only [Option.some.injEq, reduceCtorEq] at hu <;> subst hu <;> rfl
    · simp at h
  · simp at h

theorem qField_sound (hr : Rel0 F σ a w S G φ) (ht : TabOk F.P tab) {t f : Nat} {x : Operand} (hc : ∀ v, x = .const v → v.oneCell' = true) {ps : List Prop} {v : V} {b : Bool} (h : qField tab σ.env t x f = some (ps, v, b)) (hp : AllP ps) :
    ∃ u, (Instr.fieldAt t (a.eval x) f).run F.P w = .ok u w ∧ VR F.P w F.K S G v u := by
  unfold qField at h
  split at h
  · rename_i ty hty
    split at h
    · rename_i o z ha hn
      split at h
      · rename_i px id i j hxs
        simp only [Option.some.injEq, Prod.mk.injEq] at h
        obtain ⟨rfl, rfl, _⟩ := h
        have hv := got hr hc hxs hp
        generalize a.eval x = ux at hv
        cases hv with
        | pt hid hi hg _ => exact ⟨_, fieldAt_run (ht _ _ hty) ha hn, by rw [Nat.add_assoc]; exact .pt hid hi hg .nil⟩
      · rename_i px cs hxs
        split at h
        · rename_i hle
          simp only [Option.some.injEq, Prod.mk.injEq] at h
          obtain ⟨rfl, rfl, _⟩ := h
          have hv := got hr hc hxs hp
          generalize a.eval x = ux at hv
          obtain ⟨b', o', vs, rfl, hS, hA, hcr⟩ := hv.ip_inv
          refine ⟨_, fieldAt_run (ht _ _ hty) ha hn, ?_⟩
          rw [dropN_eq]
          refine VR.ip_mk (fun hp => hS (by rw [List.length_drop] at hp; omega)) (fun j u hu => ?_) (hcr.drop o)
          rw [List.getElem?_drop] at hu
          rw [Nat.add_assoc]
          exact hA _ u hu
        · simp at h
      · simp at h
    · simp at h
  · simp at h

theorem qLoad_sound (hr : Rel0 F σ a w S G φ) (ht : TabOk F.P tab) {t : Nat} {x : Operand} {sup : Option Sup} (hc : ∀ v, x = .const v → v.oneCell' = true) {ps : List Prop} {v : V} {b : Bool} (h : qLoad Ls tab σ t x sup = some (ps, v, b)) (hp : AllP ps) :
    ∃ u, (Instr.loadAt t (a.eval x)).run F.P w = .ok u w ∧ VR F.P w F.K S G v u := by
  unfold qLoad at h
  split at h
  · rename_i ty hty
    split at h
    · rename_i px cs hxs
      split at h
      · rename_i v' hle hf
        simp only [Option.some.injEq, Prod.mk.injEq] at h
        obtain ⟨rfl, rfl, _⟩ := h
        rw [takeN_eq] at hf
        exact load_ip (ht _ _ hty) (got hr hc hxs hp) (by rw [← lenN_eq]; exact ble_true hle) hf
      · simp at h
    · rename_i px id i j hxs
      split at h
      · rename_i e cs ho
        split at h
        · rename_i v' hle hf
          simp only [Option.some.injEq, Prod.mk.injEq] at h
          obtain ⟨rfl, rfl, _⟩ := h
          rw [AllP_append] at hp
          obtain ⟨hp, rfl, _⟩ := hp
          rw [takeN_eq, dropN_eq] at hf
          exact load_box hr (ht _ _ hty) ho (got hr hc hxs hp) (by rw [← lenN_eq]; exact ble_true hle) hf
        · simp at h
      · rename_i ver e sz rows ho
        split at h
        · rename_i es
          split at h
          · rename_i cs hle hcs
            split at h
            · rename_i v' hf
              simp only [Option.some.injEq, Prod.mk.injEq] at h
              obtain ⟨rfl, rfl, _⟩ := h
              rw [AllP_append] at hp
              obtain ⟨hp, h0, h1, h2, _⟩ := hp
              rw [takeN_eq, dropN_eq] at hcs
              exact load_row hr (ht _ _ hty) ho (got hr hc hxs hp) (ble_true hle) h0 h1 h2 hcs hf
            · simp at h
          · simp at h
        · simp at h
      · simp at h
    · simp at h
  · simp at h

theorem elTy_sound {P : Program} (ht : TabOk P tab) {t : Nat} {te : Ty} (h : elTy tab t = some te) : ∃ ty, TyOk P t ty ∧ ty.isS = true ∧ TyOk P ty.elem te := by
  unfold elTy at h
  split at h
  · rename_i ty hty
    split at h
    · rename_i hs; exact ⟨ty, ht _ _ hty, hs, ht _ _ h⟩
    · simp at h
  · simp at h

theorem qIndexA_sound (hr : Rel0 F σ a w S G φ) (ht : TabOk F.P tab) {t : Nat} {x i : Operand} {sup : Option Sup} (hc : ∀ z, z = x ∨ z = i → ∀ v, z = .const v → v.oneCell' = true) {ps : List Prop} {v : V} {b : Bool} (h : qIndexA Ls tab σ t x i sup = some (ps, v, b)) (hp : AllP ps) :
    ∃ u, (Instr.indexAt t (a.eval x) (a.eval i)).run F.P w = .ok u w ∧ VR F.P w F.K S G v u := by
  unfold qIndexA at h
  split at h
  · rename_i te pi k n hel his
    obtain ⟨ty, h1, h2, h3⟩ := elTy_sound ht hel
    split at h
    · rename_i px kb rows hxs
      split at h
      · rename_i es
        split at h
        · rename_i hb
          simp only [Option.some.injEq, Prod.mk.injEq] at h
          obtain ⟨rfl, rfl, _⟩ := h
          rw [AllP_append, AllP_append] at hp
          obtain ⟨⟨hpx, hpi⟩, a0, a1, a2, _⟩ := hp
          rw [(got hr (hc i (by simp)) his hpi).s_inv.1]
          exact index_im0 h1 h2 h3 hr.KS (got hr (hc x (by simp)) hxs hpx) (by rw [← lenN_eq]; exact beq_true hb) a0 a1 a2
        · simp at h
      · simp at h
    · rename_i px id hxs
      split at h
      · rename_i ver e sz rows ho
        split at h
        · rename_i hb
          simp only [Option.some.injEq, Prod.mk.injEq] at h
          obtain ⟨rfl, rfl, _⟩ := h
          rw [AllP_append, AllP_append] at hp
          obtain ⟨⟨hpx, hpi⟩, a0, a1, _⟩ := hp
          rw [(got hr (hc i (by simp)) his hpi).s_inv.1]
          exact index_rf hr h1 h2 h3 ho (beq_true hb) (got hr (hc x (by simp)) hxs hpx) a0 a1
        · simp at h
      · simp at h
    · simp at h
  · simp at h

theorem qIndex_sound (hr : Rel0 F σ a w S G φ) (ht : TabOk F.P tab) {t : Nat} {x i : Operand} (hc : ∀ z, z = x ∨ z = i → ∀ v, z = .const v → v.oneCell' = true) {ps : List Prop} {v : V} {b : Bool} (h : qIndex Ls tab σ.env t x i = some (ps, v, b)) (hp : AllP ps) :
    ∃ u, (Instr.index t (a.eval x) (a.eval i)).run F.P w = .ok u w ∧ VR F.P w F.K S G v u := by
  unfold qIndex at h
  split at h
  · rename_i ty hty
    split at h
    · rename_i pi k n px s hT his hxs
      simp only [Option.some.injEq, Prod.mk.injEq] at h
      obtain ⟨rfl, rfl, _⟩ := h
      rw [AllP_append, AllP_append] at hp
      obtain ⟨⟨hpx, hpi⟩, a0, a1, _⟩ := hp
      rw [(got hr (hc i (by simp)) his hpi).s_inv.1, (got hr (hc x (by simp)) hxs hpx).s_inv.1]
      exact ⟨_, run_index ((ht _ _ hty).isT hT) a0 a1, VR.s rfl⟩
    · simp at h
  · simp at h

theorem qExtract_sound (hr : Rel0 F σ a w S G φ) {x : Operand} {k : Nat} (hc : ∀ v, x = .const v → v.oneCell' = true) {ps : List Prop} {v : V} {b : Bool} (h : qExtract σ.env x k = some (ps, v, b)) (hp : AllP ps) :
    ∃ u, (Instr.extract (a.eval x) k).run F.P w = .ok u w ∧ VR F.P w F.K S G v u := by
  unfold qExtract at h
  split at h
  · rename_i px cs hxs
    split at h
    · rename_i v' hn
      simp only [Option.some.injEq, Prod.mk.injEq] at h
      obtain ⟨rfl, rfl, _⟩ := h
      have hv := got hr hc hxs hp
      generalize a.eval x = ux at hv
      cases hv with
      | tu hcs _ =>
        rw [nth_eq] at hn
        obtain ⟨u, hu, hv⟩ := hcs.nth hn
        exact ⟨u, by simp [Instr.extract, hu], hv⟩
    · simp at h
  · simp at h

theorem qFunc_sound (hr : Rel0 F σ a w S G φ) {fn : Fn} {first caps : Array Operand} (hc : ∀ z ∈ caps.toList, ∀ v, z = .const v → v.oneCell' = true) {ps : List Prop} {v : V} {b : Bool} (h : qFunc σ.env fn first.toList caps.toList = some (ps, v, b)) (hp : AllP ps) :
    ∃ u, (Instr.makeFunc fn (first.map a.eval) (caps.map a.eval)).run F.P w = .ok u w ∧ VR F.P w F.K S G v u := by
  unfold qFunc at h
  split at h
  · rename_i f hfirst
    simp only [Option.some.injEq, Prod.mk.injEq] at h
    obtain ⟨rfl, rfl, _⟩ := h
    have hv := evs_sound hr caps.toList hc hp
    refine ⟨_, rfl, ?_⟩
    have e1 : first.map a.eval = #[] := by
      have : first = #[] := by simpa using hfirst
      rw [this]; simp
    have e2 : caps.map a.eval = (caps.toList.map a.eval).toArray := by
      apply Array.ext'
      simp
    rw [e1, e2]
    exact .fn hv .nil
  · simp at h

theorem qNil_sound (hr : Rel0 F σ a w S G φ) {x : Operand} (hc : ∀ v, x = .const v → v.oneCell' = true) {ps : List Prop} {v : V} {b : Bool} (h : qNil σ.env x = some (ps, v, b)) (hp : AllP ps) :
    (∃ A, a.eval x = .pointer (some A)) ∧ VR F.P w F.K S G v (a.eval x) := by
  unfold qNil at h
  split at h
  · rename_i px id i j hxs
    simp only [Option.some.injEq, Prod.mk.injEq] at h
    obtain ⟨rfl, rfl, _⟩ := h
    have hv := got hr hc hxs hp
    refine ⟨?_, hv⟩
    generalize a.eval x = ux at hv
    cases hv with
    | pt _ _ _ _ => exact ⟨_, rfl⟩
  · rename_i px cs hxs
    simp only [Option.some.injEq, Prod.mk.injEq] at h
    obtain ⟨rfl, rfl, _⟩ := h
    have hv := got hr hc hxs hp
    refine ⟨?_, hv⟩
    obtain ⟨_, _, _, e, _⟩ := hv.ip_inv
    exact ⟨_, e⟩
  · simp at h

theorem qLen_sound (hr : Rel0 F σ a w S G φ) (ht : TabOk F.P tab) {args : Array Operand} {ts : Array Nat} (hc : ∀ z ∈ args.toList, ∀ v, z = .const v → v.oneCell' = true) {ty0 : Nat} {ps : List Prop} {v : V} {b : Bool} (h : qLen Ls tab σ args.toList ts.toList = some (ps, v, b)) (hp : AllP ps) :
    ∃ u, (Builtin.len_ ts ty0 (args.map a.eval)).run F.P w = .ok u w ∧ VR F.P w F.K S G v u := by
  unfold qLen at h
  split at h
  · rename_i x t ha hts
    have ea : args = #[x] := by rw [← Array.toList_inj]; exact ha
    have et : ts = #[t] := by rw [← Array.toList_inj]; exact hts
    subst ea et
    split at h
    · rename_i ty px v' hty hxs
      split at h
      · rename_i n hl hS
        split at h
        · simp at h
        · rename_i hns
          simp only [Option.some.injEq, Prod.mk.injEq] at h
          obtain ⟨rfl, rfl, _⟩ := h
          have hv := got hr (hc x (by simp)) hxs hp
          have hd := (ht _ _ hty).isS hS
          rcases lenV_sound hr hv hl with ⟨A, c, e, h0⟩ | ⟨s, e, _, e'⟩
          · refine ⟨.int .i64 n, ?_, VR.s rfl⟩
            simp only [List.map_toArray, List.map_cons, List.map_nil, e]
            simp [Builtin.len_, run_underlying hd, goInt]
            omega
          · exact (hns s e').elim
      · rename_i n hl hS hT
        split at h
        · rename_i s hl'
          simp only [Option.some.injEq, Prod.mk.injEq] at h
          obtain ⟨rfl, rfl, _⟩ := h
          have hv := got hr (hc x (by simp)) hxs hp
          have hd := (ht _ _ hty).isT hT
          rcases lenV_sound hr hv hl with ⟨A, c, e, h0⟩ | ⟨s', e, e2, e'⟩
          · have := hv.s_inv.1
            rw [e] at this
            cases this
          · refine ⟨.int .i64 n, ?_, VR.s rfl⟩
            simp only [List.map_toArray, List.map_cons, List.map_nil, e]
            simp [Builtin.len_, run_underlying hd, goInt, e2]
        · simp at h
      · simp at h
    · simp at h
  · simp at h

theorem qConv_sound (hr : Rel0 F σ a w S G φ) (ht : TabOk F.P tab) {src dst : Nat} {x : Operand} (hc : ∀ v, x = .const v → v.oneCell' = true) {ps : List Prop} {v : V} {b : Bool} (h : qConv Ls tab σ.env src dst x = some (ps, v, b)) (hp : AllP ps) :
    ∃ u, (convert src dst (a.eval x)).run F.P w = .ok u w ∧ VR F.P w F.K S G v u := by
  unfold qConv at h
  split at h
  · rename_i ts ty hts hty
    split at h
    · rename_i ks k px k' n hks hk hxs
      simp only [Option.some.injEq, Prod.mk.injEq] at h
      obtain ⟨rfl, rfl, _⟩ := h
      rw [(got hr hc hxs hp).s_inv.1]
      have hint : ∀ {t ty k}, TyOk F.P t ty → ty.ik = some k → F.P.underlying t = some (.int k) := by
        intro t ty k h1 h2
        obtain ⟨d, hd, _, hx⟩ := h1.desc
        cases d <;> simp_all
      have d1 := hint (ht _ _ hts) hks
      have d2 := hint (ht _ _ hty) hk
      refine ⟨.int k (k.wrap n), ?_, VR.s rfl⟩
      simp [convert, run_underlying d1, run_underlying d2, Conv.intToInt]
    · simp at h
  · simp at h

theorem qBuild_sound (hr : Rel0 F σ a w S G φ) (ht : TabOk F.P tab) {t : Nat} {parts : Array (Nat × Operand)} (hc : ∀ p ∈ parts.toList, ∀ v, p.2 = .const v → v.oneCell' = true) {ps : List Prop} {v : V} {b : Bool} (h : qBuild tab σ.env t parts.toList = some (ps, v, b)) (hp : AllP ps) :
    ∃ u, (Instr.build t (parts.map fun (i, x) => (i, a.eval x))).run F.P w = .ok u w ∧ VR F.P w F.K S G v u := by
  unfold qBuild at h
  split at h
  · rename_i ty hty
    split at h
    · rename_i z0 zr ps' cs ha hz hf
      simp only [Option.some.injEq, Prod.mk.injEq] at h
      obtain ⟨rfl, rfl, _⟩ := h
      exact build_sound hr (ht _ _ hty) ha (by rw [hz]; simp) hf hp hc
    · simp at h
  · simp at h

theorem qSlice_sound (hr : Rel0 F σ a w S G φ) (ht : TabOk F.P tab) {t : Nat} {x : Operand} {lo hi : Option Operand} (hc : ∀ z, z = x ∨ lo = some z ∨ hi = some z → ∀ v, z = .const v → v.oneCell' = true) {ps : List Prop} {v : V} {b : Bool} (h : qSlice Ls tab σ t x lo hi = some (ps, v, b)) (hp : AllP ps) :
    ∃ u, (Instr.sliceAt t (a.eval x) (lo.map a.eval) (hi.map a.eval) none).run F.P w = .ok u w ∧ VR F.P w F.K S G v u := by
  unfold qSlice at h
  split at h
  · rename_i ty px v' pl l hty hxs hlo
    have hcl : ∀ y v, lo = some y → y = .const v → v.oneCell' = true := fun y v e => hc y (.inr (.inl e)) v
    have hch : ∀ y v, hi = some y → y = .const v → v.oneCell' = true := fun y v e => hc y (.inr (.inr e)) v
    split at h
    · rename_i s
      split at h
      · rename_i ph hh hT hhi
        simp only [Option.some.injEq, Prod.mk.injEq] at h
        obtain ⟨rfl, rfl, _⟩ := h
        rw [AllP_append, AllP_append, AllP_append] at hp
        obtain ⟨⟨⟨hpx, hpl⟩, hph⟩, a0, a1, a2, _⟩ := hp
        rw [(got hr (hc x (by simp)) hxs hpx).s_inv.1]
        exact ⟨_, slice_str ((ht _ _ hty).isT hT) (low_sound hr hlo hpl hcl) (high_sound hr hhi hph hch) a0 a1 a2, VR.s rfl⟩
      · simp at h
    · rename_i k rows
      split at h
      · rename_i te ph hh hel hhi
        simp only [Option.some.injEq, Prod.mk.injEq] at h
        obtain ⟨rfl, rfl, _⟩ := h
        rw [AllP_append, AllP_append, AllP_append] at hp
        obtain ⟨⟨⟨hpx, hpl⟩, hph⟩, a0, a1, a2, a3, _⟩ := hp
        obtain ⟨ty', h1, h2, h3⟩ := elTy_sound ht hel
        exact slice_im h1 h2 h3 (got hr (hc x (by simp)) hxs hpx) (low_sound hr hlo hpl hcl) (high_sound hr hhi hph hch) a0 a1 a2 a3
      · simp at h
    · rename_i id
      split at h
      · rename_i ver e sz rows ho
        split at h
        · rename_i te ph hh hel hhi
          split at h
          · rename_i hb
            simp only [Option.some.injEq, Prod.mk.injEq] at h
            obtain ⟨rfl, rfl, _⟩ := h
            rw [AllP_append, AllP_append, AllP_append] at hp
            obtain ⟨⟨⟨hpx, hpl⟩, hph⟩, a0, a1, a2, _⟩ := hp
            obtain ⟨ty', h1, h2, h3⟩ := elTy_sound ht hel
            exact slice_rf hr h1 h2 h3 ho (beq_true hb) (got hr (hc x (by simp)) hxs hpx) (low_sound hr hlo hpl hcl) (high_sound hr hhi hph hch) a0 a1 a2
          · simp at h
        · simp at h
      · simp at h
    · simp at h
  · simp at h

theorem stepQ_sound (hr : Rel0 F σ a w S G φ) (ht : TabOk F.P tab) {o : Oper} {sup : Option Sup} {ps : List Prop} {v : V} {b : Bool} (h : stepQ Ls tab σ o.op sup = some (ps, v, b)) (hp : AllP ps) (hc : ConstsOk o.op) :
    ∃ u, (execOp a.eval o).run F.P w = .ok (.value u) w ∧ VR F.P w F.K S G v u := by
  obtain ⟨dst, op, type, pos, after, guard⟩ := o
  simp only at h hc
  cases op <;> simp only [stepQ, reduceCtorEq] at h
  case move x =>
    simp only [Option.some.injEq, Prod.mk.injEq] at h
    obtain ⟨_, rfl, _⟩ := h
    exact ⟨_, rfl, hr.ev x (hc x (by simp [Op.operands]))⟩
  case assign x =>
    simp only [Option.some.injEq, Prod.mk.injEq] at h
    obtain ⟨_, rfl, _⟩ := h
    exact ⟨_, rfl, hr.ev x (hc x (by simp [Op.operands]))⟩
  case pick c x y =>
    obtain ⟨cb, e, hv⟩ := qPick_sound hr (fun z hz => hc z (by simp [Op.operands]; exact hz)) h hp
    refine ⟨_, ?_, hv⟩
    simp [execOp, e, asBool]
  case binOp o xt x y yt =>
    obtain ⟨u, e, hv⟩ : ∃ u, (do eqGuard o xt x y (a.eval x) (a.eval y); binOp o xt (a.eval x) (a.eval y) : Sem Value).run F.P w = .ok u w ∧ VR F.P w F.K S G v u := by
      split at h
      · rename_i r hq
        simp only [Option.some.injEq] at h
        subst h
        exact qBin_sound hr ht (fun z hz => hc z (by simp [Op.operands]; exact hz)) hq hp
      · exact qEqA_sound hr ht (fun z hz => hc z (by simp [Op.operands]; exact hz)) h hp
    refine ⟨u, ?_, hv⟩
    simp only [execOp, Sem.run_bind] at e ⊢
    rw [e]
    rfl
  case unOp o xt x =>
    obtain ⟨u, e, hv⟩ := qUn_sound hr (hc x (by simp [Op.operands])) h hp
    exact ⟨u, by simp [execOp, e], hv⟩
  case fieldAddr t x f =>
    obtain ⟨u, e, hv⟩ := qField_sound hr ht (hc x (by simp [Op.operands])) h hp
    exact ⟨u, by simp [execOp, e], hv⟩
  case load t x =>
    obtain ⟨u, e, hv⟩ := qLoad_sound hr ht (hc x (by simp [Op.operands])) h hp
    exact ⟨u, by simp [execOp, e], hv⟩
  case indexAddr t x i =>
    obtain ⟨u, e, hv⟩ := qIndexA_sound hr ht (fun z hz => hc z (by simp [Op.operands]; exact hz)) h hp
    exact ⟨u, by simp [execOp, e], hv⟩
  case index t x i =>
    obtain ⟨u, e, hv⟩ := qIndex_sound hr ht (fun z hz => hc z (by simp [Op.operands]; exact hz)) h hp
    exact ⟨u, by simp [execOp, e], hv⟩
  case extract x k =>
    obtain ⟨u, e, hv⟩ := qExtract_sound hr (hc x (by simp [Op.operands])) h hp
    exact ⟨u, by simp [execOp, e], hv⟩
  case nilCheck x =>
    obtain ⟨⟨A, e⟩, hv⟩ := qNil_sound hr (hc x (by simp [Op.operands])) h hp
    exact ⟨_, by simp [execOp, e], hv⟩
  case makeFunc fn first caps =>
    obtain ⟨u, e, hv⟩ := qFunc_sound hr (fun z hz => hc z (by simp [Op.operands]; right; simpa using hz)) h hp
    exact ⟨u, by simp [execOp, e], hv⟩
  case convert src dst x =>
    obtain ⟨u, e, hv⟩ := qConv_sound hr ht (hc x (by simp [Op.operands])) h hp
    exact ⟨u, by simp [execOp, e], hv⟩
  case build t parts =>
    obtain ⟨u, e, hv⟩ := qBuild_sound hr ht (fun p hp' => hc p.2 (by simp [Op.operands]; exact ⟨p.1, by simpa using hp'⟩)) h hp
    exact ⟨u, by simp [execOp, e], hv⟩
  case slice t x lo hi mx =>
    cases mx with
    | some _ => simp at h
    | none =>
      obtain ⟨u, e, hv⟩ := qSlice_sound hr ht (fun z hz => hc z (by
        rcases hz with rfl | rfl | rfl <;> simp [Op.operands])) h hp
      exact ⟨u, by simp [execOp, e], hv⟩
  case call c =>
    obtain ⟨callee, args, argTypes⟩ := c
    cases callee with
    | builtin bb =>
      cases bb <;> simp only [reduceCtorEq] at h
      obtain ⟨u, e, hv⟩ := qLen_sound (ty0 := type) hr ht (fun z hz => hc z (by simp [Op.operands, Call.operands]; simpa using hz)) h hp
      exact ⟨u, by simp [execOp, resolve, invoke, builtin, e], hv⟩
    | _ => simp at h

end Go.Proofs.Ytgicjbeaomjdgaa.L
