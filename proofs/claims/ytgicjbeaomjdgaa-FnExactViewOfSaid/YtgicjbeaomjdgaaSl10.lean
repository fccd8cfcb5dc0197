/- Steps that make memory, whole; stores, whole. -/
import Derived.Test.YtgicjbeaomjdgaaSl9
namespace Go.Proofs.Ytgicjbeaomjdgaa.L
set_option linter.unusedVariables false
set_option linter.unusedSimpArgs false
open Go

variable {F : Fr} {σ : St} {a : Act} {w : World} {S : Nat → Prop} {G : Gh} {φ : Nat → Nat → Prop} {tab : List (Nat × Ty)}

/-- The objects that are used up are none of the new number. -/
theorem used_ne {σ : St} {id : Nat} (hf : freshB σ.nx σ.objs id = true) {d : Nat} (h : look O.dead σ.objs d ≠ .dead) : d ≠ id := by
  rintro rfl
  have hk : hasKey σ.objs d = true := by
    cases hk : hasKey σ.objs d with
    | true => rfl
    | false =>
      exfalso
      apply h
      have : ∀ l : List (Nat × O), hasKey l d = false → look O.dead l d = .dead := by
        intro l
        induction l with
        | nil => intro _; rfl
        | cons p l ih =>
          obtain ⟨k, x⟩ := p
          intro hh
          simp only [hasKey] at hh
          cases hb : nq d k with
          | true => simp [hb] at hh
          | false =>
            simp only [hb, cond_false] at hh
            simp [look, hb, ih hh]
      exact this _ hk
  unfold freshB at hf
  cases hb : nl σ.nx d <;> simp [hb, hk] at hf

theorem sinkCell_live {objs : List (Nat × O)} {v : V} {t : T} {d : List Nat} (h : sinkCell objs v = some (t, d)) : ∀ i ∈ d, look O.dead objs i ≠ .dead := by
  unfold sinkCell at h
  split at h
  · simp only [Option.some.injEq, Prod.mk.injEq] at h; obtain ⟨_, rfl⟩ := h; simp
  · simp only [Option.some.injEq, Prod.mk.injEq] at h; obtain ⟨_, rfl⟩ := h; simp
  · split at h
    · rename_i ho
      simp only [Option.some.injEq, Prod.mk.injEq] at h
      obtain ⟨_, rfl⟩ := h
      intro i hi
      rw [List.mem_singleton.1 hi, ho]
      simp
    · simp at h
  · simp at h

theorem sinkCells_live {objs : List (Nat × O)} : ∀ {vs : List V} {ts : List T} {ds : List Nat}, sinkCells objs vs = some (ts, ds) → ∀ i ∈ ds, look O.dead objs i ≠ .dead
  | [], ts, ds, h => by
    simp only [sinkCells, Option.some.injEq, Prod.mk.injEq] at h
    obtain ⟨_, rfl⟩ := h
    simp
  | v :: vs, ts, ds, h => by
    simp only [sinkCells] at h
    split at h
    · simp at h
    · rename_i hx
      split at h
      · simp at h
      · rename_i hxs
        simp only [Option.some.injEq, Prod.mk.injEq] at h
        obtain ⟨_, rfl⟩ := h
        intro i hi
        rcases List.mem_append.1 hi with hi | hi
        · exact sinkCell_live hx i hi
        · exact sinkCells_live hxs i hi

theorem litRows_live {objs : List (Nat × O)} {env : List (Nat × V)} {size : Nat} : ∀ (parts : List (Nat × Operand)) (n : Nat) {ps : List Prop} {rows : Rws} {ds : List Nat}, litRows objs env size n parts = some (ps, rows, ds) → ∀ i ∈ ds, look O.dead objs i ≠ .dead
  | [], n, ps, rows, ds, h => by
    simp only [litRows, Option.some.injEq, Prod.mk.injEq] at h
    obtain ⟨_, _, rfl⟩ := h
    simp
  | (i, x) :: r, n, ps, rows, ds, h => by
    simp only [litRows] at h
    split at h
    · simp at h
    · split at h
      · simp at h
      · split at h
        · simp at h
        · split at h
          · simp at h
          · rename_i hsk
            split at h
            · simp at h
            · rename_i hrec
              simp only [Option.some.injEq, Prod.mk.injEq] at h
              obtain ⟨_, _, rfl⟩ := h
              intro j hj
              rcases List.mem_append.1 hj with hj | hj
              · exact sinkCells_live hsk j hj
              · exact litRows_live r (n + 1) hrec j hj

theorem source_live {objs : List (Nat × O)} {size : Nat} {v : V} {ps : List Prop} {rows : Rws} {ds : List Nat} (h : source Ls objs size v = some (ps, rows, ds)) : ∀ i ∈ ds, look O.dead objs i ≠ .dead := by
  unfold source at h
  split at h
  · simp only [Option.some.injEq, Prod.mk.injEq] at h; obtain ⟨_, _, rfl⟩ := h; simp
  · simp only [Option.some.injEq, Prod.mk.injEq] at h; obtain ⟨_, _, rfl⟩ := h; simp
  · simp only [Option.some.injEq, Prod.mk.injEq] at h; obtain ⟨_, _, rfl⟩ := h; simp
  · split at h
    · rename_i ho
      split at h
      · simp only [Option.some.injEq, Prod.mk.injEq] at h
        obtain ⟨_, _, rfl⟩ := h
        intro i hi
        rw [List.mem_singleton.1 hi, ho]
        simp
      · simp at h
    · simp at h
  · split at h
    · split at h
      · simp only [Option.some.injEq, Prod.mk.injEq] at h; obtain ⟨_, _, rfl⟩ := h; simp
      · simp at h
    · simp at h
  · simp at h

theorem target_live {objs : List (Nat × O)} {e : Nat} {v : V} {rows : Rws} {ds : List Nat} (h : target objs e v = some (rows, ds)) : ∀ i ∈ ds, look O.dead objs i ≠ .dead := by
  unfold target at h
  split at h
  · simp only [Option.some.injEq, Prod.mk.injEq] at h; obtain ⟨_, rfl⟩ := h; simp
  · split at h
    · rename_i ho
      split at h
      · simp only [Option.some.injEq, Prod.mk.injEq] at h
        obtain ⟨_, rfl⟩ := h
        intro i hi
        rw [List.mem_singleton.1 hi, ho]
        simp
      · simp at h
    · simp at h
  · simp at h

theorem look_dead0 {l : List (Nat × O)} {d : Nat} (h : hasKey l d = false) : look O.dead l d = .dead := by
  induction l with
  | nil => rfl
  | cons p l ih =>
    obtain ⟨k, x⟩ := p
    rw [look_cons]
    by_cases e : d = k
    · subst e; simp [hasKey, nq_self] at h
    · rw [if_neg e]
      refine ih ?_
      cases hk : hasKey l d with
      | false => rfl
      | true => rw [(hasKey_cons k x l d).2 (.inr hk)] at h; cases h

theorem fresh_key {nx : Nat} {objs : List (Nat × O)} {id : Nat} (h : freshB nx objs id = true) : nx ≤ id ∧ hasKey objs id = false := by
  unfold freshB at h
  cases hb : nl nx id with
  | false => simp [hb] at h
  | true =>
    rw [hb] at h
    cases hk : hasKey objs id with
    | true => rw [hk] at h; simp at h
    | false => exact ⟨nl_le hb, rfl⟩

/-- Elements are taken out of a row that owns them, and laid behind another's. -/
theorem append_move (hr : Rel0 F σ a w S G φ) {t : Nat} {ty te : Ty} (ht : TyOk F.P t ty) (hs : ty.isS = true) (hte : TyOk F.P ty.elem te) {id : Nat} (hf : freshB σ.nx σ.objs id = true) (hfc : freshB σ.nx σ.objs (id + 1) = true) {v1 v2 : V} {u1 u2 : Value} (hv1 : VR F.P w F.K S G v1 u1) (hv2 : VR F.P w F.K S G v2 u2) {r1 r2 : Rws} {d1 : List Nat} {sid : Nat} {o : O} {ps : List Prop}
    (h1 : target σ.objs ty.elem v1 = some (r1, d1)) (h2 : sourceM Ls σ.objs te.size v2 = some (ps, r2, sid, o)) (hp : AllP ps) (hn : (sid :: d1).Nodup) (hb1 : (Ls.ln r1 + Ls.ln r2) * te.bytes ≤ 140737488355328) (hb2 : Ls.ln r1 + Ls.ln r2 ≤ 140737488355328) (hz : te.zero ≠ []) (ty0 : TypeId) :
    ∃ u w' G' φ', (Builtin.append_ #[t, t] ty0 #[u1, u2]).run F.P w = .ok u w' ∧ Rel0 F ⟨σ.n, σ.nx, σ.env, ((id, .row 0 ty.elem te.size (Ls.ap r1 r2)) :: (deads (d1 ++ [id + 1]) ++ [(id + 1, .dead), (sid, o)])) ++ σ.objs⟩ a w' S G' φ' ∧ VR F.P w' F.K S G' (.rf id) u := by
  unfold sourceM at h2
  split at h2
  · rename_i sid' lo hi
    split at h2
    · rename_i ver e sz rows ho
      split at h2
      · rename_i hb
        simp only [Option.some.injEq, Prod.mk.injEq] at h2
        obtain ⟨rfl, rfl, rfl, rfl⟩ := h2
        obtain ⟨hhi, _⟩ := hp
        have hsz := beq_true hb
        subst hsz
        obtain ⟨hid, _, hGs, _, _, hrs, _⟩ := hr.row ho
        have hc := fresh_key hfc
        have hk := fresh_key hf
        have hns : id ≠ sid' := fun e => by
          have := used_ne hf (d := sid') (by rw [ho]; simp)
          exact this e.symm
        have hcs : id + 1 ≠ sid' := fun e => by
          have := used_ne hfc (d := sid') (by rw [ho]; simp)
          exact this e.symm
        cases hv2 with
        | sb hid' h0 hl hnn hm hcc hA _ _ =>
          rename_i A n c _ _
          simp only [Ls] at hhi
          obtain ⟨G', φ', hr', hle, _, us, ψ, hcr, hψ, hcell⟩ := pull hr ho h0 hl hhi (by omega) (cid := id + 1) (look_dead0 hc.2)
          have hlen : (Ls.sr rows lo hi).length = n := by
            simp only [Ls, List.length_drop, List.length_take]
            omega
          have hlive := target_live h1
          have h1' : target ((id + 1, O.dead) :: (sid', .row (ver + 1) e te.size (jrL Ls rows lo hi te.size)) :: σ.objs) ty.elem v1 = some (r1, d1) := by
            unfold target at h1 ⊢
            split at h1
            · exact h1
            · rename_i i
              have hi1 : look .dead σ.objs i ≠ .dead := fun e => by rw [e] at h1; simp at h1
              have hi2 : i ∈ d1 := by
                split at h1
                · split at h1
                  · simp only [Option.some.injEq, Prod.mk.injEq] at h1; rw [← h1.2]; simp
                  · simp at h1
                · simp at h1
              have e1 : i ≠ id + 1 := used_ne hfc hi1
              have e2 : i ≠ sid' := fun e => (List.nodup_cons.1 hn).1 (e ▸ hi2)
              simp only [look_cons, if_neg e1, if_neg e2]
              exact h1
            · simp at h1
          have hf' : freshB σ.nx ((id + 1, O.dead) :: (sid', .row (ver + 1) e te.size (jrL Ls rows lo hi te.size)) :: σ.objs) id = true := by
            unfold freshB
            rw [nl_iff.2 hk.1]
            simp only [cond_true]
            cases hx : hasKey ((id + 1, O.dead) :: (sid', .row (ver + 1) e te.size (jrL Ls rows lo hi te.size)) :: σ.objs) id with
            | false => rfl
            | true =>
              rcases (hasKey_cons _ _ _ _).1 hx with h | h
              · omega
              · rcases (hasKey_cons _ _ _ _).1 h with h | h
                · exact absurd h hns
                · rw [hk.2] at h; cases h
          have hd1 : ∀ d ∈ d1, d ≠ id ∧ d ≠ id + 1 := fun d hd => ⟨used_ne hf (hlive d hd), used_ne hfc (hlive d hd)⟩
          obtain ⟨u, w', G2, φ2, e1, e2, e3⟩ := append_core hr' ht hs hte hf' (hv1.move (fun _ _ => rfl) (fun _ _ => rfl) hle) h1' (r2 := Ls.sr rows lo hi) (d2 := [id + 1]) (u2 := .slice A n c)
            ⟨fun r hr => (hrs r (List.mem_of_mem_take (List.mem_of_mem_drop hr))), us, ψ, A, c, congrArg (fun k => Value.slice A k c) hlen.symm, hcr, fun b hb => ⟨id + 1, by simp, hψ b hb⟩, fun h => by
              obtain ⟨g, hg, rfl⟩ := hA (by rw [hlen] at h; omega)
              refine ⟨_, rfl, fun j x hj => ?_⟩
              rw [Addr.add_lit, hGs]
              exact hcell g hg j x hj⟩
            (List.nodup_append.2 ⟨(List.nodup_cons.1 hn).2, by simp, fun a ha b hb e => by
              rw [List.mem_singleton.1 hb] at e
              exact (hd1 a ha).2 e⟩) hb1 hb2 hz (fun d hd => by
              rcases List.mem_append.1 hd with hd | hd
              · exact (hd1 d hd).1
              · rw [List.mem_singleton.1 hd]; omega) ty0
          refine ⟨u, w', G2, φ2, e1, ?_, e3⟩
          rw [List.cons_append, List.append_assoc]
          exact e2
      · simp at h2
    · simp at h2
  · simp at h2

theorem stepA_sound (hr : Rel0 F σ a w S G φ) (ht : TabOk F.P tab) {o : Oper} {id : Nat} {ps : List Prop} {v : V} {os : List (Nat × O)} (h : stepA Ls tab σ id o.op = some (ps, v, os)) (hp : AllP ps) (hc : ConstsOk o.op) (hf : freshB σ.nx σ.objs id = true) :
    ∃ u w' G' φ', (execOp a.eval o).run F.P w = .ok (.value u) w' ∧ Rel0 F ⟨σ.n, σ.nx, σ.env, os ++ σ.objs⟩ a w' S G' φ' ∧ VR F.P w' F.K S G' v u := by
  obtain ⟨dst, op, type, pos, after, guard⟩ := o
  simp only at h hc
  cases op <;> simp only [stepA, reduceCtorEq] at h
  case box e x =>
    split at h
    · rename_i vc hvc
      simp only [Option.some.injEq, Prod.mk.injEq] at h
      obtain ⟨rfl, rfl, rfl⟩ := h
      have hv := cellsOf_sound (got hr (hc x (by simp [Op.operands])) rfl hp) hvc
      obtain ⟨G', φ', h1, h2⟩ := box_new hr hf (e := e) hv
      exact ⟨_, _, G', φ', by simp [execOp, Instr.box, newVar, newRow, newObj, Sem.run], h1, h2⟩
    · simp at h
  case alloc e =>
    split at h
    · rename_i ty hty
      split at h
      · rename_i z zr hz
        simp only [Option.some.injEq, Prod.mk.injEq] at h
        obtain ⟨rfl, rfl, rfl⟩ := h
        have hty' := ht _ _ hty
        obtain ⟨i, hi, _, _, hzz⟩ := hty'.info
        obtain ⟨zv, hz1, hz2⟩ := hzz (by rw [hz]; simp)
        have hv : VRs F.P w F.K S G ((z :: zr).map fun z => .t (.s z)) zv.cells.toList := by
          rw [hz2, ← hz]
          have := VRs.of_CR (G := G) (CR.scalars (P := F.P) (w := w) (K := F.K) (S := S) (φ := no) ty.zero hty'.zero1)
          rw [List.map_map] at this
          exact this
        obtain ⟨G', φ', h1, h2⟩ := box_new hr hf (e := e) hv
        refine ⟨_, _, G', φ', ?_, h1, h2⟩
        simp [execOp, Instr.alloc, zeroValue, typeInfo, hi, hz1, newVar, newRow, newObj, Sem.run]
      · simp at h
    · simp at h
  case buildSlice t n parts =>
    split at h
    · rename_i ty hty
      split at h
      · rename_i te hs hte
        split at h
        · rename_i ps' rows ds hlit
          have hcp : ∀ p ∈ parts.toList, ∀ v, p.2 = .const v → v.oneCell' = true := fun p hp' => hc p.2 (by simp [Op.operands]; exact ⟨p.1, by simpa using hp'⟩)
          have key : nodupB ds = true → nq n (lenN rows) = true → nl (n * te.size) 65536 = true → (n ≠ 0 → te.zero ≠ []) → AllP ps' →
              ∃ u w' G' φ', (execOp a.eval { dst, op := .buildSlice t n parts, type, pos, after, guard }).run F.P w = .ok (.value u) w' ∧ Rel0 F ⟨σ.n, σ.nx, σ.env, ((id, .row 0 ty.elem te.size rows) :: deads ds) ++ σ.objs⟩ a w' S G' φ' ∧ VR F.P w' F.K S G' (.rf id) u := by
            intro b1 b2 b3 b4 hp
            obtain ⟨u, w', G', φ', e, h1, h2⟩ := lit_sound hr (ht _ _ hty) hs (ht _ _ hte) hf hlit hp hcp (nodupB_iff _ b1) (by rw [← lenN_eq]; exact beq_true b2) (ble_true b3) b4 (fun d hd => used_ne hf (litRows_live _ _ hlit d hd))
            exact ⟨u, w', G', φ', by simp [execOp, e], h1, h2⟩
          split at h
          · rename_i b1 b2 b3 b4
            simp only [Option.some.injEq, Prod.mk.injEq] at h
            obtain ⟨rfl, rfl, rfl⟩ := h
            exact key b1 b2 b3 (fun h => absurd (beq_true b4) h) hp
          · rename_i z zr b1 b2 b3 b4 hz
            simp only [Option.some.injEq, Prod.mk.injEq] at h
            obtain ⟨rfl, rfl, rfl⟩ := h
            exact key b1 b2 b3 (fun _ => by rw [hz]; simp) hp
          · simp at h
        · simp at h
      · simp at h
    · simp at h
  case makeSlice t l c =>
    split at h
    · rename_i ty hty
      split at h
      · rename_i te hs hte
        split at h
        · rename_i z zr pl kl n pc kc m hz hl hcc
          simp only [Option.some.injEq, Prod.mk.injEq] at h
          obtain ⟨rfl, rfl, rfl⟩ := h
          rw [AllP_append, AllP_append] at hp
          obtain ⟨⟨hpl, hpc⟩, rfl, a0, a1, _⟩ := hp
          obtain ⟨u, w', G', φ', e, h1, h2⟩ := make_sound hr (ht _ _ hty) hs (ht _ _ hte) hf (kl := kl) (kc := kc) a0 a1.1 a1.2 (by rw [hz]; simp)
          rw [hz] at h1
          refine ⟨u, w', G', φ', ?_, h1, h2⟩
          have e1 := (got hr (hc l (by simp [Op.operands])) hl hpl).s_inv.1
          have e2 := (got hr (hc c (by simp [Op.operands])) hcc hpc).s_inv.1
          simp [execOp, e1, e2, e]
        · simp at h
      · simp at h
    · simp at h
  case call c =>
    obtain ⟨callee, args, argTypes⟩ := c
    simp only at h
    split at h
    · rename_i s x t t' hargs htys
      have ea : args = #[s, x] := by rw [← Array.toList_inj]; exact hargs
      have et : argTypes = #[t, t'] := by rw [← Array.toList_inj]; exact htys
      subst ea et
      split at h
      · rename_i ty htt hty
        obtain rfl := beq_true htt
        split at h
        · rename_i te hs hte
          split at h
          · rename_i p1 v1 p2 v2 z zr h1 h2 hz
            split at h
            · rename_i hmv
              split at h
              · rename_i r1 d1 p3 r2 sid o ht1 hs2
                split at h
                · rename_i hnd hfc
                  simp only [Option.some.injEq, Prod.mk.injEq] at h
                  obtain ⟨rfl, rfl, rfl⟩ := h
                  rw [AllP_append, AllP_append, AllP_append] at hp
                  obtain ⟨⟨⟨hp1, hp2⟩, hp3⟩, b1, _⟩ := hp
                  have hv1 := got hr (hc s (by simp [Op.operands, Call.operands])) h1 hp1
                  have hv2 := got hr (hc x (by simp [Op.operands, Call.operands])) h2 hp2
                  obtain ⟨u, w', G', φ', e, h3, h4⟩ := append_move hr (ht _ _ hty) hs (ht _ _ hte) hf hfc hv1 hv2 ht1 hs2 hp3 (nodupB_iff _ hnd) b1.1 b1.2 (by rw [hz]; simp) type
                  exact ⟨u, w', G', φ', by simp [execOp, resolve, invoke, builtin, e], h3, h4⟩
                · simp at h
              · simp at h
            · split at h
              · rename_i r1 d1 p3 r2 d2 ht1 hs2
                split at h
                · rename_i hnd
                  simp only [Option.some.injEq, Prod.mk.injEq] at h
                  obtain ⟨rfl, rfl, rfl⟩ := h
                  rw [AllP_append, AllP_append, AllP_append] at hp
                  obtain ⟨⟨⟨hp1, hp2⟩, hp3⟩, b1, _⟩ := hp
                  have hv1 := got hr (hc s (by simp [Op.operands, Call.operands])) h1 hp1
                  have hv2 := got hr (hc x (by simp [Op.operands, Call.operands])) h2 hp2
                  obtain ⟨u, w', G', φ', e, h3, h4⟩ := append_sound hr (ht _ _ hty) hs (ht _ _ hte) hf hv1 hv2 ht1 hs2 hp3 (nodupB_iff _ hnd) b1.1 b1.2 (by rw [hz]; simp) (fun d hd => by
                    rcases List.mem_append.1 hd with hd | hd
                    · exact used_ne hf (target_live ht1 d hd)
                    · exact used_ne hf (source_live hs2 d hd)) type
                  exact ⟨u, w', G', φ', by simp [execOp, resolve, invoke, builtin, e], h3, h4⟩
                · simp at h
              · simp at h
          · simp at h
        · simp at h
      · simp at h
    · simp at h

theorem stepS_sound (hr : Rel0 F σ a w S G φ) (ht : TabOk F.P tab) {o : Oper} {ps : List Prop} {os : List (Nat × O)} (h : stepS Ls tab σ o.op = some (ps, os)) (hp : AllP ps) (hc : ConstsOk o.op) :
    ∃ w' G' φ', (execOp a.eval o).run F.P w = .ok .skip w' ∧ Rel0 F ⟨σ.n, σ.nx, σ.env, os ++ σ.objs⟩ a w' S G' φ' := by
  obtain ⟨dst, op, type, pos, after, guard⟩ := o
  simp only at h hc
  cases op <;> simp only [stepS, reduceCtorEq] at h
  case store t x y =>
    split at h
    · rename_i ty px id i j py v hty hx hy
      split at h
      · rename_i vc hvc
        split at h
        · rename_i e cs hb ho
          split at h
          · rename_i hle
            simp only [Option.some.injEq, Prod.mk.injEq] at h
            obtain ⟨rfl, rfl⟩ := h
            rw [AllP_append, AllP_append] at hp
            obtain ⟨⟨hpx, hpy⟩, rfl, _⟩ := hp
            have hat : atomsB vc = true ∧ nq (lenN vc) ty.size = true := by cases ha : atomsB vc <;> simp_all
            have hu := got hr (hc x (by simp [Op.operands])) hx hpx
            have hv := cellsOf_sound (got hr (hc y (by simp [Op.operands])) hy hpy) hvc
            obtain ⟨w', φ', e, h1⟩ := store_box hr (ht _ _ hty) ho hu hv hat.1 (by rw [← lenN_eq]; exact beq_true hat.2) (by rw [← lenN_eq]; exact ble_true hle)
            refine ⟨w', G, φ', by simp [execOp, e], ?_⟩
            rw [takeN_eq, dropN_eq]
            exact h1
          · simp at h
        · rename_i ver e sz rows hb ho
          split at h
          · rename_i ts ds hsk hle
            split at h
            · rename_i hnd
              simp only [Option.some.injEq, Prod.mk.injEq] at h
              obtain ⟨rfl, rfl⟩ := h
              rw [AllP_append, AllP_append] at hp
              obtain ⟨⟨hpx, hpy⟩, b0, b1, _⟩ := hp
              have hat : atomsB vc = true ∧ nq (lenN vc) ty.size = true := by cases ha : atomsB vc <;> simp_all
              have hu := got hr (hc x (by simp [Op.operands])) hx hpx
              have hv := cellsOf_sound (got hr (hc y (by simp [Op.operands])) hy hpy) hvc
              obtain ⟨w', G', φ', e, h1⟩ := store_row hr (ht _ _ hty) ho hu hv hat.1 (by rw [← lenN_eq]; exact beq_true hat.2) (ble_true hle) hsk (nodupB_iff _ hnd) b0 b1
              exact ⟨w', G', φ', by simp [execOp, e], h1⟩
            · simp at h
          · simp at h
        · simp at h
      · simp at h
    · simp at h

end Go.Proofs.Ytgicjbeaomjdgaa.L
