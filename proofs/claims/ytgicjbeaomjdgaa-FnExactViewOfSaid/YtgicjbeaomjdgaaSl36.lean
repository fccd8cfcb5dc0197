import Derived.Test.YtgicjbeaomjdgaaSl35
namespace Go.Proofs.Ytgicjbeaomjdgaa.L
set_option linter.unusedVariables false
set_option linter.unusedSimpArgs false
open Go
variable {P : Program} {F : Fr} {σ : St} {a : Act} {w : World} {S : Nat → Prop} {G G' : Gh} {φ : Nat → Nat → Prop} {tab : List (Nat × Ty)}

/-- A part of a row laid to zero: what was behind its beginning is nobody's. -/
theorem hand_clear {t : Nat} {ty te : Ty} (ht : TyOk P t ty) (hs : ty.isS = true) (hte : TyOk P ty.elem te) (hz : te.zero ≠ []) {x : Operand} {id ver : Nat} {rows : Rws} {b0 b1 : Nat} (h1 : b0 < b1) (h2 : b1 ≤ rows.length) :
    HandOk P (.call { callee := .builtin .clear, args := #[x], argTypes := #[t] }) [.sb id b0 b1] [(id, .row ver ty.elem te.size rows)] .u [(id, .row (ver + 1) ty.elem te.size (delR rows b0 rows.length rows.length te.size))] := by
  intro F σ a w S G φ hP hr hv ho _
  subst hP
  have ho := ho _ (List.mem_singleton.2 rfl)
  obtain ⟨hid, hsz, hGs, us, hk, hrs, hown, ψ, hψb, hψ, hcr⟩ := hr.row ho
  simp [Op.operands, Call.operands] at hv
  obtain ⟨ux, us1, e1, v1, r1⟩ := hv.uncons
  cases r1
  simp only [List.cons.injEq, and_true] at e1
  obtain ⟨ti, hi, hsz', hby, hzz⟩ := hte.info
  obtain ⟨z, hz1, hz2⟩ := hzz hz
  have hzs : z.cells.size = te.size := by rw [← Array.length_toList, hz2, hte.zlen hz]
  rcases hown.2 with ⟨hβ, hn⟩ | ⟨g, cap, cur, hβ, _, hh, hnc, hcm, hcs, htk⟩
  · omega
  cases v1 with
  | @sb _ _ _ A1 n1 c1 _ _ _ _ _ gn1 gm1 gc1 gA1 gb1 _ =>
    obtain ⟨_, m1, cp1, hb1, hm1, hc1, hA1⟩ := gb1
    rw [hβ] at hb1
    cases hb1
    have ul : us.length = rows.length * te.size := hcr.len.trans (flatten_len rows hrs)
    have hblk : blk (G.β id) = some g := by rw [hβ]; rfl
    obtain ⟨g1, hg1, rfl⟩ := gA1 (by omega)
    obtain rfl : g1 = g := by rw [hblk] at hg1; exact (Option.some.inj hg1).symm
    have q1 : n1 = b1 - b0 := by omega
    rw [hGs, Int.toNat_natCast] at e1
    generalize hS : te.size = sz at *
    have m0 : rows.length * sz = b1 * sz + (rows.length - b1) * sz := by rw [← Nat.add_mul]; congr 1; omega
    have m1' : b1 * sz = b0 * sz + n1 * sz := by rw [← Nat.add_mul]; congr 1; omega
    have m3 : rows.length * sz ≤ cap * sz := Nat.mul_le_mul_right _ hnc
    have cl : cur.toList.length = cap * sz := by rw [Array.length_toList, hcs]
    have m4 : (rows.length - b0 - (rows.length - rows.length)) * sz + b0 * sz = rows.length * sz := by rw [← Nat.add_mul]; congr 1; omega
    have hzv : ∀ w, (zeroValue ty.elem).run F.P w = .ok z w := fun w => by simp [zeroValue, typeInfo, hi, hz1]
    have zl : (Builtin.zeroCells z.cells n1).toList.length = n1 * sz := by simp [Builtin.zeroCells, hzs]
    have hrun := run_clear_in (P := F.P) (w := w) t ty.elem (ht.isS hs) hzv hzs (fun v hv => hte.zero1 v (hz2 ▸ hv)) (g := g1) (o := b0 * sz) (n := n1) (c := c1) hh (by omega) (by rw [hcs]; omega)
    let cur' := (cur.toList.take (b0 * sz) ++ (Builtin.zeroCells z.cells n1).toList ++ cur.toList.drop (b0 * sz + n1 * sz)).toArray
    have hz1' : ∀ v ∈ (Builtin.zeroCells z.cells n1).toList, v.oneCell' = true := by
      intro x hx
      simp only [Builtin.zeroCells, Array.toList_map, List.mem_map] at hx
      obtain ⟨j, hj, rfl⟩ := hx
      have hj' : j < n1 * z.cells.size := by simpa using hj
      have : 0 < z.cells.size := by
        rcases Nat.eq_zero_or_pos z.cells.size with h | h
        · rw [h] at hj'; simp at hj'
        · exact h
      have hlt := Nat.mod_lt j this
      rw [getElem!_pos z.cells _ hlt]
      exact hte.zero1 _ (hz2 ▸ (by simp))
    obtain ⟨G', φ', hr', hle⟩ := row_upd hr ho (g := g1) (cap := cap) (cur := cur) (cur' := cur') hβ hh hnc hcm hcs (by
        simp only [cur', List.size_toArray, List.length_append, List.length_take, List.length_drop, zl, cl]; omega) (rows' := delR rows b0 rows.length rows.length sz) (us' := us.take (b0 * sz) ++ ((us.take (rows.length * sz)).drop (rows.length * sz) ++ ((Builtin.zeroCells z.cells n1).toList ++ us.drop (b1 * sz)))) (ds := []) (ψ' := ψ) (delR_len (by omega) (Nat.le_refl _) (Nat.le_refl _)) (delR_row hrs) (by
        have l1 : (cur.toList.take (b0 * sz) ++ (Builtin.zeroCells z.cells n1).toList).length = b1 * sz := by rw [List.length_append, List.length_take, cl, zl]; omega
        show ((cur.toList.take (b0 * sz) ++ (Builtin.zeroCells z.cells n1).toList) ++ cur.toList.drop (b0 * sz + n1 * sz)).take (rows.length * sz) = _
        rw [List.drop_eq_nil_of_le (i := rows.length * sz) (by rw [List.length_take]; omega), List.nil_append, List.take_append, List.take_of_length_le (by rw [l1]; omega), l1, ← htk, List.take_take, Nat.min_eq_left (by omega), List.drop_take, ← m1', List.append_assoc])
      (CR.del hrs hcr (by omega) (Nat.le_refl _) (Nat.le_refl _) (by rw [List.length_append, zl, List.length_drop, ul]; omega) (fun v hv => by
        rcases List.mem_append.1 hv with hv | hv
        · exact hz1' v hv
        · exact hcr.one v (List.mem_of_mem_drop hv))) (fun b hb => .inl (hψ b hb)) (fun hb => (hψb g1 (by rw [hβ]; rfl)).2 hb) (by simp)
    refine ⟨.tuple #[], _, G', φ', fun o hop => ?_, hr', .uu .nil⟩
    obtain ⟨dst, op, type, pos, after, guard⟩ := o
    simp only at hop
    subst hop
    simp [execOp, resolve, invoke, builtin, e1, hrun, cur']
end Go.Proofs.Ytgicjbeaomjdgaa.L
