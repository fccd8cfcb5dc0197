import Derived.Test.YtgicjbeaomjdgaaSl36
namespace Go.Proofs.Ytgicjbeaomjdgaa.L
set_option linter.unusedVariables false
set_option linter.unusedSimpArgs false
open Go
variable {P : Program} {F : Fr} {σ : St} {a : Act} {w : World} {S : Nat → Prop} {G G' : Gh} {φ : Nat → Nat → Prop} {tab : List (Nat × Ty)}

/-- A slice with three bounds, of which nothing is kept. -/
theorem hand_slice3 {t : Nat} {ty te : Ty} (ht : TyOk P t ty) (hs : ty.isS = true) (hte : TyOk P ty.elem te) {x lo hi mx : Operand} {id : Nat} {o : O} {b0 b1 l hh m : Int} {k k' k2 : IntKind} (h0 : 0 ≤ l) (h1 : l ≤ hh) (h2 : hh ≤ m) (h3 : m ≤ b1 - b0) :
    HandOk P (.slice t x (some lo) (some hi) (some mx)) [.sb id b0 b1, .t (.s (.int k l)), .t (.s (.int k' hh)), .t (.s (.int k2 m))] [(id, o)] .u [] := by
  intro F σ a w S G φ hP hr hv ho _
  subst hP
  simp [Op.operands] at hv
  obtain ⟨u, us, e, g1, g2⟩ := hv.uncons
  obtain ⟨u2, us2, e2, g3, g4⟩ := g2.uncons
  obtain ⟨u3, us3, e3, g5, g6⟩ := g4.uncons
  obtain ⟨u4, us4, e4, g7, g8⟩ := g6.uncons
  cases g8
  subst e4 
  subst e3
  subst e2
  simp only [List.cons.injEq, and_true] at e
  obtain ⟨e1, e2, e3, e4⟩ := e
  have e2 := e2.trans g3.s_inv.1
  have e3 := e3.trans g5.s_inv.1
  have e4 := e4.trans g7.s_inv.1
  cases g1 with
  | @sb _ _ _ A n c _ _ _ _ _ gn gm gc gA gb _ =>
    have hb : ∀ (k : IntKind) (n : Int) (m : Nat) (c : BoundsCode), 0 ≤ n → n ≤ m → (Instr.sliceBound (.int k n) m c).run F.P w = .ok n.toNat w := by
      intro k n m c h0 h1
      simp [Instr.sliceBound, asIntOf, h0, h1]
    have key : ∃ u, (Instr.sliceAt t (a.eval x) (some (a.eval lo)) (some (a.eval hi)) (some (a.eval mx))).run F.P w = .ok u w := by
      rw [e1, e2, e3, e4]
      simp only [Instr.sliceAt, Sem.run_bind, run_underlying (ht.isS hs), Result.andThen_ok, Instr.slice, Instr.sliceBounds, hb k2 m c _ (by omega) (by omega), hb k' hh m.toNat _ (by omega) (by omega), hb k l hh.toNat _ h0 (by omega), run_sizeOf hte, Sem.run_pure]
      exact ⟨_, rfl⟩
    obtain ⟨u, hu⟩ := key
    refine ⟨u, w, G, φ, fun o hop => ?_, hr, .uu .nil⟩
    obtain ⟨dst, op, type, pos, after, guard⟩ := o
    simp only at hop
    subst hop
    simp [execOp, hu]
end Go.Proofs.Ytgicjbeaomjdgaa.L
