/- slices.Delete's steps, the last ones. -/
import Derived.Test.YtgicjbeaomjdgaaSl39
namespace Go.Proofs.Ytgicjbeaomjdgaa.L
set_option linter.unusedVariables false
set_option linter.unusedSimpArgs false
open Go
variable {P : Program} {F : Fr} {σ : St} {a : Act} {w : World} {S : Nat → Prop} {G G' : Gh} {φ : Nat → Nat → Prop} {tab : List (Nat × Ty)}

/-- The length of a part. -/
theorem hand_len {t : Nat} {ty : Ty} (ht : TyOk P t ty) (hs : ty.isS = true) {x : Operand} {id : Nat} {o : O} {b0 b1 n : Int} (hn : n = b1 - b0) :
    HandOk P (.call { callee := .builtin .len, args := #[x], argTypes := #[t] }) [.sb id b0 b1] [(id, o)] (.t (.s (.int .i64 n))) [] := by
  intro F σ a w S G φ hP hr hv ho _
  subst hP
  simp [Op.operands, Call.operands] at hv
  obtain ⟨ux, us1, e1, v1, r1⟩ := hv.uncons
  cases r1
  simp only [List.cons.injEq, and_true] at e1
  cases v1 with
  | @sb _ _ _ A1 n1 c1 _ _ _ _ _ gn1 gm1 gc1 gA1 gb1 _ =>
    obtain rfl : n = (n1 : Int) := hn.trans gn1.symm
    refine ⟨.int .i64 n1, w, G, φ, fun o hop => ?_, hr, .t (.s rfl .nil) .nil⟩
    obtain ⟨dst, op, type, pos, after, guard⟩ := o
    simp only at hop
    subst hop
    simp [execOp, resolve, invoke, builtin, e1, Builtin.len_, Builtin.lenOf, run_underlying (ht.isS hs), goInt]
end Go.Proofs.Ytgicjbeaomjdgaa.L
