/- slices.Delete's steps. -/
import Derived.Test.YtgicjbeaomjdgaaSl38
namespace Go.Proofs.Ytgicjbeaomjdgaa.L
set_option linter.unusedVariables false
set_option linter.unusedSimpArgs false
open Go
variable {P : Program} {F : Fr} {σ : St} {a : Act} {w : World} {S : Nat → Prop} {G G' : Gh} {φ : Nat → Nat → Prop} {tab : List (Nat × Ty)}

/-- A row's slice with three bounds, of which nothing is kept. -/
theorem hand_slice3r {t : Nat} {ty te : Ty} (ht : TyOk P t ty) (hs : ty.isS = true) (hte : TyOk P ty.elem te) {x lo hi mx : Operand} {id ver e sz : Nat} {rows : Rws} {l hh m : Int} {k k' k2 : IntKind} (h0 : 0 ≤ l) (h1 : l ≤ hh) (h2 : hh ≤ m) (h3 : m ≤ Ls.ln rows) :
    HandOk P (.slice t x (some lo) (some hi) (some mx)) [.rf id, .t (.s (.int k l)), .t (.s (.int k' hh)), .t (.s (.int k2 m))] [(id, .row ver e sz rows)] .u [] := by
  intro F σ a w S G φ hP hr hv ho _
  subst hP
  have ho := ho _ (List.mem_singleton.2 rfl)
  obtain ⟨hid, hsz, hGs, us, hk, hrs, hown, ψ, hψb, hψ, hcr⟩ := hr.row ho
  simp [Op.operands] at hv
  obtain ⟨u, us, e, g1, g2⟩ := hv.uncons
  obtain ⟨u2, us2, e2, g3, g4⟩ := g2.uncons
  obtain ⟨u3, us3, e3, g5, g6⟩ := g4.uncons
  obtain ⟨u4, us4, e4, g7, g8⟩ := g6.uncons
  cases g8
  subst e4 
  subst e3
  subst e2
  simp only [List.cons.injEq, and_true] at e
  obtain ⟨e1, e2, e3, e4⟩ := e
  have e2 := e2.trans g3.s_inv.1
  have e3 := e3.trans g5.s_inv.1
  have e4 := e4.trans g7.s_inv.1
  simp only [Ls] at h3
  have hb : ∀ (k : IntKind) (n : Int) (m : Nat) (c : BoundsCode), 0 ≤ n → n ≤ m → (Instr.sliceBound (.int k n) m c).run F.P w = .ok n.toNat w := by
    intro k n m c h0 h1
    simp [Instr.sliceBound, asIntOf, h0, h1]
  have hu : ∃ A c, u = .slice A rows.length c ∧ rows.length ≤ c := by
    cases g1 with
    | rf _ hu _ _ =>
      subst hu
      rcases hown.2 with ⟨hβ, hn⟩ | ⟨g, cap, cur, hβ, _, _, hnc, _⟩
      · exact ⟨none, 0, by rw [hβ, hn], by omega⟩
      · exact ⟨_, cap, hβ, hnc⟩
  obtain ⟨A, c, rfl, hc⟩ := hu
  have key : ∃ u, (Instr.sliceAt t (a.eval x) (some (a.eval lo)) (some (a.eval hi)) (some (a.eval mx))).run F.P w = .ok u w := by
    rw [e1, e2, e3, e4]
    simp only [Instr.sliceAt, Sem.run_bind, run_underlying (ht.isS hs), Result.andThen_ok, Instr.slice, Instr.sliceBounds, hb k2 m c _ (by omega) (by omega), hb k' hh m.toNat _ (by omega) (by omega), hb k l hh.toNat _ h0 (by omega), run_sizeOf hte, Sem.run_pure]
    exact ⟨_, rfl⟩
  obtain ⟨u, hu⟩ := key
  refine ⟨u, w, G, φ, fun o hop => ?_, hr, .uu .nil⟩
  obtain ⟨dst, op, type, pos, after, guard⟩ := o
  simp only at hop
  subst hop
  simp [execOp, hu]

theorem delR_take {rows : Rws} {i j sz : Nat} (h1 : i ≤ j) (h2 : j ≤ rows.length) : (delR rows i j rows.length sz).take (i + (rows.length - j)) = rows.take i ++ rows.drop j := by
  unfold delR
  rw [List.take_of_length_le (l := rows) (Nat.le_refl _), ← List.append_assoc, List.take_left']
  rw [List.length_append, List.length_take, List.length_drop]; omega
theorem delR_take2 {rows : Rws} {i j sz : Nat} (h1 : i ≤ j) (h2 : j ≤ rows.length) : (delR (delR rows i j rows.length sz) (i + (rows.length - j)) rows.length rows.length sz).take (i + (rows.length - j)) = rows.take i ++ rows.drop j := by
  have hl := delR_len (sz := sz) h1 h2 (Nat.le_refl rows.length)
  rw [← delR_take (sz := sz) h1 h2]
  generalize hD : delR rows i j rows.length sz = D at *
  have hk : i + (rows.length - j) ≤ D.length := by omega
  unfold delR
  rw [List.take_append_of_le_length (by rw [List.length_take]; omega), List.take_take, Nat.min_self]
end Go.Proofs.Ytgicjbeaomjdgaa.L
