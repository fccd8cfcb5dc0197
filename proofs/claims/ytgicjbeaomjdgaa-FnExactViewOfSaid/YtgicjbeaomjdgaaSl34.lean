/- Steps told by hand: parts of rows. -/
import Derived.Test.YtgicjbeaomjdgaaSl33
namespace Go.Proofs.Ytgicjbeaomjdgaa.L
set_option linter.unusedVariables false
set_option linter.unusedSimpArgs false
open Go
variable {P : Program} {F : Fr} {σ : St} {a : Act} {w : World} {S : Nat → Prop} {G G' : Gh} {φ : Nat → Nat → Prop} {tab : List (Nat × Ty)}

theorem slice_sl2 {P : Program} {t : Nat} {ty te : Ty} (ht : TyOk P t ty) (hs : ty.isS = true) (hte : TyOk P ty.elem te) {A : Option Addr} {len cap : Nat} {l hh : Int} {x y : Option Value} (hx : (x = none ∧ l = 0) ∨ ∃ k, x = some (.int k l)) (hy : (y = none ∧ hh = (len : Int)) ∨ ∃ k, y = some (.int k hh))
    (h0 : 0 ≤ l) (h1 : l ≤ hh) (h2 : hh ≤ (cap : Int)) (_h3 : len ≤ cap) :
    (Instr.sliceAt t (.slice A len cap) x y none).run P w = .ok (.slice (if cap = l.toNat then A else A.map (·.add (l.toNat * te.size))) (hh.toNat - l.toNat) (cap - l.toNat)) w := by
  have hb : ∀ (k : IntKind) (n : Int) (m : Nat) (c : BoundsCode), 0 ≤ n → n ≤ m → (Instr.sliceBound (.int k n) m c).run P w = .ok n.toNat w := by
    intro k n m c h0 h1
    simp [Instr.sliceBound, asIntOf, h0, h1]
  have hbs : (Instr.sliceBounds true len cap x y none).run P w = .ok (l.toNat, hh.toNat, cap) w := by
    rcases hx with ⟨rfl, rfl⟩ | ⟨k, rfl⟩ <;> rcases hy with ⟨rfl, rfl⟩ | ⟨k', rfl⟩
    · simp [Instr.sliceBounds]
    · simp [Instr.sliceBounds, hb k' hh cap _ (by omega) (by omega)]
    · simp [Instr.sliceBounds, hb k l len _ h0 h1]
    · simp [Instr.sliceBounds, hb k' hh cap _ (by omega) (by omega), hb k l hh.toNat _ h0 (by omega)]
  have hd := ht.isS hs
  simp only [Instr.sliceAt, Sem.run_bind, run_underlying hd, Result.andThen_ok, Instr.slice, hbs, run_sizeOf hte, Sem.run_pure]

/-- A part of a part. -/
theorem part_of (hr : Rel0 F σ a w S G φ) {t : Nat} {ty te : Ty} (ht : TyOk F.P t ty) (hs : ty.isS = true) (hte : TyOk F.P ty.elem te) {id ver e sz : Nat} {rows : Rws} (ho : look .dead σ.objs id = .row ver e sz rows) (hsz : sz = te.size) {u : Value} {b0 b1 : Int} (hv : VR F.P w F.K S G (.sb id b0 b1) u) {x y : Option Value} {l hh : Int} (hx : (x = none ∧ l = 0) ∨ ∃ k, x = some (.int k l)) (hy : (y = none ∧ hh = b1 - b0) ∨ ∃ k, y = some (.int k hh))
    (h0 : 0 ≤ l) (h1 : l ≤ hh) (h2 : b0 + hh ≤ Ls.ln rows) :
    ∃ z, (Instr.sliceAt t u x y none).run F.P w = .ok z w ∧ VR F.P w F.K S G (.sb id (b0 + l) (b0 + hh)) z := by
  obtain ⟨hid, _, hGs, us, hk, hrs, hown, ψ, _, _, hcr⟩ := hr.row ho
  simp only [Ls] at h2
  have hm : rows.length ≤ maxLen := by
    rcases hown.2 with ⟨_, hn⟩ | ⟨g, cap, cur, _, _, _, hnc, hcm, _⟩
    · simp only [maxLen]; omega
    · omega
  cases hv with
  | sb hid' g0 g1 gn gm gc gA gb _ =>
    rename_i A n c
    obtain ⟨A', m, cp, hβ, hhm, hcp, hA0⟩ := gb
    have hmr : m = rows.length ∧ m ≤ cp := by
      rcases hown.2 with ⟨h, hn⟩ | ⟨g, cap, cur, h, _, _, hnc, _⟩
      · rw [hβ] at h; cases h; exact ⟨hn.symm, Nat.le_refl _⟩
      · rw [hβ] at h; cases h; exact ⟨rfl, hnc⟩
    refine ⟨_, slice_sl2 ht hs hte hx (by rw [gn]; exact hy) h0 h1 (by omega) gc, ?_⟩
    refine .sb hid (by omega) (by omega) (by omega) (by omega) (by omega) (fun hp => ?_) ⟨_, _, _, hβ, by omega, by omega, fun e => by
      have l0 : l = 0 := by omega
      rw [hA0 (by omega), l0]
      cases A' with
      | none => split <;> rfl
      | some d => split <;> simp [Addr.add]⟩ .nil
    obtain ⟨g, hg, rfl⟩ := gA (by omega)
    refine ⟨g, hg, ?_⟩
    rw [if_neg (by omega), hGs, hsz]
    simp only [Option.map_some, Addr.add_lit, Option.some.injEq, Addr.mk.injEq, true_and, and_true]
    rw [Int.toNat_add g0 h0, Nat.add_mul]
/-- A slice of a part: both ends, one, none. -/
theorem hand_slice {t : Nat} {ty te : Ty} (ht : TyOk P t ty) (hs : ty.isS = true) (hte : TyOk P ty.elem te) {x : Operand} {lo hi : Option Operand} {id ver e sz : Nat} {rows : Rws} (hsz : sz = te.size) {b0 b1 l hh lo' hi' : Int} {vl vh : List V}
    (hl : (lo = none ∧ vl = [] ∧ l = 0) ∨ ∃ y k, lo = some y ∧ vl = [.t (.s (.int k l))]) (hh' : (hi = none ∧ vh = [] ∧ hh = b1 - b0) ∨ ∃ y k, hi = some y ∧ vh = [.t (.s (.int k hh))])
    (h0 : 0 ≤ l) (h1 : l ≤ hh) (h2 : b0 + hh ≤ Ls.ln rows) (e1 : lo' = b0 + l) (e2 : hi' = b0 + hh) :
    HandOk P (.slice t x lo hi none) (.sb id b0 b1 :: (vl ++ vh)) [(id, .row ver e sz rows)] (.sb id lo' hi') [] := by
  subst e1 e2
  intro F σ a w S G φ hP hr hv ho _
  subst hP
  have ho := ho _ (List.mem_singleton.2 rfl)
  have key : ∃ u : Value, VR F.P w F.K S G (.sb id b0 b1) u ∧ a.eval x = u ∧ ((lo.map a.eval = none ∧ l = 0) ∨ ∃ k, lo.map a.eval = some (.int k l)) ∧ ((hi.map a.eval = none ∧ hh = b1 - b0) ∨ ∃ k, hi.map a.eval = some (.int k hh)) := by
    rcases hl with ⟨rfl, rfl, rfl⟩ | ⟨y, k, rfl, rfl⟩ <;> rcases hh' with ⟨rfl, rfl, rfl⟩ | ⟨y', k', rfl, rfl⟩ <;> simp [Op.operands] at hv <;> obtain ⟨u, us, e, g1, g2⟩ := hv.uncons <;> simp only [List.cons.injEq] at e <;> obtain ⟨e, rfl⟩ := e
    · exact ⟨u, g1, e, .inl ⟨rfl, rfl⟩, .inl ⟨rfl, rfl⟩⟩
    · obtain ⟨u', us', e', g3, g4⟩ := g2.uncons
      simp only [List.cons.injEq] at e'
      exact ⟨u, g1, e, .inl ⟨rfl, rfl⟩, .inr ⟨k', by rw [Option.map_some, e'.1, g3.s_inv.1]⟩⟩
    · obtain ⟨u', us', e', g3, g4⟩ := g2.uncons
      simp only [List.cons.injEq] at e'
      exact ⟨u, g1, e, .inr ⟨k, by rw [Option.map_some, e'.1, g3.s_inv.1]⟩, .inl ⟨rfl, rfl⟩⟩
    · obtain ⟨u', us', e', g3, g4⟩ := g2.uncons
      simp only [List.cons.injEq] at e'
      obtain ⟨u2, us2, e2, g5, g6⟩ := (e'.2 ▸ g4 : VRs F.P w F.K S G _ _).uncons
      simp only [List.cons.injEq] at e2
      exact ⟨u, g1, e, .inr ⟨k, by rw [Option.map_some, e'.1, g3.s_inv.1]⟩, .inr ⟨k', by rw [Option.map_some, e2.1, g5.s_inv.1]⟩⟩
  obtain ⟨u, g1, eu, hx, hy⟩ := key
  obtain ⟨z, hz, hvz⟩ := part_of hr ht hs hte ho hsz g1 hx hy h0 h1 h2
  refine ⟨z, w, G, φ, fun o hop => ?_, hr, hvz⟩
  obtain ⟨dst, op, type, pos, after, guard⟩ := o
  simp only at hop
  subst hop
  simp [execOp, eu, hz]
end Go.Proofs.Ytgicjbeaomjdgaa.L
