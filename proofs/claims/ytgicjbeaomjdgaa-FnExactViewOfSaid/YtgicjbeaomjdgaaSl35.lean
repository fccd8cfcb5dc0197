/- Steps told by hand: cells that are moved. -/
import Derived.Test.YtgicjbeaomjdgaaSl34
namespace Go.Proofs.Ytgicjbeaomjdgaa.L
set_option linter.unusedVariables false
set_option linter.unusedSimpArgs false
open Go
variable {P : Program} {F : Fr} {σ : St} {a : Act} {w : World} {S : Nat → Prop} {G G' : Gh} {φ : Nat → Nat → Prop} {tab : List (Nat × Ty)}

/-- Rows of which a part is gone: the first i, then those from j to h, then nobody's. -/
def delR (rows : Rws) (i j h sz : Nat) : Rws := rows.take i ++ ((rows.take h).drop j ++ List.replicate (rows.length - i - (h - j)) (List.replicate sz .jk))

theorem delR_len {rows : Rws} {i j h sz : Nat} (h1 : i ≤ j) (h2 : j ≤ h) (h3 : h ≤ rows.length) : (delR rows i j h sz).length = rows.length := by
  simp [delR]; omega
theorem delR_row {rows : Rws} {i j h sz : Nat} (hs : ∀ r ∈ rows, r.length = sz) : ∀ r ∈ delR rows i j h sz, r.length = sz := by
  intro r hr
  rcases List.mem_append.1 hr with hr | hr
  · exact hs r (List.mem_of_mem_take hr)
  · rcases List.mem_append.1 hr with hr | hr
    · exact hs r (List.mem_of_mem_take (List.mem_of_mem_drop hr))
    · rw [(List.mem_replicate.1 hr).2]; simp

/-- The cells' relation behind such a move. -/
theorem CR.del {K φ0 : Nat → Prop} {rows : Rws} {us : List Value} {i j h sz : Nat} (hs : ∀ r ∈ rows, r.length = sz) (hc : CR P w K S rows.flatten us φ0) (h1 : i ≤ j) (h2 : j ≤ h) (h3 : h ≤ rows.length) {ux : List Value} (hx : ux.length = (rows.length - i - (h - j)) * sz) (ho : ∀ v ∈ ux, v.oneCell' = true) :
    CR P w K S (delR rows i j h sz).flatten (us.take (i * sz) ++ ((us.take (h * sz)).drop (j * sz) ++ ux)) φ0 := by
  have e : rows = rows.take i ++ ((rows.take j).drop i ++ ((rows.take h).drop j ++ rows.drop h)) := by
    have a1 : (rows.take j).take i = rows.take i := by rw [List.take_take, Nat.min_eq_left h1]
    have a2 : (rows.take h).take j = rows.take j := by rw [List.take_take, Nat.min_eq_left h2]
    have b1 : rows.take i ++ (rows.take j).drop i = rows.take j := by rw [← a1, List.take_append_drop]
    have b2 : rows.take j ++ (rows.take h).drop j = rows.take h := by rw [← a2, List.take_append_drop]
    rw [← List.append_assoc, b1, ← List.append_assoc, b2, List.take_append_drop]
  have hc0 := hc
  rw [e] at hc0
  simp only [List.flatten_append] at hc0
  obtain ⟨uA, u1, φA, φ1, rfl, hA, hr1, d1, sA, s1⟩ := CR.split hc0
  obtain ⟨uM, u2, φM, φ2, rfl, hM, hr2, d2, sM, s2⟩ := CR.split hr1
  obtain ⟨uB, uC, φB, φC, rfl, hB, hC, d3, sB, sC⟩ := CR.split hr2
  have lA : uA.length = i * sz := by rw [hA.len, flatten_len _ (fun r hr => hs r (List.mem_of_mem_take hr)), List.length_take, Nat.min_eq_left (by omega)]
  have lM : uM.length = (j - i) * sz := by rw [hM.len, flatten_len _ (fun r hr => hs r (List.mem_of_mem_take (List.mem_of_mem_drop hr))), List.length_drop, List.length_take, Nat.min_eq_left (by omega)]
  have lB : uB.length = (h - j) * sz := by rw [hB.len, flatten_len _ (fun r hr => hs r (List.mem_of_mem_take (List.mem_of_mem_drop hr))), List.length_drop, List.length_take, Nat.min_eq_left (by omega)]
  have m1 : i * sz + (j - i) * sz = j * sz := by rw [← Nat.add_mul]; congr 1; omega
  have m2 : j * sz + (h - j) * sz = h * sz := by rw [← Nat.add_mul]; congr 1; omega
  have eA : (uA ++ (uM ++ (uB ++ uC))).take (i * sz) = uA := by rw [← lA, List.take_left]
  have eB : ((uA ++ (uM ++ (uB ++ uC))).take (h * sz)).drop (j * sz) = uB := by
    have : uA ++ (uM ++ (uB ++ uC)) = ((uA ++ uM) ++ uB) ++ uC := by simp
    rw [this, List.take_left' (by simp only [List.length_append]; omega), List.drop_left' (by simp only [List.length_append]; omega)]
  rw [eA, eB]
  unfold delR
  rw [List.flatten_append, List.flatten_append, rep_flat, ← hx]
  refine CR.join (φ1 := φA) hA (CR.join (φ1 := φB) (φ := φB) hB (CR.junk ux ho) (fun _ _ h => h.elim) (fun _ h => h) (fun _ h => h.elim)) (fun b h h' => d1 b h (s2 b (sB b h'))) sA (fun b h => s1 b (s2 b (sB b h)))

/-- An append of a row's part to a part ahead of it. -/
theorem hand_append_in {t : Nat} {ty te : Ty} (ht : TyOk P t ty) (hs : ty.isS = true) (hte : TyOk P ty.elem te) {x y : Operand} {id ver : Nat} {rows : Rws} {i j h : Nat} {k' : Int} (h1 : i < j) (h2 : j ≤ h) (h3 : h ≤ rows.length) (hk : k' = ((i + (h - j) : Nat) : Int)) :
    HandOk P (.call { callee := .builtin .append, args := #[x, y], argTypes := #[t, t] }) [.sb id 0 i, .sb id j h] [(id, .row ver ty.elem te.size rows)] (.sb id 0 k') [(id, .row (ver + 1) ty.elem te.size (delR rows i j h te.size))] := by
  subst hk
  intro F σ a w S G φ hP hr hv ho _
  subst hP
  have ho := ho _ (List.mem_singleton.2 rfl)
  obtain ⟨hid, hsz, hGs, us, hk, hrs, hown, ψ, hψb, hψ, hcr⟩ := hr.row ho
  simp [Op.operands, Call.operands] at hv
  obtain ⟨ux, us1, e1, v1, r1⟩ := hv.uncons
  obtain ⟨uy, us2, e2, v2, r2⟩ := r1.uncons
  cases r2
  subst e2
  simp only [List.cons.injEq, and_true] at e1
  obtain ⟨ex, ey⟩ := e1
  obtain ⟨ti, hi, hsz', hby, hzz⟩ := hte.info
  rcases hown.2 with ⟨hβ, hn⟩ | ⟨g, cap, cur, hβ, _, hh, hnc, hcm, hcs, htk⟩
  · omega
  cases v1 with
  | @sb _ _ _ A1 n1 c1 _ _ _ _ _ gn1 gm1 gc1 gA1 gb1 _ =>
  cases v2 with
  | @sb _ _ _ A2 n2 c2 _ _ _ _ _ gn2 gm2 gc2 gA2 gb2 _ =>
    obtain ⟨_, m1, cp1, hb1, hm1, hc1, hA1⟩ := gb1
    obtain ⟨_, m2, cp2, hb2, hm2, hc2, hA2⟩ := gb2
    rw [hβ] at hb1 hb2
    cases hb1
    cases hb2
    have ul : us.length = rows.length * te.size := hcr.len.trans (flatten_len rows hrs)
    have hblk : blk (G.β id) = some g := by rw [hβ]; rfl
    obtain ⟨g1, hg1, rfl⟩ := gA1 (by omega)
    obtain rfl : g1 = g := by rw [hblk] at hg1; exact (Option.some.inj hg1).symm
    have q1 : n1 = i := by omega
    have q2 : n2 = h - j := by omega
    have q3 : c1 = cap := by simpa using hc1
    subst q1 q2 q3
    generalize hS : te.size = sz at *
    have m0 : rows.length * sz = h * sz + (rows.length - h) * sz := by rw [← Nat.add_mul]; congr 1; omega
    have m1 : h * sz = j * sz + (h - j) * sz := by rw [← Nat.add_mul]; congr 1; omega
    have m2 : j * sz = n1 * sz + (j - n1) * sz := by rw [← Nat.add_mul]; congr 1; omega
    have m3 : rows.length * sz ≤ c1 * sz := Nat.mul_le_mul_right _ hnc
    have m4 : (rows.length - n1 - (h - j)) * sz + (n1 * sz + (h - j) * sz) = rows.length * sz := by rw [← Nat.add_mul, ← Nat.add_mul]; congr 1; omega
    let um := (us.take (h * sz)).drop (j * sz)
    have lm : um.length = (h - j) * sz := by
      show ((us.take (h * sz)).drop (j * sz)).length = _
      rw [List.length_drop, List.length_take]; omega
    have hum : ∀ v ∈ um, v.oneCell' = true := fun v hv => hcr.one v (List.mem_of_mem_take (List.mem_of_mem_drop hv))
    have cl : cur.toList.length = c1 * sz := by rw [Array.length_toList, hcs]
    have hrun := run_append_in (P := F.P) (w := w) t ty.elem (ht.isS hs) hi hsz' (g := g1) (o := 0) (n := n1) (cap := c1) hh (A := A2) (m := h - j) (c := c2) (us := um) lm (fun hp => by
      obtain ⟨g2, hg2, rfl⟩ := gA2 (by omega)
      obtain rfl : g2 = g1 := by rw [hblk] at hg2; exact (Option.some.inj hg2).symm
      refine ⟨_, rfl, fun q v hq => ?_⟩
      rw [Addr.add_lit, hGs, Int.toNat_natCast]
      refine own_cell hown hblk ?_
      have hq : ((us.take (h * sz)).drop (j * sz))[q]? = some v := hq
      rw [List.getElem?_drop, List.getElem?_take] at hq
      split at hq
      · exact hq
      · cases hq) (by omega) (by rw [lm, hcs]; omega) hum
    have hnd : id ∉ ([] : List Nat) := by simp
    obtain ⟨G', φ', hr', hle⟩ := row_upd hr ho (g := g1) (cap := c1) (cur := cur) (cur' := (cur.toList.take (0 + n1 * sz) ++ um ++ cur.toList.drop (0 + n1 * sz + um.length)).toArray) hβ hh hnc hcm hcs (by
        simp only [List.size_toArray, List.length_append, List.length_take, List.length_drop, lm, cl]; omega) (rows' := delR rows n1 j h sz) (us' := us.take (n1 * sz) ++ (um ++ us.drop (n1 * sz + um.length))) (ds := []) (ψ' := ψ) (delR_len (by omega) h2 h3) (delR_row hrs) (by
        have l1 : (cur.toList.take (0 + n1 * sz) ++ um).length = n1 * sz + um.length := by rw [List.length_append, List.length_take, cl]; omega
        show ((cur.toList.take (0 + n1 * sz) ++ um) ++ cur.toList.drop (0 + n1 * sz + um.length)).take (rows.length * sz) = _
        rw [List.take_append, List.take_of_length_le (by rw [l1, lm]; omega), l1, ← htk, List.take_take, Nat.min_eq_left (by omega), List.drop_take, Nat.zero_add, List.append_assoc]) (CR.del hrs hcr (by omega) h2 h3 (by rw [List.length_drop, ul, lm]; omega) (fun v hv => hcr.one v (List.mem_of_mem_drop hv))) (fun b hb => .inl (hψ b hb)) (fun hb => (hψb g1 (by rw [hβ]; rfl)).2 hb) hnd
    have z0 : (0 : Int).toNat * G.sz id = 0 := by simp
    rw [z0] at ex
    refine ⟨.slice (some ⟨g1, 0, none⟩) (n1 + (h - j)) c1, _, G', φ', fun o hop => ?_, hr', ?_⟩
    · obtain ⟨dst, op, type, pos, after, guard⟩ := o
      simp only at hop
      subst hop
      simp only [Nat.zero_add] at hrun
      simp [execOp, resolve, invoke, builtin, ex, ey, hrun]
    · exact .sb (hle.dom _ hid) (Int.le_refl 0) (by omega) (by omega) (by omega) (by omega) (fun _ => ⟨g1, by rw [hle.β _ hid]; exact hblk, by simp⟩) ⟨_, _, _, (hle.β _ hid).trans hβ, by omega, by omega, fun _ => rfl⟩ .nil
end Go.Proofs.Ytgicjbeaomjdgaa.L
