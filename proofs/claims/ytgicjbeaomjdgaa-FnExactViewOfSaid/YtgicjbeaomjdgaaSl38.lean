import Derived.Test.YtgicjbeaomjdgaaSl37
namespace Go.Proofs.Ytgicjbeaomjdgaa.L
set_option linter.unusedVariables false
set_option linter.unusedSimpArgs false
open Go
variable {F : Fr} {w : World} {S : Nat → Prop} {G G' : Gh} {φ : Nat → Nat → Prop}

/-- The beginning of a row becomes a row of its own. -/
theorem WeakS.shrink {n nx : Nat} {env : List (Nat × V)} {objs : List (Nat × O)} (id nid t : Nat) {ver e sz : Nat} {rows : Rws} {k : Nat} {k' : Int} (ho : look .dead objs id = .row ver e sz rows) (hf : freshB nx objs nid = true) (hv : look .u env t = .sb id 0 k') (ht : nl (t + 1) n = true) (hk : k' = (k : Int)) (rows' : Rws) (hr' : rows.take k = rows') :
    WeakS F ⟨n, nx, env, objs⟩ ⟨n, nx, (t, .rf nid) :: env, (nid, .row 0 e sz rows') :: (id, .dead) :: objs⟩ := by
  subst hk hr'
  rintro a w ⟨S, G, φ, hr⟩
  obtain ⟨hid, hsz, hGs, us, hκ, hrs, hown, ψ, hb, hψ, hcr⟩ := hr.row ho
  have hne : nid ≠ id := by
    rintro rfl
    exact fresh_dom hr hf hid
  have hvt := hv ▸ hr.env t
  have hv2 : VR F.P w F.K S G (.sb id 0 k) (a.tmps.getD t undef) := hvt
  generalize hu : a.tmps.getD t undef = u at hv2
  cases hv2 with
  | @sb _ _ _ A n1 c1 _ _ _ _ _ gn gm gc gA gb _ =>
    obtain ⟨A0, m, cp, hβ, hm, hc, hA⟩ := gb
    obtain rfl := hA rfl
    have q1 : n1 = k := by omega
    have q2 : c1 = cp := by simpa using hc
    subst q1 q2
    have ul : us.length = rows.length * sz := hcr.len.trans (flatten_len rows hrs)
    have key : m = rows.length ∧ w.ownsRow 0 e sz (.slice A n1 c1) (rows.take n1).length (us.take (n1 * sz)) ∧ (∀ b, (Value.slice A n1 c1).ownBlock = some b → (G.β id).ownBlock = some b) := by
      rcases hown.2 with ⟨hβ', hn⟩ | ⟨g, cap, cur, hβ', h0, hh, hnc, hcm, hcs, htk⟩
      · rw [hβ] at hβ'
        cases hβ'
        have : n1 = 0 := by omega
        subst this
        refine ⟨hn.symm, ⟨by simp, .inl ⟨rfl, by simp⟩⟩, fun b hb => by simp [Value.ownBlock] at hb⟩
      · rw [hβ] at hβ'
        cases hβ'
        have hl : (rows.take n1).length = n1 := by rw [List.length_take]; omega
        have hle : n1 * sz ≤ rows.length * sz := Nat.mul_le_mul_right _ (by omega)
        refine ⟨rfl, ⟨by rw [hl, List.length_take]; omega, .inr ⟨g, c1, cur, by rw [hl], h0, hh, by omega, hcm, hcs, by rw [hl, ← htk, List.take_take, Nat.min_eq_left hle]⟩⟩, fun b hb => by rw [hβ]; exact hb⟩
    obtain ⟨hm1, hown', hob⟩ := key
    have hcr' : CR F.P w F.K F.K (rows.take n1).flatten (us.take (n1 * sz)) ψ := by
      rw [take_flatten rows n1 hrs]
      exact hcr.take _
    obtain ⟨G', φ', h1, h2⟩ := row_new hr hf (ds := [id]) (w' := w) (rows := rows.take n1) (v := .slice A n1 c1) (Kept.refl w no) (fun b hb => hb.elim) hsz (fun r hr => hrs r (List.mem_of_mem_take hr)) hown' (ψ := ψ) (fun b h => .inl ⟨⟨id, by simp, (hb b (hob b h)).1⟩, (hb b (hob b h)).2⟩) (fun b h => ⟨id, by simp, hψ b h⟩) hcr' (fun _ _ h => h.elim) (fun d hd => by rw [List.mem_singleton.1 hd]; exact fun e => hne e.symm)
    refine ⟨S, G', φ', ⟨h1.nx, h1.kd, h1.n, h1.KS, h1.Slt, fun t' => ?_, h1.obj, h1.dj, h1.own, h1.kept, h1.defs, h1.anc⟩⟩
    show VR F.P w F.K S G' (look .u ((t, .rf nid) :: env) t') _
    rw [look_cons]
    split
    · rename_i e; subst e; rw [hu]; exact h2
    · exact h1.env t'

theorem Weak.shrink {n nx : Nat} {env : List (Nat × V)} {objs : List (Nat × O)} (id nid t : Nat) {ver e sz : Nat} {rows : Rws} {k : Nat} {k' : Int} (ho : look .dead objs id = .row ver e sz rows) (hf : freshB nx objs nid = true) (hv : look .u env t = .sb id 0 k') (ht : nl (t + 1) n = true) (hk : k' = (k : Int)) (rows' : Rws) (hr' : rows.take k = rows') :
    Weak F ⟨n, nx, env, objs⟩ ⟨n, nx, (t, .rf nid) :: env, (nid, .row 0 e sz rows') :: (id, .dead) :: objs⟩ := Weak.up fun K => WeakS.shrink (F := F.up K) id nid t ho hf hv ht hk rows' hr'

end Go.Proofs.Ytgicjbeaomjdgaa.L
