/- Elements that are taken out of a row that owns them. -/
import Derived.Test.YtgicjbeaomjdgaaSl30
namespace Go.Proofs.Ytgicjbeaomjdgaa.L
set_option linter.unusedVariables false
set_option linter.unusedSimpArgs false
open Go
section
variable {α : Type} {f : α → List T} {l m m1 p r : List α} {lo hi a b : Int} {P : Program} {k : Nat}
theorem app_len (h : appO k p m1 = some r) : (m1.length : Int) ≤ 140737488355328 := by
  unfold appO at h
  split at h
  · omega
  · cases h
theorem mv_le (f : α → List T) (h : cutO l lo hi = some m) : RLe P (Ls.sr (rowsOf f l) lo hi) (rowsOf f m) := RLe.eq (cut_sr f h)
theorem jr_sub (h : cutO l a b = some m1) (ha : appO k p m1 = some r) : Ls.ar .sub .i64 b a = b - a := by
  obtain ⟨e, h0, h1, h2⟩ := cut_eq h
  have := app_len ha
  have hl : (m1.length : Int) = b - a := by rw [e, List.length_drop, List.length_take]; omega
  show IntKind.i64.wrap _ = _
  exact wrap64 (by omega)
theorem jr_ln {jk : List T} (f : α → List T) (h : cutO l a b = some m1) (ha : appO k p m1 = some r) : Ls.ln (Ls.ap (Ls.ap (Ls.sr (rowsOf f l) 0 a) (Ls.rp (Ls.ar .sub .i64 b a) jk)) (Ls.sr (rowsOf f l) b (Ls.ln (rowsOf f l)))) = (l.length : Int) := by
  rw [jr_sub h ha]
  obtain ⟨_, h0, h1, h2⟩ := cut_eq h
  have hl := rowsOf_len f l
  simp only [Ls, List.length_append, List.length_drop, List.length_take, List.length_replicate, hl]
  omega
theorem jr_sr {jk : List T} (f : α → List T) (h1 : cutO l a b = some m1) (ha : appO k p m1 = some r) (h : cutO l b (lenI l) = some m) :
    Ls.sr (Ls.ap (Ls.ap (Ls.sr (rowsOf f l) 0 a) (Ls.rp (Ls.ar .sub .i64 b a) jk)) (Ls.sr (rowsOf f l) b (Ls.ln (rowsOf f l)))) b (Ls.ln (Ls.ap (Ls.ap (Ls.sr (rowsOf f l) 0 a) (Ls.rp (Ls.ar .sub .i64 b a) jk)) (Ls.sr (rowsOf f l) b (Ls.ln (rowsOf f l))))) = rowsOf f m := by
  rw [jr_ln f h1 ha, ← cut_sr f h, jr_sub h1 ha]
  obtain ⟨_, g0, g1, g2⟩ := cut_eq h1
  have hl := rowsOf_len f l
  rw [show lenI l = (l.length : Int) from rfl]
  have e1 : (Ls.sr (rowsOf f l) 0 a).length = a.toNat := by simp only [Ls, List.length_drop, List.length_take, hl]; omega
  have e2 : (Ls.rp (b - a) jk).length = (b - a).toNat := by simp [Ls]
  show List.drop b.toNat (List.take (l.length : Int).toNat _) = List.drop b.toNat (List.take (l.length : Int).toNat _)
  rw [List.take_of_length_le (l := rowsOf f l) (by omega), List.take_of_length_le]
  · show List.drop b.toNat ((Ls.sr (rowsOf f l) 0 a ++ Ls.rp (b - a) jk) ++ Ls.sr (rowsOf f l) b (Ls.ln (rowsOf f l))) = _
    rw [List.drop_append, List.drop_eq_nil_of_le (by rw [List.length_append, e1, e2]; omega), List.nil_append, List.length_append, e1, e2]
    rw [show b.toNat - (a.toNat + (b - a).toNat) = 0 by omega, List.drop_zero]
    show List.drop b.toNat (List.take ((rowsOf f l).length : Int).toNat (rowsOf f l)) = _
    rw [List.take_of_length_le (by omega)]
  · have := jr_ln (jk := jk) f h1 ha
    rw [jr_sub h1 ha] at this
    simp only [Ls] at this ⊢
    omega
theorem jr_sle {jk : List T} (f : α → List T) (h1 : cutO l a b = some m1) (ha : appO k p m1 = some r) (h : cutO l b (lenI l) = some m) :
    RLe P (Ls.sr (Ls.ap (Ls.ap (Ls.sr (rowsOf f l) 0 a) (Ls.rp (Ls.ar .sub .i64 b a) jk)) (Ls.sr (rowsOf f l) b (Ls.ln (rowsOf f l)))) b (Ls.ln (Ls.ap (Ls.ap (Ls.sr (rowsOf f l) 0 a) (Ls.rp (Ls.ar .sub .i64 b a) jk)) (Ls.sr (rowsOf f l) b (Ls.ln (rowsOf f l)))))) (rowsOf f m) := RLe.eq (jr_sr f h1 ha h)
theorem jr_1 {jk : List T} (f : α → List T) (h1 : cutO l a b = some m1) (ha : appO k p m1 = some r) (h : cutO l b (lenI l) = some m) :
    Ls.le b (Ls.ln (Ls.ap (Ls.ap (Ls.sr (rowsOf f l) 0 a) (Ls.rp (Ls.ar .sub .i64 b a) jk)) (Ls.sr (rowsOf f l) b (Ls.ln (rowsOf f l))))) := by
  rw [jr_ln f h1 ha]
  exact (cut_eq h).2.2.1
end

variable {F : Fr} {w : World} {S : Nat → Prop} {G G' : Gh} {φ : Nat → Nat → Prop}

def subC (id nid : Nat) : V → V
  | .rf i => bif nq i id then .rf nid else .rf i
  | v => v
def subV (id nid : Nat) : V → V
  | .ag cs => .ag (cs.map (subC id nid))
  | v => subC id nid v

theorem subC_ok {P : Program} {K : Nat → Prop} {id nid : Nat} {v : V} {u : Value} (h : VR P w K S G v u) (h' : VR P w K S G' v u) (hn : VR P w K S G' (.rf nid) (G.β id)) : VR P w K S G' (subC id nid v) u := by
  cases v with
  | rf i =>
    simp only [subC]
    cases hb : nq i id with
    | false => exact h'
    | true =>
      obtain rfl := nq_eq hb
      cases h with
      | rf _ hu _ _ => subst hu; exact hn
  | _ => exact h'

theorem subCs_ok {P : Program} {K : Nat → Prop} {id nid : Nat} (hn : VR P w K S G' (.rf nid) (G.β id)) : ∀ {vs : List V} {us : List Value}, VRs P w K S G vs us → VRs P w K S G' vs us → VRs P w K S G' (vs.map (subC id nid)) us
  | [], us, h, h' => h'
  | v :: vs, us, h, h' => by
    obtain ⟨u, us, rfl, h1, h2⟩ := h.uncons
    obtain ⟨u', us', e, h3, h4⟩ := h'.uncons
    simp only [List.cons.injEq] at e
    obtain ⟨rfl, rfl⟩ := e
    exact .cons (subC_ok h1 h3 hn) (subCs_ok hn h2 h4)

theorem subV_ok {P : Program} {K : Nat → Prop} {id nid : Nat} {v : V} {u : Value} (h : VR P w K S G v u) (h' : VR P w K S G' v u) (hn : VR P w K S G' (.rf nid) (G.β id)) : VR P w K S G' (subV id nid v) u := by
  cases v with
  | ag cs =>
    cases h with
    | ag hc _ => cases h' with
      | ag hc' _ => exact .ag (subCs_ok hn hc hc') .nil
  | _ => exact subC_ok h h' hn

/-- What came in goes out under a name of its own. -/
theorem WeakS.mv {n nx : Nat} {env : List (Nat × V)} {objs : List (Nat × O)} (id nid t : Nat) {ver e sz : Nat} {rows : Rws} {v : V} (ho : look .dead objs id = .row ver e sz rows) (hf : freshB nx objs nid = true) (hv : look .u env t = v) (ht : nl (t + 1) n = true) :
    WeakS F ⟨n, nx, env, objs⟩ ⟨n, nx, (t, subV id nid v) :: env, (nid, .row 0 e sz rows) :: (id, .dead) :: objs⟩ := by
  rintro a w ⟨S, G, φ, hr⟩
  obtain ⟨hid, hsz, hGs, us, hκ, hrs, hown, ψ, hb, hψ, hcr⟩ := hr.row ho
  have hne : nid ≠ id := by
    rintro rfl
    exact fresh_dom hr hf hid
  obtain ⟨G', φ', h1, h2⟩ := row_new hr hf (ds := [id]) (w' := w) (rows := rows) (v := G.β id) (Kept.refl w no) (fun b hb => hb.elim) hsz hrs hown (ψ := ψ) (fun b h => .inl ⟨⟨id, by simp, (hb b h).1⟩, (hb b h).2⟩) (fun b h => ⟨id, by simp, hψ b h⟩) hcr (fun _ _ h => h.elim) (fun d hd => by rw [List.mem_singleton.1 hd]; exact fun e => hne e.symm)
  have h3 := subV_ok (nid := nid) (hv ▸ hr.env t) (hv ▸ h1.env t) h2
  have h4 : Rel0 F ⟨n, nx, (t, subV id nid v) :: env, (nid, .row 0 e sz rows) :: (id, .dead) :: objs⟩ a w S G' φ' := by
    refine ⟨h1.nx, h1.kd, h1.n, h1.KS, h1.Slt, fun t' => ?_, h1.obj, h1.dj, h1.own, h1.kept, h1.defs, h1.anc⟩
    show VR F.P w F.K S G' (look .u ((t, subV id nid v) :: env) t') _
    rw [look_cons]
    split
    · rename_i e; subst e; exact h3
    · exact h1.env t'
  exact ⟨S, G', φ', h4⟩

theorem Weak.mv {n nx : Nat} {env : List (Nat × V)} {objs : List (Nat × O)} (id nid t : Nat) {ver e sz : Nat} {rows : Rws} {v : V} (ho : look .dead objs id = .row ver e sz rows) (hf : freshB nx objs nid = true) (hv : look .u env t = v) (ht : nl (t + 1) n = true) :
    Weak F ⟨n, nx, env, objs⟩ ⟨n, nx, (t, subV id nid v) :: env, (nid, .row 0 e sz rows) :: (id, .dead) :: objs⟩ := Weak.up fun K => WeakS.mv (F := F.up K) id nid t ho hf hv ht

/-- The same, of a variable's block. -/
theorem WeakS.mvB {n nx : Nat} {env : List (Nat × V)} {objs : List (Nat × O)} (id nid b : Nat) {ver e sz eb : Nat} {rows : Rws} {cs : List V} (ho : look .dead objs id = .row ver e sz rows) (hf : freshB nx objs nid = true) (hb : look .dead objs b = .box eb cs) :
    WeakS F ⟨n, nx, env, objs⟩ ⟨n, nx, env, (b, .box eb (cs.map (subC id nid))) :: (nid, .row 0 e sz rows) :: (id, .dead) :: objs⟩ := by
  rintro a w ⟨S, G, φ, hr⟩
  obtain ⟨hid, hsz, hGs, us, hκ, hrs, hown, ψ, hbb, hψ, hcr⟩ := hr.row ho
  have hnd : ¬ G.dom nid := fresh_dom hr hf
  have hne : nid ≠ id := by
    rintro rfl
    exact hnd hid
  have hv1 : (G.β id).oneCell' = true := by
    rcases hown.2 with ⟨h, _⟩ | ⟨g, cap, cur, h, _⟩ <;> rw [h] <;> rfl
  have hle := Gh.le_add hnd (fun v x hx => (hr.kd nid v x hx).1) (G.β id) sz (some (rows, us))
  have h1 := hr.new (ds := [id]) (Kept.refl w no) hnd (v := G.β id) (sz := sz) (k := some (rows, us)) (o := .row 0 e sz rows) (fun b hb => hb.elim)
    ⟨.inr rfl, hsz, by simp [Gh.add], us, by simp [Gh.add], hrs, by simpa [Gh.add] using hown, ψ, fun b hb' => by
      have hb' : (G.β id).ownBlock = some b := by simpa [Gh.add] using hb'
      exact ⟨.inl ⟨id, by simp, (hbb b hb').1⟩, (hbb b hb').2⟩, fun b hb' => .inl ⟨id, by simp, hψ b hb'⟩, hcr⟩ (fun d hd => by rw [List.mem_singleton.1 hd]; exact fun e => hne e.symm)
  have h2 : VR F.P w F.K S (G.add nid (G.β id) sz (some (rows, us))) (.rf nid) (G.β id) := .rf (.inr rfl) (by simp [Gh.add]) hv1 .nil
  have hbx : OR F.P w F.K S G (φ b) b (.box eb cs) := hb ▸ hr.obj b
  obtain ⟨hbd, g, ub, e1, e2, e3, e4⟩ := hbx
  have hbn : b ≠ nid := by rintro rfl; exact hnd hbd
  have hbi : b ≠ id := by rintro rfl; rw [ho] at hb; cases hb
  refine ⟨S, _, _, ⟨fun i hi => ?_, fun i v x hx => ?_, h1.n, h1.KS, h1.Slt, h1.env, fun i => ?_, h1.dj, h1.own, h1.kept, h1.defs, h1.anc⟩⟩
  · rcases h1.nx i hi with h | h
    · exact .inl h
    · exact .inr ((hasKey_cons _ _ _ _).2 (.inr h))
  · obtain ⟨k1, k2⟩ := h1.kd i v x hx
    refine ⟨k1, fun ver' e' sz' r' hl => ?_⟩
    rw [look_cons] at hl
    split at hl
    · cases hl
    · exact k2 _ _ _ _ hl
  · show OR F.P w F.K S _ _ i (look .dead ((b, .box eb (cs.map (subC id nid))) :: ((nid, .row 0 e sz rows) :: (deads [id] ++ objs))) i)
    rw [look_cons]
    by_cases hi : i = b
    · subst hi
      rw [if_pos rfl]
      refine ⟨hle.dom _ hbd, g, ub, (hle.β _ hbd).trans e1, e2, ?_, subCs_ok h2 e4 (e4.move (fun _ _ => rfl) (fun _ _ => rfl) hle)⟩
      simp [hbn, hbi, e3]
    · rw [if_neg hi]
      exact h1.obj i

theorem Weak.mvB {n nx : Nat} {env : List (Nat × V)} {objs : List (Nat × O)} (id nid b : Nat) {ver e sz eb : Nat} {rows : Rws} {cs : List V} (ho : look .dead objs id = .row ver e sz rows) (hf : freshB nx objs nid = true) (hb : look .dead objs b = .box eb cs) :
    Weak F ⟨n, nx, env, objs⟩ ⟨n, nx, env, (b, .box eb (cs.map (subC id nid))) :: (nid, .row 0 e sz rows) :: (id, .dead) :: objs⟩ := Weak.up fun K => WeakS.mvB (F := F.up K) id nid b ho hf hb

end Go.Proofs.Ytgicjbeaomjdgaa.L
