/- The plain steps are sound, 2. -/
import Derived.Test.YtgicjbeaomjdgaaSl4
namespace Go.Proofs.Ytgicjbeaomjdgaa.L
set_option linter.unusedVariables false
set_option linter.unusedSimpArgs false
open Go

variable {F : Fr} {σ : St} {a : Act} {w : World} {S : Nat → Prop} {G : Gh} {φ : Nat → Nat → Prop} {tab : List (Nat × Ty)}

theorem rowCells_sound {P K} (hKS : Sub K S) {id ver : Nat} {i : Int} {rows0 : Rws} {us0 : List Value} (hid : G.dom id) (hi : 0 ≤ i) (hk : G.κ id ver = some (rows0, us0)) (hlt : i.toNat < rows0.length) {ψ : Nat → Prop} :
    ∀ (l : List T) (j : Nat) (us : List Value) (cs : List V), rowCells id ver i j l = some cs → (∀ k t, l[k]? = some t → (rows0.getD i.toNat [])[j + k]? = some t) → (∀ k u, us[k]? = some u → us0[i.toNat * G.sz id + (j + k)]? = some u) → j + l.length ≤ G.sz id →
      CR P w K K l us ψ → VRs P w K S G cs us
  | [], j, us, cs, h, _, _, _, hc => by
    simp only [rowCells, Option.some.injEq] at h
    subst h
    cases hc
    exact .nil
  | c :: l, j, us, cs, h, h1, h2, h3, hc => by
    simp only [rowCells] at h
    obtain ⟨u1, u2, φ1, φ2, rfl, ha, hb, _, _, _⟩ := CR.split (a := [c]) hc
    obtain ⟨u, rfl⟩ : ∃ u, u1 = [u] := by
      have := ha.len
      match u1, this with
      | [u], _ => exact ⟨u, rfl⟩
    cases hr : rowCells id ver i (j + 1) l with
    | none => simp [hr] at h
    | some vs =>
      have ih := rowCells_sound hKS hid hi hk hlt l (j + 1) u2 vs hr (fun k t hk => by have := h1 (k + 1) t (by simpa using hk); rwa [Nat.add_assoc, Nat.add_comm 1 k]) (fun k u hk => by have := h2 (k + 1) u (by simpa using hk); rwa [Nat.add_assoc, Nat.add_comm 1 k]) (by simp at h3 ⊢; omega) hb
      rw [hr] at h
      cases c with
      | s v =>
        simp only [Option.some.injEq] at h
        subst h
        cases ha with
        | s hv _ => exact .t (.s hv .nil) ih
      | im k r =>
        simp only [Option.some.injEq] at h
        subst h
        refine .t ?_ ih
        cases ha with
        | im0 hn hcc sz hs vs hA hr0 _ => exact .im0 hn hcc sz hs vs (fun hp => let ⟨b, o, e, hb, hx⟩ := hA hp; ⟨b, o, e, hKS b hb, hx⟩) (hr0.more hKS) .nil
        | im1 hn hcc sz hs vs hA hr0 _ => exact .im1 hn hcc sz hs vs hA hr0 .nil
      | ow e r =>
        simp only [Option.some.injEq] at h
        subst h
        refine .np hid hi rows0 us0 hk (by simp at h3; omega) (by simpa using h1 0 _ rfl) hlt (by simpa using h2 0 u rfl) ?_ ih
        cases ha with
        | ow hs vs ho _ _ _ _ _ _ _ _ =>
          rcases ho.2 with ⟨rfl, hn⟩ | ⟨g, cap, cur, rfl, _⟩
          · exact ⟨none, 0, by rw [hn]⟩
          · exact ⟨_, cap, rfl⟩
      | _ => simp at h

theorem flatten_at {α : Type} {sz : Nat} : ∀ (rows : List (List α)) (i : Nat), (∀ r ∈ rows, r.length = sz) → i < rows.length → (rows.flatten.drop (i * sz)).take sz = rows.getD i []
  | [], i, _, h => by simp at h
  | r :: rows, 0, hs, _ => by
    have := hs r (by simp)
    simp [← this]
  | r :: rows, i + 1, hs, h => by
    have hr := hs r (by simp)
    have ih := flatten_at rows i (fun q hq => hs q (by simp [hq])) (by simpa using h)
    simp only [List.flatten_cons, List.getD_cons_succ]
    rw [← ih, Nat.succ_mul, Nat.add_comm, ← hr, List.drop_append, List.drop_eq_nil_of_le (by omega), List.nil_append]
    congr 2
    omega

theorem flatten_len {α : Type} {sz : Nat} : ∀ (rows : List (List α)), (∀ r ∈ rows, r.length = sz) → rows.flatten.length = rows.length * sz
  | [], _ => by simp
  | r :: rows, hs => by
    have hr := hs r (by simp)
    have ih := flatten_len rows (fun q hq => hs q (by simp [hq]))
    rw [List.flatten_cons, List.length_append, ih, hr, List.length_cons, Nat.add_mul]
    omega

theorem Rel0.row (h : Rel0 F σ a w S G φ) {id ver e sz rows} (ho : look .dead σ.objs id = .row ver e sz rows) : G.dom id ∧ sz = F.P.cellsOf e ∧ G.sz id = sz ∧ ∃ us, G.κ id ver = some (rows, us) ∧ (∀ r ∈ rows, r.length = sz) ∧ w.ownsRow 0 e sz (G.β id) rows.length us ∧
      ∃ ψ : Nat → Prop, (∀ b, (G.β id).ownBlock = some b → φ id b ∧ ¬ ψ b) ∧ Sub ψ (φ id) ∧ CR F.P w F.K F.K rows.flatten us ψ := by
  have := h.obj id
  rwa [ho] at this

theorem own_cell {e sz n : Nat} {v : Value} {us : List Value} (h : w.ownsRow 0 e sz v n us) {g : Nat} (hg : blk v = some g) {j : Nat} {u : Value} (hu : us[j]? = some u) : w.cell? ⟨g, j, none⟩ = some u := by
  rcases h.2 with ⟨rfl, _⟩ | ⟨g', cap, cur, rfl, _, hh, _, _, _, htk⟩
  · simp [blk] at hg
  · obtain rfl : g' = g := by simpa [blk] using hg
    rw [cell_of_row w g' j cur e (0, 0) hh]
    rw [← htk, List.getElem?_take] at hu
    split at hu
    · simpa using hu
    · cases hu

theorem ge_eq {rows : Rws} {i : Int} {es : List T} (h : Ls.ge rows i = es) : rows.getD i.toNat [] = es := h

theorem load_row (h : Rel0 F σ a w S G φ) {t : Nat} {ty : Ty} (ht : TyOk F.P t ty) {id ver e sz j : Nat} {i : Int} {rows : Rws} {es : List T} {cs : List V} (ho : look .dead σ.objs id = .row ver e sz rows) {u : Value} {v : V} (hv : VR F.P w F.K S G (.pt id i j) u)
    (hl : j + ty.size ≤ sz) (h0 : 0 ≤ i) (h1 : i < Ls.ln rows) (he : Ls.ge rows i = es) (hc : rowCells id ver i j ((es.drop j).take ty.size) = some cs) (hf : fit ty cs = some v) :
    ∃ x, (Instr.loadAt t u).run F.P w = .ok x w ∧ VR F.P w F.K S G v x := by
  obtain ⟨hid, hsz, hGs, us, hk, hrs, hown, ψ, _, _, hcr⟩ := h.row ho
  have hlt : i.toNat < rows.length := by simp only [Ls] at h1; omega
  have hfl := flatten_len rows hrs
  have hul : us.length = rows.length * sz := hcr.len.trans hfl
  have hesl : es.length = sz := by
    rw [← ge_eq he, List.getD_eq_getElem?_getD, List.getElem?_eq_getElem hlt]
    exact hrs _ (List.getElem_mem hlt)
  have hbd : i.toNat * sz + sz ≤ rows.length * sz := by rw [← Nat.succ_mul]; exact Nat.mul_le_mul_right _ hlt
  -- the cells of the element, from j on
  have hcr' : CR F.P w F.K F.K ((es.drop j).take ty.size) ((us.drop (i.toNat * sz + j)).take ty.size) ψ := by
    have h2 := (hcr.drop (i.toNat * sz + j)).take ty.size
    have : (rows.flatten.drop (i.toNat * sz + j)).take ty.size = (es.drop j).take ty.size := by
      rw [← ge_eq he, ← flatten_at rows i.toNat hrs hlt, List.drop_take, List.drop_drop, List.take_take]
      congr 1
      omega
    rwa [this] at h2
  cases hv with
  | pt hid' hi' hg _ =>
    rename_i g _
    refine ⟨one ty ((us.drop (i.toNat * sz + j)).take ty.size), ?_, fit_sound hf (rowCells_sound h.KS hid h0 hk hlt _ j _ cs hc ?_ ?_ ?_ hcr')⟩
    · simp only [Instr.loadAt, Instr.sureAddr, Sem.run_bind, Sem.run_pure, Result.andThen_ok]
      refine run_loadVar ht (by rw [List.length_take, List.length_drop, hul]; omega) (fun k x hx => ?_)
      rw [List.getElem?_take] at hx
      split at hx
      · rw [List.getElem?_drop] at hx
        rw [hGs]
        exact own_cell hown hg hx
      · cases hx
    · intro k t hk
      rw [List.getElem?_take] at hk
      split at hk
      · rw [List.getElem?_drop] at hk
        rw [ge_eq he]
        exact hk
      · cases hk
    · intro k u hu
      rw [List.getElem?_take] at hu
      split at hu
      · rw [List.getElem?_drop] at hu
        rw [hGs, ← Nat.add_assoc]
        exact hu
      · cases hu
    · rw [hGs, List.length_take, List.length_drop]
      omega

end Go.Proofs.Ytgicjbeaomjdgaa.L
