/- Calls are sound, 2: what is handed over. -/
import Derived.Test.YtgicjbeaomjdgaaSl11
namespace Go.Proofs.Ytgicjbeaomjdgaa.L
set_option linter.unusedVariables false
set_option linter.unusedSimpArgs false
open Go

variable {F : Fr} {σ : St} {a : Act} {w : World} {S : Nat → Prop} {G : Gh} {φ : Nat → Nat → Prop} {tab : List (Nat × Ty)}

/-- What may be borrowed: what nobody writes, and the objects that are not lent. -/
def Sx (S : Nat → Prop) (φ : Nat → Nat → Prop) (ids : List Nat) : Nat → Prop := fun b => S b ∨ ∃ i, i ∉ ids ∧ φ i b

def Borrowable (σ : St) (objsB : List (Nat × O)) (ids : List Nat) : Prop := ∀ i, look O.dead objsB i ≠ .dead → look .dead objsB i = look .dead σ.objs i ∧ i ∉ ids

theorem lend_rf (hr : Rel0 F σ a w S G φ) {ids : List Nat} {id ver e sz rows} (ho : look .dead σ.objs id = .row ver e sz rows) (hid : id ∉ ids) {u : Value} (hv : VR F.P w F.K S G (.rf id) u) : CR F.P w F.K (Sx S φ ids) [.im false (Ls.fr rows)] [u] no := by
  cases hv with
  | rf _ hu _ _ =>
    subst hu
    have := (row_ow hr ho).lend (S' := Sx S φ ids) (fun b hb => .inl (hr.KS b hb)) (fun b hb => .inl (hr.KS b hb)) (fun b hb => .inr ⟨id, hid, hb⟩)
    simpa [fzL, T.fz, Ls] using this

theorem lend_sb (hr : Rel0 F σ a w S G φ) {ids : List Nat} {id ver e sz rows lo hi} (ho : look .dead σ.objs id = .row ver e sz rows) (hid : id ∉ ids) {u : Value} (hv : VR F.P w F.K S G (.sb id lo hi) u) : CR F.P w F.K (Sx S φ ids) [.im false (Ls.fr (Ls.sr rows lo hi))] [u] no := by
  obtain ⟨hdid, hsz, hGs, us, hk, hrs, hown, ψ, hψb, hψ, hcr⟩ := hr.row ho
  cases hv with
  | sb hid' h0 h1 hn hm hc hA hb _ =>
    rename_i A n c _
    obtain ⟨A', m, c', hβ', hm'⟩ := hb
    have hh : hi ≤ (rows.length : Int) := by
      rcases hown.2 with ⟨hβ, hl0⟩ | ⟨g', cap, cur, hβ, _⟩
      · rw [hβ'] at hβ; simp only [Value.slice.injEq] at hβ; omega
      · rw [hβ'] at hβ; simp only [Value.slice.injEq] at hβ; omega
    have hlen : (Ls.sr rows lo hi).length = n := by
      simp only [Ls, List.length_drop, List.length_take]
      omega
    have hcr' : CR F.P w F.K F.K (Ls.sr rows lo hi).flatten ((us.take (hi.toNat * sz)).drop (lo.toNat * sz)) ψ := by
      have := (hcr.take (hi.toNat * sz)).drop (lo.toNat * sz)
      rwa [← take_flatten rows hi.toNat hrs, ← drop_flatten _ lo.toNat (fun r hr => hrs r (List.mem_of_mem_take hr))] at this
    have hl := hcr'.lend (S' := Sx S φ ids) (fun b hb => .inl (hr.KS b hb)) (fun b hb => .inl (hr.KS b hb)) (fun b hb => .inr ⟨id, hid, hψ b hb⟩)
    refine .im0 (by simp only [Ls, fzR_len]; exact hlen.symm) hc sz ?_ _ ?_ (by show CR _ _ _ _ (fzR (Ls.sr rows lo hi)).flatten _ _; rw [fzR_flatten]; exact hl) .nil
    · intro r hr'
      simp only [Ls, fzR_map] at hr'
      obtain ⟨q, hq, rfl⟩ := List.mem_map.1 hr'
      rw [fzL_len]
      exact hrs q (List.mem_of_mem_take (List.mem_of_mem_drop hq))
    · intro hp
      obtain ⟨g, hg, rfl⟩ := hA (by omega)
      refine ⟨g, _, rfl, .inr ⟨id, hid, ?_⟩, fun j x hj => ?_⟩
      · refine (hψb g ?_).1
        rcases hown.2 with ⟨hβ, _⟩ | ⟨g', cap, cur, hβ, _⟩
        · rw [hβ] at hg; simp [blk] at hg
        · rw [hβ] at hg ⊢
          simpa [blk, Value.ownBlock] using hg
      · rw [List.getElem?_drop, List.getElem?_take] at hj
        split at hj
        · rw [hGs]
          exact own_cell hown hg hj
        · cases hj

theorem CR.cell {P : Program} {K S : Nat → Prop} {ts : List T} {us : List Value} {φ : Nat → Prop} (h : CR P w K S ts us φ) : ∀ {i : Nat} {t : T} {u : Value}, ts[i]? = some t → us[i]? = some u → CR P w K S [t] [u] φ := by
  intro i t u h1 h2
  have hlt := (List.getElem?_eq_some_iff.1 h1).1
  have e1 : (ts.drop i).take 1 = [t] := by
    rw [List.drop_eq_getElem_cons hlt]
    simp [(List.getElem?_eq_some_iff.1 h1).2]
  have hlt2 := (List.getElem?_eq_some_iff.1 h2).1
  have e2 : (us.drop i).take 1 = [u] := by
    rw [List.drop_eq_getElem_cons hlt2]
    simp [(List.getElem?_eq_some_iff.1 h2).2]
  have := (h.drop i).take 1
  rwa [e1, e2] at this

theorem flat_cell {sz : Nat} {rows : Rws} (hs : ∀ r ∈ rows, r.length = sz) {i j : Nat} {t : T} (hi : i < rows.length) (hj : j < sz) (h : (rows.getD i [])[j]? = some t) : rows.flatten[i * sz + j]? = some t := by
  rw [← flatten_at rows i hs hi, List.getElem?_take, if_pos hj, List.getElem?_drop] at h
  exact h

theorem lend_np (hr : Rel0 F σ a w S G φ) {ids : List Nat} {id ver i j e rows} {e0 sz : Nat} {rows0 : Rws} (ho : look .dead σ.objs id = .row ver e0 sz rows0) (hid : id ∉ ids) {u : Value} (hv : VR F.P w F.K S G (.np id ver i j e rows) u) : CR F.P w F.K (Sx S φ ids) [.im false (Ls.fr rows)] [u] no := by
  obtain ⟨hdid, hsz, hGs, us, hk, hrs, hown, ψ, hψb, hψ, hcr⟩ := hr.row ho
  cases hv with
  | np hid' hi r0 u0 hk' hj hrw hl hu hsl _ =>
    rw [hk] at hk'
    simp only [Option.some.injEq, Prod.mk.injEq] at hk'
    obtain ⟨rfl, rfl⟩ := hk'
    rw [hGs] at hj hu
    have h1 := hcr.cell (flat_cell hrs hl hj hrw) hu
    have := h1.lend (S' := Sx S φ ids) (fun b hb => .inl (hr.KS b hb)) (fun b hb => .inl (hr.KS b hb)) (fun b hb => .inr ⟨id, hid, hψ b hb⟩)
    simpa [fzL, T.fz, Ls] using this

mutual
theorem lendCell_sound (hr : Rel0 F σ a w S G φ) {ids : List Nat} {objsB : List (Nat × O)} (hB : Borrowable σ objsB ids) :
    ∀ (n : Nat) {v : V} {u : Value} {t : T}, VR F.P w F.K S G v u → lendCell Ls objsB n v = some t → CR F.P w F.K (Sx S φ ids) [t] [u] no
  | n, v, u, t, hv, h => by
    have hmore : Sub S (Sx S φ ids) := fun b hb => .inl hb
    unfold lendCell at h
    split at h
    · simp only [Option.some.injEq] at h; subst h; cases hv with | t hx _ => exact hx.more hmore
    · simp only [Option.some.injEq] at h; subst h; cases hv with | t hx _ => exact hx.more hmore
    · simp only [Option.some.injEq] at h
      subst h
      cases hv with
      | t hx _ =>
        have := hx.lend (S' := Sx S φ ids) (fun b hb => .inl (hr.KS b hb)) hmore (fun _ h => h.elim)
        simpa [fzL, T.fz] using this
    · split at h
      · rename_i ho
        simp only [Option.some.injEq] at h
        subst h
        obtain ⟨e1, e2⟩ := hB _ (by rw [ho]; simp)
        exact lend_rf hr (e1 ▸ ho) e2 hv
      · simp at h
    · split at h
      · rename_i ho
        simp only [Option.some.injEq] at h
        subst h
        obtain ⟨e1, e2⟩ := hB _ (by rw [ho]; simp)
        exact lend_sb hr (e1 ▸ ho) e2 hv
      · simp at h
    · split at h
      · rename_i ho
        split at h
        · rename_i hb
          obtain rfl := beq_true hb
          simp only [Option.some.injEq] at h
          subst h
          obtain ⟨e1, e2⟩ := hB _ (by rw [ho]; simp)
          exact lend_np hr (e1 ▸ ho) e2 hv
        · simp at h
      · simp at h
    · simp only [Option.some.injEq] at h; subst h; cases hv with | t hx _ => exact hx.more hmore
    · split at h
      · rename_i id j _ e cs ho
        split at h
        · rename_i ts hts
          simp only [Option.some.injEq] at h
          subst h
          obtain ⟨e1, e2⟩ := hB _ (by rw [ho]; simp)
          rw [ho] at e1
          obtain ⟨g, us, hβ, hg, hus, hφ⟩ := hr.blk_lt e1.symm
          cases hv with
          | pt hid' hi hg' _ =>
            rw [hβ] at hg'
            obtain rfl : g = _ := by simpa [blk] using hg'
            rw [dropN_eq] at hts
            have := lendAll_sound hr hB _ (hus.drop j) hts
            refine .ip _ (fun _ => .inr ⟨id, e2, hφ⟩) (fun k x hk => ?_) this .nil
            rw [Int.toNat_zero, Nat.zero_mul, Nat.zero_add, cell_of_row w g (j + k) us.toArray e (0, 0) hg]
            rw [List.getElem?_drop] at hk
            simpa using hk
        · simp at h
      · simp at h
    · split at h
      · rename_i ts hts
        simp only [Option.some.injEq] at h
        subst h
        cases hv with
        | fn hc _ => exact .fn _ (lendAll_sound hr hB _ hc hts) .nil
      · simp at h
    · simp at h
theorem lendAll_sound (hr : Rel0 F σ a w S G φ) {ids : List Nat} {objsB : List (Nat × O)} (hB : Borrowable σ objsB ids) :
    ∀ (n : Nat) {vs : List V} {us : List Value} {ts : List T}, VRs F.P w F.K S G vs us → lendCell.lendAll Ls objsB n vs = some ts → CR F.P w F.K (Sx S φ ids) ts us no
  | n, [], us, ts, hv, h => by
    simp only [lendCell.lendAll, Option.some.injEq] at h
    subst h
    cases hv
    exact .nil
  | 0, c :: cs, us, ts, hv, h => by simp [lendCell.lendAll] at h
  | n + 1, c :: cs, us, ts, hv, h => by
    simp only [lendCell.lendAll] at h
    split at h
    · simp at h
    · rename_i x hx
      split at h
      · simp at h
      · rename_i xs hxs
        simp only [Option.some.injEq] at h
        subst h
        obtain ⟨u, us, rfl, h1, h2⟩ := hv.uncons
        have := (lendCell_sound hr hB n h1 hx).join (lendAll_sound hr hB n h2 hxs) (fun _ h => h.elim) (fun _ h => h) (fun _ h => h)
        simpa using this
end

end Go.Proofs.Ytgicjbeaomjdgaa.L
