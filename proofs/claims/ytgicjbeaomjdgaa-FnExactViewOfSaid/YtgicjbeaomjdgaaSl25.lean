/- What a row's arguments read as: trees. -/
import Derived.Test.YtgicjbeaomjdgaaSl24
import Derived.Deep.Slices
namespace Go.Proofs.Ytgicjbeaomjdgaa.L
set_option linter.unusedVariables false
set_option linter.unusedSimpArgs false
open Go

/-- What a type's cells are. -/
inductive Sh where
  | b
  | i (k : IntKind)
  | s
  | sl (l : List Sh)

inductive Wf : List Sh → List T → Prop
  | nil : Wf [] []
  | b {x ss ts} (h : Wf ss ts) : Wf (.b :: ss) (.s (.bool x) :: ts)
  | i {k n ss ts} (hn : k.min ≤ n ∧ n ≤ k.max) (h : Wf ss ts) : Wf (.i k :: ss) (.s (.int k n) :: ts)
  | s {x : ByteArray} {ss ts} (hx : x.size ≤ maxLen) (h : Wf ss ts) : Wf (.s :: ss) (.s (.string x) :: ts)
  | sl {l rows ss ts} (hr : ∀ r ∈ rows, Wf l r) (hl : rows.length ≤ maxLen) (h : Wf ss ts) : Wf (.sl l :: ss) (.im true rows :: ts)

theorem Wf.len {ss : List Sh} {ts : List T} (h : Wf ss ts) : ts.length = ss.length := by
  induction h <;> simp_all

theorem Wf.append {a b : List Sh} {x y : List T} (h : Wf a x) (h' : Wf b y) : Wf (a ++ b) (x ++ y) := by
  induction h with
  | nil => exact h'
  | b _ ih => exact .b ih
  | i hn _ ih => exact .i hn ih
  | s hx _ ih => exact .s hx ih
  | sl hr hl _ _ ih => exact .sl hr hl ih

def shFields (P : Program) (f : Nat → Option (List Sh)) : List Field → Nat → Nat → Option (List Sh)
  | [], o, n => match nq o n with
    | true => some []
    | false => none
  | fd :: r, o, n => match f fd.type with
    | some l => match nq fd.offset o, nq (lenN l) (P.cellsOf fd.type) with
      | true, true => match shFields P f r (o + lenN l) n with
        | some m => some (l ++ m)
        | none => none
      | _, _ => none
    | none => none

def shOf (P : Program) : Nat → Nat → Option (List Sh)
  | 0, _ => none
  | d + 1, t => match P.underlying t with
    | some .bool => some [.b]
    | some (.int k) => some [.i k]
    | some .string => some [.s]
    | some (.slice e) => match shOf P d e with
      | some l => match nq (lenN l) (P.cellsOf e), nl 1 (lenN l) with
        | true, true => some [.sl l]
        | _, _ => none
      | none => none
    | some (.struct fs) => shFields P (shOf P d) fs.toList 0 (P.cellsOf t)
    | _ => none

def old (w : World) : Nat → Prop := fun b => b < w.heap.size

variable {H : Type} {enc : TypeId × Value → H} {P : Program} {w : World}

theorem mapM_some {α β : Type} {g : α → Option β} : ∀ {l : List α} {ys : List β}, l.mapM g = some ys → ∀ x ∈ l, ∃ y, g x = some y
  | [], _, _, x, hx => by simp at hx
  | a :: l, ys, h, x, hx => by
    simp only [List.mapM_cons, Option.bind_eq_bind] at h
    obtain ⟨y, hy, h⟩ := Option.bind_eq_some_iff.1 h
    obtain ⟨zs, hz, _⟩ := Option.bind_eq_some_iff.1 h
    rcases List.mem_cons.1 hx with rfl | hx
    · exact ⟨y, hy⟩
    · exact mapM_some hz x hx

theorem trod_fields {fuel : Nat} {t : Nat} {fs : Array Field} {cs : List Value} {x : DataW H × List MemPlace} (ht : P.underlying t = some (.struct fs)) (h : DataW.trod enc P w 0 (fun _ => true) true fuel t cs = some x) :
    cs.length = P.cellsOf t ∧ ∃ n, ∀ f ∈ fs.toList, ∃ y, DataW.trod enc P w 0 (fun _ => true) true n f.type ((cs.drop f.offset).take (P.cellsOf f.type)) = some y := by
  cases fuel with
  | zero => simp [DataW.trod] at h
  | succ fuel =>
    unfold DataW.trod at h
    rw [ht] at h
    simp only at h
    split at h
    · rename_i hl
      obtain ⟨ys, hys, _⟩ := Option.map_eq_some_iff.1 h
      exact ⟨hl, fuel, mapM_some hys⟩
    · simp at h

theorem cells_at {a : Addr} : ∀ {n : Nat} {cs : List Value}, w.cells? 0 a n = some cs → cs.length = n ∧ ∀ (j : Nat) u, cs[j]? = some u → w.cell? (a.add j) = some u := by
  intro n cs h
  unfold World.cells? at h
  rw [if_pos (Nat.zero_le _)] at h
  have key : ∀ (l : List Nat) (ys : List Value), (l.mapM fun i => w.cell? (a.add i)) = some ys → ys.length = l.length ∧ ∀ (j : Nat) u, ys[j]? = some u → ∃ i, l[j]? = some i ∧ w.cell? (a.add i) = some u := by
    intro l
    induction l with
    | nil =>
      intro ys h
      simp only [List.mapM_nil, Option.pure_def, Option.some.injEq] at h
      subst h
      exact ⟨rfl, fun j u hj => by simp at hj⟩
    | cons i l ih =>
      intro ys h
      simp only [List.mapM_cons, Option.bind_eq_bind] at h
      obtain ⟨y, hy, h⟩ := Option.bind_eq_some_iff.1 h
      obtain ⟨zs, hz, h⟩ := Option.bind_eq_some_iff.1 h
      simp only [Option.pure_def, Option.some.injEq] at h
      subst h
      obtain ⟨h1, h2⟩ := ih zs hz
      refine ⟨by simp [h1], fun j u hj => ?_⟩
      cases j with
      | zero => simp at hj; exact ⟨i, rfl, by rw [hy, hj]⟩
      | succ j => obtain ⟨i', h3, h4⟩ := h2 j u (by simpa using hj); exact ⟨i', by simpa using h3, h4⟩
  obtain ⟨h1, h2⟩ := key _ _ h
  refine ⟨by simpa using h1, fun j u hj => ?_⟩
  obtain ⟨i, h3, h4⟩ := h2 j u hj
  have := (List.getElem?_eq_some_iff.1 h3).2
  simp at this
  rw [← this] at h4
  exact h4

theorem cell_lt {a : Addr} {u : Value} (h : w.cell? a = some u) : a.block < w.heap.size ∧ a.spot = none := by
  unfold World.cell? at h
  split at h
  · rename_i hb
    refine ⟨(Array.getElem?_eq_some_iff.1 hb).1, ?_⟩
    split at h
    · simp at h
    · rename_i hs
      cases hx : a.spot with
      | none => rfl
      | some _ => rw [hx] at hs; simp at hs
  · simp at h

/-- The rows of a slice. -/
theorem rows_up {l : List Sh} {sz b o : Nat} (hsz : l.length = sz) {len : Nat} (hx : ∀ i, i < len → ∃ cs ts, cs.length = sz ∧ (∀ (j : Nat) u, cs[j]? = some u → w.cell? ⟨b, o + (i * sz + j), none⟩ = some u) ∧ Wf l ts ∧ CR P w (old w) (old w) ts cs no) :
    ∀ n, n ≤ len → ∃ (rows : Rws) (vs : List Value), rows.length = n ∧ (∀ r ∈ rows, Wf l r) ∧ CR P w (old w) (old w) rows.flatten vs no ∧ vs.length = n * sz ∧ ∀ (j : Nat) u, vs[j]? = some u → w.cell? ⟨b, o + j, none⟩ = some u
  | 0, _ => ⟨[], [], rfl, by simp, .nil, by simp, by simp⟩
  | n + 1, hn => by
    obtain ⟨rows, vs, h1, h2, h3, h4, h5⟩ := rows_up hsz hx n (by omega)
    obtain ⟨cs, ts, g1, g2, g3, g4⟩ := hx n (by omega)
    refine ⟨rows ++ [ts], vs ++ cs, by simp [h1], fun r hr => ?_, ?_, by simp [h4, g1, Nat.succ_mul], fun j u hj => ?_⟩
    · rcases List.mem_append.1 hr with hr | hr
      · exact h2 r hr
      · rw [List.mem_singleton.1 hr]; exact g3
    · rw [List.flatten_append]
      have := h3.join g4 (φ := no) (fun _ h => h.elim) (fun _ h => h) (fun _ h => h)
      simpa using this
    · by_cases hj' : j < vs.length
      · rw [List.getElem?_append_left hj'] at hj
        exact h5 j u hj
      · rw [List.getElem?_append_right (by omega)] at hj
        have := g2 _ u hj
        rw [h4] at this hj'
        rwa [show o + (n * sz + (j - n * sz)) = o + j by omega] at this

theorem shFields_len (f : Nat → Option (List Sh)) : ∀ {fs : List Field} {o n : Nat} {ss : List Sh}, shFields P f fs o n = some ss → o + ss.length = n
  | [], o, n, ss, h => by
    simp only [shFields] at h
    split at h
    · rename_i hq; simp only [Option.some.injEq] at h; subst h; simpa using nq_eq hq
    · simp at h
  | fd :: r, o, n, ss, h => by
    simp only [shFields] at h
    split at h
    · split at h
      · split at h
        · rename_i hrec
          simp only [Option.some.injEq] at h
          subst h
          have := shFields_len f hrec
          rw [lenN_eq] at this
          simp; omega
        · simp at h
      · simp at h
    · simp at h

theorem trod_CR : ∀ (d t : Nat) {ss : List Sh}, shOf P d t = some ss → ∀ {fuel : Nat} {cs : List Value} {x : DataW H × List MemPlace}, DataW.trod enc P w 0 (fun _ => true) true fuel t cs = some x → ∃ ts, Wf ss ts ∧ CR P w (old w) (old w) ts cs no
  | 0, t, ss, h, _, _, _, _ => by simp [shOf] at h
  | d + 1, t, ss, h, fuel, cs, x, hx => by
    have plain : ∀ {ty}, P.underlying t = some ty → ∃ n, fuel = n + 1 := by
      intro ty hty
      cases fuel with
      | zero => simp [DataW.trod] at hx
      | succ n => exact ⟨n, rfl⟩
    simp only [shOf] at h
    split at h
    · rename_i hu
      simp only [Option.some.injEq] at h
      subst h
      obtain ⟨n, rfl⟩ := plain hu
      unfold DataW.trod at hx
      rw [hu] at hx
      split at hx <;> simp_all
      exact ⟨_, .b .nil, .s rfl .nil⟩
    · rename_i k hu
      simp only [Option.some.injEq] at h
      subst h
      obtain ⟨n, rfl⟩ := plain hu
      unfold DataW.trod at hx
      rw [hu] at hx
      split at hx <;> simp_all
      rename_i hc
      obtain ⟨⟨rfl, hw⟩, _⟩ := hx
      simp only [Lit.wf, Bool.and_eq_true, decide_eq_true_eq] at hw
      exact ⟨_, .i hw .nil, .s rfl .nil⟩
    · rename_i hu
      simp only [Option.some.injEq] at h
      subst h
      obtain ⟨n, rfl⟩ := plain hu
      unfold DataW.trod at hx
      rw [hu] at hx
      split at hx <;> simp_all
      exact ⟨_, .s hx.1 .nil, .s rfl .nil⟩
    · rename_i e hu
      split at h
      · rename_i l hl
        split at h
        · rename_i hq hpos
          simp only [Option.some.injEq] at h
          subst h
          have hq := nq_eq hq
          have hpos := nl_le hpos
          rw [lenN_eq] at hq hpos
          rcases Deep.open_slice hu hx with ⟨rfl, _⟩ | ⟨a, len, cap, m, n, D, Pl, rfl, hb, hlc, hcm, hm, _, hel⟩
          · exact ⟨[.im true []], .sl (by simp) (by simp) .nil, .im1 rfl (Nat.le_refl _) l.length (by simp) [] (fun h => by simp at h) .nil .nil⟩
          · have hmc : m = cap := by simpa using hm
            subst hmc
            by_cases hlen : len = 0
            · subst hlen
              exact ⟨[.im true []], .sl (by simp) (by simp) .nil, .im1 rfl (Nat.zero_le _) l.length (by simp) [] (fun h => by simp at h) .nil .nil⟩
            · obtain ⟨hsp, hlt⟩ : a.spot = none ∧ a.block < w.heap.size := by
                obtain ⟨cs', h1, _⟩ := hel 0 (by omega)
                obtain ⟨h5, h6⟩ := cells_at h1
                have h0 : 0 < cs'.length := by omega
                have := h6 0 cs'[0] (by simp [h0])
                simp only [Nat.zero_mul, Addr.add, if_true] at this
                have := cell_lt this
                exact ⟨this.2, this.1⟩
              obtain ⟨ab, ao, as⟩ := a
              simp only at hsp hlt
              subst hsp
              have hel' : ∀ i, i < len → ∃ cs ts, cs.length = P.cellsOf e ∧ (∀ (j : Nat) u, cs[j]? = some u → w.cell? ⟨ab, ao + (i * P.cellsOf e + j), none⟩ = some u) ∧ Wf l ts ∧ CR P w (old w) (old w) ts cs no := by
                intro i hi
                obtain ⟨cs', h1, h2⟩ := hel i (by omega)
                obtain ⟨ts, h3, h4⟩ := trod_CR d e hl h2
                obtain ⟨h5, h6⟩ := cells_at h1
                refine ⟨cs', ts, h5, fun j u hj => ?_, h3, h4⟩
                have := h6 j u hj
                have ea : ∀ (o k : Nat), Addr.add ⟨ab, o, none⟩ k = ⟨ab, o + k, none⟩ := fun o k => by simp [Addr.add_lit]
                rw [ea, ea, Nat.add_assoc] at this
                exact this
              obtain ⟨rows, vs, h1, h2, h3, h4, h5⟩ := rows_up (P := P) hq hel' len (Nat.le_refl _)
              exact ⟨[.im true rows], .sl h2 (by omega) .nil, .im1 h1.symm (by omega) l.length (fun r hr => (h2 r hr).len) vs (fun _ => ⟨_, _, rfl, hlt, h5⟩) h3 .nil⟩
        · simp at h
      · simp at h
    · rename_i fs hu
      obtain ⟨hlen, n, hf⟩ := trod_fields hu hx
      have key : ∀ (l : List Field), (∀ f ∈ l, f ∈ fs.toList) → ∀ (o : Nat) (ss : List Sh), shFields P (shOf P d) l o (P.cellsOf t) = some ss → ∃ ts, Wf ss ts ∧ CR P w (old w) (old w) ts (cs.drop o) no := by
        intro l
        induction l with
        | nil =>
          intro _ o ss h
          simp only [shFields] at h
          split at h
          · rename_i hq
            simp only [Option.some.injEq] at h
            subst h
            have hq := nq_eq hq
            refine ⟨[], .nil, ?_⟩
            rw [List.drop_eq_nil_of_le (by omega)]
            exact .nil
          · simp at h
        | cons fd r ih =>
          intro hmem o ss h
          have hlen2 := shFields_len _ h
          simp only [shFields] at h
          split at h
          · rename_i l hl
            split at h
            · rename_i hq1 hq2
              split at h
              · rename_i m hrec
                simp only [Option.some.injEq] at h
                subst h
                have hq1 := nq_eq hq1
                have hq2 := nq_eq hq2
                obtain ⟨y, hy⟩ := hf fd (hmem fd (by simp))
                obtain ⟨ts, h1, h2⟩ := trod_CR d fd.type hl hy
                obtain ⟨us, h3, h4⟩ := ih (fun f hf => hmem f (List.mem_cons_of_mem _ hf)) _ _ hrec
                refine ⟨ts ++ us, h1.append h3, ?_⟩
                rw [hq1, ← hq2] at h2
                rw [← List.take_append_drop (lenN l) (cs.drop o), List.drop_drop]
                exact h2.join h4 (fun _ h => h.elim) (fun _ h => h) (fun _ h => h)
              · simp at h
            · simp at h
          · simp at h
      obtain ⟨ts, h1, h2⟩ := key fs.toList (fun f h => h) 0 ss h
      exact ⟨ts, h1, by simpa using h2⟩
    · simp at h

end Go.Proofs.Ytgicjbeaomjdgaa.L
