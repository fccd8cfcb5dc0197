/- The plain steps are sound, 3. -/
import Derived.Test.YtgicjbeaomjdgaaSl5
namespace Go.Proofs.Ytgicjbeaomjdgaa.L
set_option linter.unusedVariables false
set_option linter.unusedSimpArgs false
open Go

variable {F : Fr} {σ : St} {a : Act} {w : World} {S : Nat → Prop} {G : Gh} {φ : Nat → Nat → Prop} {tab : List (Nat × Ty)}

theorem fieldAt_run {P : Program} {t : Nat} {ty : Ty} (ht : TyOk P t ty) (ha : ty.agg = true) {f o z b i : Nat} (hf : nth ty.offs f = some (o, z)) : (Instr.fieldAt t (.pointer (some ⟨b, i, none⟩)) f).run P w = .ok (.pointer (some ⟨b, i + o, none⟩)) w := by
  obtain ⟨d, hd, ha', hx⟩ := ht.desc
  cases d with
  | struct fs =>
    obtain ⟨_, h1, h2⟩ := hx
    rw [nth_eq, h1] at hf
    have hf' : (fs.toList[f]?).map (fun f => (f.offset, P.cellsOf f.type)) = some (o, z) := by simpa using hf
    obtain ⟨fd, hfd, he⟩ := Option.map_eq_some_iff.1 hf'
    obtain rfl : fd.offset = o := congrArg Prod.fst he
    have hfd' : fs[f]? = some fd := by simpa using hfd
    obtain ⟨i, hi, hy0⟩ := h2 fd (Array.mem_of_getElem? hfd')
    have hy : (sizeOf fd.type).run P w = .ok i.size w := by simp [sizeOf, typeInfo, hi]
    simp [Instr.fieldAt, run_underlying hd, hfd', Instr.sureAddr, fieldPlace, hy, hy0, Addr.add_lit]
  | _ => simp_all

/-- Where a slice lies in memory. -/
theorem slice_desc {P : Program} {t : Nat} {ty : Ty} (ht : TyOk P t ty) (hs : ty.isS = true) : P.underlying t = some (.slice ty.elem) := ht.isS hs

theorem index_im0 {P K} {t : Nat} {ty te : Ty} (ht : TyOk P t ty) (hs : ty.isS = true) (hte : TyOk P ty.elem te) {kb : Bool} {rows : Rws} {es : List T} {u : Value} {k : IntKind} {n : Int} (hKS : Sub K S) (hv : VR P w K S G (.t (.im kb rows)) u) (hl : es.length = te.size)
    (h0 : 0 ≤ n) (h1 : n < Ls.ln rows) (he : Ls.ge rows n = es) : ∃ x, (Instr.indexAt t u (.int k n)).run P w = .ok x w ∧ VR P w K S G (.t (.ip es)) x := by
  have hd := slice_desc ht hs
  have hlt : n.toNat < rows.length := by simp only [Ls] at h1; omega
  have key : ∀ (S' : Nat → Prop) (A : Option Addr) (len c sz : Nat) (vs : List Value), Sub S' S → len = rows.length → (∀ r ∈ rows, r.length = sz) → (0 < len → ∃ b o, A = some ⟨b, o, none⟩ ∧ S' b ∧ ∀ j u, vs[j]? = some u → w.cell? ⟨b, o + j, none⟩ = some u) →
      CR P w K S' rows.flatten vs no → ∃ x, (Instr.indexAt t (.slice A len c) (.int k n)).run P w = .ok x w ∧ VR P w K S G (.t (.ip es)) x := by
    intro S' A len c sz vs hSS hn hrs hA hr
    obtain ⟨b, o, rfl, hb, hcell⟩ := hA (by omega)
    have hsz : sz = te.size := by
      rw [← hl, ← ge_eq he, List.getD_eq_getElem?_getD, List.getElem?_eq_getElem hlt]
      exact (hrs _ (List.getElem_mem hlt)).symm
    subst hsz
    have hcr := (hr.drop (n.toNat * te.size)).take te.size
    rw [flatten_at rows n.toNat hrs hlt, ge_eq he] at hcr
    have hlen : n < (len : Int) := by simp only [Ls] at h1; omega
    refine ⟨_, ?_, VR.ip_mk (b := b) (o := o + n.toNat * te.size) (fun _ => hSS b hb) (fun j x hx => ?_) (hcr.more hSS)⟩
    · simp [Instr.indexAt, asIntOf, run_underlying hd, h0, hlen, run_sizeOf hte, Addr.add_lit]
    · rw [List.getElem?_take] at hx
      split at hx
      · rw [List.getElem?_drop] at hx
        rw [Nat.add_assoc]
        exact hcell _ x hx
      · cases hx
  cases hv with
  | t hx _ => cases hx with
    | im0 hn hc sz hrs vs hA hr _ => exact key S _ _ _ sz vs (fun _ h => h) hn hrs hA hr
    | im1 hn hc sz hrs vs hA hr _ => exact key K _ _ _ sz vs hKS hn hrs hA hr

theorem index_rf (h : Rel0 F σ a w S G φ) {t : Nat} {ty te : Ty} (ht : TyOk F.P t ty) (hs : ty.isS = true) (hte : TyOk F.P ty.elem te) {id ver e sz : Nat} {rows : Rws} (ho : look .dead σ.objs id = .row ver e sz rows) (hsz : sz = te.size) {u : Value} {k : IntKind} {n : Int} (hv : VR F.P w F.K S G (.rf id) u)
    (h0 : 0 ≤ n) (h1 : n < Ls.ln rows) : ∃ x, (Instr.indexAt t u (.int k n)).run F.P w = .ok x w ∧ VR F.P w F.K S G (.pt id n 0) x := by
  have hd := slice_desc ht hs
  obtain ⟨hid, _, hGs, us, hk, hrs, hown, ψ, _, _, hcr⟩ := h.row ho
  have hlt : n.toNat < rows.length := by simp only [Ls] at h1; omega
  cases hv with
  | rf hid' hu _ _ =>
    subst hu
    rcases hown.2 with ⟨_, hn⟩ | ⟨g, cap, cur, hβ, _, hh, _⟩
    · omega
    · have hlen : n < (rows.length : Int) := by simpa only [Ls] using h1
      have hp : VR F.P w F.K S G (.pt id n 0) (.pointer (some ⟨g, n.toNat * G.sz id + 0, none⟩)) := .pt hid h0 (by rw [hβ]; rfl) .nil
      refine ⟨_, ?_, hp⟩
      rw [hβ]
      simp [Instr.indexAt, asIntOf, run_underlying hd, h0, hlen, run_sizeOf hte, Addr.add_lit, hGs, hsz]

theorem wrap_small {n : Nat} (h : n ≤ maxLen) : IntKind.i64.wrap (n : Int) = n := by
  rw [IntKind.wrap_i64]
  simp only [maxLen] at h
  omega

theorem lenV_sound (h : Rel0 F σ a w S G φ) {v : V} {u : Value} {n : Int} (hv : VR F.P w F.K S G v u) (hl : lenV Ls σ.objs v = some n) : (∃ A c, u = .slice A n.toNat c ∧ 0 ≤ n) ∨ ∃ s, u = .string s ∧ n = s.size ∧ v = .t (.s (.string s)) := by
  unfold lenV at hl
  split at hl
  · simp only [Option.some.injEq] at hl
    subst hl
    cases hv with
    | t hx _ => cases hx with
      | im0 hn hc sz hrs vs hA hr _ => subst hn; exact .inl ⟨_, _, by simp only [Ls, Int.toNat_natCast]; rfl, by simp [Ls]⟩
      | im1 hn hc sz hrs vs hA hr _ => subst hn; exact .inl ⟨_, _, by simp only [Ls, Int.toNat_natCast]; rfl, by simp [Ls]⟩
  · simp only [Option.some.injEq] at hl
    subst hl
    obtain ⟨rfl, _⟩ := hv.s_inv
    exact .inl ⟨none, 0, rfl, by simp⟩
  · simp only [Option.some.injEq] at hl
    subst hl
    obtain ⟨rfl, _⟩ := hv.s_inv
    exact .inr ⟨_, rfl, rfl, rfl⟩
  · split at hl
    · rename_i hob
      simp only [Option.some.injEq] at hl
      subst hl
      obtain ⟨hid, _, hGs, us, hk, hrs, hown, ψ, _, _, hcr⟩ := h.row hob
      cases hv with
      | rf _ hu _ _ =>
        subst hu
        rcases hown.2 with ⟨hβ, hn⟩ | ⟨g, cap, cur, hβ, _⟩
        · exact .inl ⟨none, 0, by rw [hβ]; simp [Ls, hn], by simp [Ls]⟩
        · exact .inl ⟨_, cap, by rw [hβ]; simp only [Ls, Int.toNat_natCast]; rfl, by simp [Ls]⟩
    · simp at hl
  · simp only [Option.some.injEq] at hl
    subst hl
    cases hv with
    | sb hid h0 h1 hn hm hc hA _ _ =>
      rename_i A n c _ _
      refine .inl ⟨A, c, ?_, ?_⟩
      · have e := wrap_small hm
        simp only [Ls, ← hn, e, Int.toNat_natCast]
      · have e := wrap_small hm
        simp only [Ls, ← hn, e]
        omega
  · simp only [Option.some.injEq] at hl
    subst hl
    cases hv with
    | np _ _ _ _ _ _ _ _ _ hsl _ =>
      obtain ⟨A, c, rfl⟩ := hsl
      exact .inl ⟨A, c, by simp [Ls], by simp [Ls]⟩
  · simp at hl

theorem run_index {P : Program} {t : Nat} {s : ByteArray} {k : IntKind} {n : Int} (ht : P.underlying t = some .string) (h0 : 0 ≤ n) (h1 : n < Ls.sl s) : (Instr.index t (.string s) (.int k n)).run P w = .ok (.int .u8 (Ls.sx s n)) w := by
  have hlt : n.toNat < s.size := by simp only [Ls] at h1; omega
  have hb : s[n.toNat]? = some s[n.toNat] := by simp [hlt]
  simp only [Instr.index, asIntOf, Sem.run_bind, Sem.run_pure, Result.andThen_ok, run_underlying ht, h0, if_true, hb]
  congr 2
  simp only [Ls]
  rw [List.getD_eq_getElem?_getD, List.getElem?_eq_getElem (by simpa using hlt)]
  rfl

theorem evs_sound (h : Rel0 F σ a w S G φ) : ∀ (xs : List Operand), (∀ x ∈ xs, ∀ v, x = .const v → v.oneCell' = true) → AllP (evs σ.env xs).1 → VRs F.P w F.K S G (evs σ.env xs).2 (xs.map a.eval)
  | [], _, _ => .nil
  | x :: r, hc, hp => by
    simp only [evs, List.map_cons] at hp ⊢
    rw [AllP_append] at hp
    exact .cons ((h.ev x (hc x (by simp))).strip hp.1) (evs_sound h r (fun y hy => hc y (by simp [hy])) hp.2)

/-! ### literals of structs -/
theorem VRs.splice {P K} {cs : List V} {us : List Value} (h : VRs P w K S G cs us) {v : List V} {x : List Value} (hv : VRs P w K S G v x) (o : Nat) : VRs P w K S G (cs.take o ++ v ++ cs.drop (o + v.length)) (us.take o ++ x ++ us.drop (o + v.length)) :=
  ((h.take o).append hv).append (h.drop _)

theorem cellsOf_sound {P K} {v : V} {u : Value} {vc : List V} (h : VR P w K S G v u) (hv : cellsOf v = some vc) : VRs P w K S G vc u.cells.toList := by
  have one : ∀ {x : Value}, x.oneCell' = true → x.cells.toList = [x] := by
    intro x hx
    cases x <;> simp_all [Value.cells, Value.oneCell']
  cases h with
  | t hx _ =>
    simp only [cellsOf, Option.some.injEq] at hv
    subst hv
    rw [one (hx.one u (by simp))]
    exact .t hx .nil
  | rf hid hu h1 h =>
    simp only [cellsOf, Option.some.injEq] at hv
    subst hv
    rw [one h1]
    exact .rf hid hu h1 .nil
  | sb hid h0 h1 hn hm hc hA hb h => simp only [cellsOf, Option.some.injEq] at hv; subst hv; exact .sb hid h0 h1 hn hm hc hA hb .nil
  | np hid hi r0 u0 hk hj hr hl hu hsl h =>
    simp only [cellsOf, Option.some.injEq] at hv
    subst hv
    obtain ⟨A, c, rfl⟩ := hsl
    exact .np hid hi r0 u0 hk hj hr hl hu ⟨A, c, rfl⟩ .nil
  | pt hid hi hg h => simp only [cellsOf, Option.some.injEq] at hv; subst hv; exact .pt hid hi hg .nil
  | ag hc h => simp only [cellsOf, Option.some.injEq] at hv; subst hv; simpa [Value.cells] using hc
  | fn hc h => simp only [cellsOf, Option.some.injEq] at hv; subst hv; exact .fn hc .nil
  | tu _ _ => simp [cellsOf] at hv
  | cd0 _ => simp [cellsOf] at hv
  | cd1 _ _ => simp [cellsOf] at hv
  | uu _ => simp [cellsOf] at hv
  | hl _ _ _ _ _ _ _ _ => simp [cellsOf] at hv

theorem foldl_set {α : Type} : ∀ (v : List α) (cs : Array α) (o k : Nat), o + k + v.length ≤ cs.size →
    ((v.zipIdx k).foldl (fun (cs : Array α) (c : α × Nat) => cs.setIfInBounds (o + c.2) c.1) cs).toList = cs.toList.take (o + k) ++ v ++ cs.toList.drop (o + k + v.length)
  | [], cs, o, k, _ => by simp
  | x :: v, cs, o, k, h => by
    simp only [List.length_cons] at h
    rw [List.zipIdx_cons, List.foldl_cons, foldl_set v _ o (k + 1) (by simp; omega)]
    simp only [Array.toList_setIfInBounds, List.length_cons]
    have hk : o + k < cs.toList.length := by simp; omega
    have h1 : (cs.toList.set (o + k) x).take (o + (k + 1)) = cs.toList.take (o + k) ++ [x] := by
      rw [List.set_eq_take_append_cons_drop, if_pos hk, ← Nat.add_assoc, List.take_append, List.length_take, Nat.min_eq_left (Nat.le_of_lt hk), List.take_of_length_le (by rw [List.length_take]; omega)]
      simp
    have h2 : (cs.toList.set (o + k) x).drop (o + (k + 1) + v.length) = cs.toList.drop (o + k + (v.length + 1)) := by
      rw [List.drop_set_of_lt (by omega)]
      congr 1
      omega
    rw [h1, h2]
    simp

theorem fillParts_sound (h : Rel0 F σ a w S G φ) {fs : List (Nat × Nat)} : ∀ (ps : List (Nat × Operand)) (cs cs' : List V) (us : Array Value) (pp : List Prop), fillParts σ.env fs ps cs = some (pp, cs') → AllP pp → (∀ p ∈ ps, ∀ v, p.2 = .const v → v.oneCell' = true) → VRs F.P w F.K S G cs us.toList →
    ∃ us', Instr.fill (fun i => fs[i]?) us (ps.map fun (i, x) => (i, a.eval x)) = some us' ∧ VRs F.P w F.K S G cs' us'.toList
  | [], cs, cs', us, pp, hf, _, _, hv => by
    simp only [fillParts, Option.some.injEq, Prod.mk.injEq] at hf
    obtain ⟨_, rfl⟩ := hf
    exact ⟨us, rfl, hv⟩
  | (i, x) :: r, cs, cs', us, pp, hf, hp, hc, hv => by
    simp only [fillParts] at hf
    split at hf
    · simp at hf
    · rename_i o sz hn
      split at hf
      · simp at hf
      · rename_i vc hvc
        split at hf
        · rename_i hb1 hb2
          split at hf
          · simp at hf
          · rename_i ps' cs'' hrec
            simp only [Option.some.injEq, Prod.mk.injEq] at hf
            obtain ⟨rfl, rfl⟩ := hf
            rw [AllP_append] at hp
            have hx := (h.ev x (hc (i, x) (by simp))).strip hp.1
            have hcs := cellsOf_sound hx hvc
            have hlen := hcs.len
            have e1 : vc.length = sz := by rw [← lenN_eq]; exact nq_eq hb1
            have e2 : o + sz ≤ cs.length := by rw [← lenN_eq]; exact nl_le hb2
            have hl := hv.len
            have e3 : (a.eval x).cells.size = sz := by rw [← Array.length_toList, hlen, e1]
            have hsp := hv.splice hcs o
            rw [takeN_eq, dropN_eq, ← e1] at hrec
            have hfs : ((a.eval x).cells.zipIdx.foldl (fun cs (c, j) => cs.setIfInBounds (o + j) c) us).toList = us.toList.take o ++ (a.eval x).cells.toList ++ us.toList.drop (o + vc.length) := by
              have := foldl_set (a.eval x).cells.toList us o 0 (by simp only [Array.length_toList, e3]; simp at hl; omega)
              rw [hlen] at this
              simp only [Nat.add_zero] at this
              rw [← this, ← Array.foldl_toList]
              simp
            rw [← hfs] at hsp
            obtain ⟨us', hu, hv'⟩ := fillParts_sound h r _ _ _ ps' hrec hp.2 (fun p hp' => hc p (by simp [hp'])) hsp
            refine ⟨us', ?_, hv'⟩
            rw [nth_eq] at hn
            simp only [List.map_cons, Instr.fill, hn, e3]
            rw [if_neg (by simp at hl ⊢; omega)]
            exact hu
        · simp at hf

theorem mapM_places {P : Program} : ∀ (fs : List Field), (∀ f ∈ fs, ∃ i, P.info? f.type = some i ∧ i.size ≠ 0) → ((fs.mapM fun f => do pure (f.offset, ← sizeOf f.type)) : Sem (List (Nat × Nat))).run P w = .ok (fs.map fun f => (f.offset, P.cellsOf f.type)) w
  | [], _ => by simp
  | f :: fs, h => by
    obtain ⟨i, hi, _⟩ := h f (by simp)
    have ih := mapM_places fs (fun g hg => h g (by simp [hg]))
    have hs : (sizeOf f.type).run P w = .ok (P.cellsOf f.type) w := by simp [sizeOf, typeInfo, hi, Program.cellsOf]
    simp only [List.mapM_cons, Sem.run_bind, hs, Result.andThen_ok, Sem.run_pure, ih, List.map_cons]

theorem build_sound (h : Rel0 F σ a w S G φ) {t : Nat} {ty : Ty} (ht : TyOk F.P t ty) (ha : ty.agg = true) (hz : ty.zero ≠ []) {parts : Array (Nat × Operand)} {ps : List Prop} {cs : List V} (hf : fillParts σ.env ty.offs parts.toList (ty.zero.map fun z => .t (.s z)) = some (ps, cs)) (hp : AllP ps) (hc : ∀ p ∈ parts.toList, ∀ v, p.2 = .const v → v.oneCell' = true) :
    ∃ u, (Instr.build t (parts.map fun (i, x) => (i, a.eval x))).run F.P w = .ok u w ∧ VR F.P w F.K S G (.ag cs) u := by
  obtain ⟨d, hd, ha', hx⟩ := ht.desc
  obtain ⟨i, hi, _, _, hzz⟩ := ht.info
  obtain ⟨z, hz1, hz2⟩ := hzz hz
  have hzr : (zeroValue t).run F.P w = .ok z w := by simp [zeroValue, typeInfo, hi, hz1]
  have hzv : VRs F.P w F.K S G (ty.zero.map fun z => .t (.s z)) z.cells.toList := by
    rw [hz2]
    have : ∀ l : List Value, (∀ z ∈ l, z.oneCell' = true) → VRs F.P w F.K S G (l.map fun z => .t (.s z)) l := by
      intro l
      induction l with
      | nil => intro _; exact .nil
      | cons x r ih => intro hl; exact .cons (VR.s (hl x (by simp))) (ih (fun z hz => hl z (by simp [hz])))
    exact this _ ht.zero1
  obtain ⟨us', hu, hv⟩ := fillParts_sound h parts.toList _ _ z.cells ps hf hp hc hzv
  cases d with
  | struct fs =>
    obtain ⟨_, h1, h2⟩ := hx
    have hm : ((fs.mapM fun f => do pure (f.offset, ← sizeOf f.type)) : Sem (Array (Nat × Nat))).run F.P w = .ok (fs.map fun f => (f.offset, F.P.cellsOf f.type)) w := by
      have := mapM_places (P := F.P) (w := w) fs.toList (fun f hf => h2 f (by simpa using hf))
      rw [Array.mapM_eq_mapM_toList]
      rw [map_eq_pure_bind, Sem.run_bind, this]
      simp only [Result.andThen_ok, Sem.run_pure]
      congr 1
      apply Array.ext'
      simp
    refine ⟨.agg us', ?_, .ag hv .nil⟩
    have hpl : (fun i => (fs.map fun f => (f.offset, F.P.cellsOf f.type))[i]?) = fun i : Nat => ty.offs[i]? := by
      funext i
      rw [h1]
      simp
    simp only [Instr.build, Sem.run_bind, hzr, Result.andThen_ok, run_underlying hd, hm, hpl]
    have hpa : (parts.map fun (i, x) => (i, a.eval x)).toList = parts.toList.map fun (i, x) => (i, a.eval x) := by simp
    rw [hpa, hu]
    rfl
  | _ => simp_all

theorem low_sound (h : Rel0 F σ a w S G φ) {x : Option Operand} {ps : List Prop} {n : Int} (hx : lowOf σ.env x = some (ps, n)) (hp : AllP ps) (hc : ∀ y v, x = some y → y = .const v → v.oneCell' = true) : (x = none ∧ n = 0) ∨ ∃ y k, x = some y ∧ a.eval y = .int k n := by
  cases x with
  | none => simp only [lowOf, Option.some.injEq, Prod.mk.injEq] at hx; exact .inl ⟨rfl, hx.2.symm⟩
  | some y =>
    simp only [lowOf] at hx
    split at hx
    · rename_i p k n' hs
      simp only [Option.some.injEq, Prod.mk.injEq] at hx
      obtain ⟨rfl, rfl⟩ := hx
      have := (h.ev y (fun v hv => hc y v rfl hv)).strip (by rw [hs]; exact hp)
      rw [hs] at this
      exact .inr ⟨y, k, rfl, this.s_inv.1⟩
    · simp at hx

theorem high_sound (h : Rel0 F σ a w S G φ) {x : Option Operand} {ps : List Prop} {n d : Int} (hx : highOf σ.env x d = some (ps, n)) (hp : AllP ps) (hc : ∀ y v, x = some y → y = .const v → v.oneCell' = true) : (x = none ∧ n = d) ∨ ∃ y k, x = some y ∧ a.eval y = .int k n := by
  cases x with
  | none => simp only [highOf, Option.some.injEq, Prod.mk.injEq] at hx; exact .inl ⟨rfl, hx.2.symm⟩
  | some y =>
    simp only [highOf] at hx
    split at hx
    · rename_i p k n' hs
      simp only [Option.some.injEq, Prod.mk.injEq] at hx
      obtain ⟨rfl, rfl⟩ := hx
      have := (h.ev y (fun v hv => hc y v rfl hv)).strip (by rw [hs]; exact hp)
      rw [hs] at this
      exact .inr ⟨y, k, rfl, this.s_inv.1⟩
    · simp at hx

/-- The bounds of a slice expression. -/
theorem run_bounds {P : Program} (b : Bool) (len cap : Nat) (x y : Option Operand) (ev : Operand → Value) {l hh : Int} (hx : (x = none ∧ l = 0) ∨ ∃ z k, x = some z ∧ ev z = .int k l) (hy : (y = none ∧ hh = len) ∨ ∃ z k, y = some z ∧ ev z = .int k hh) (h0 : 0 ≤ l) (h1 : l ≤ hh) (h2 : hh ≤ len) (h3 : len ≤ cap) :
    (Instr.sliceBounds b len cap (x.map ev) (y.map ev) none).run P w = .ok (l.toNat, hh.toNat, cap) w := by
  have hb : ∀ (k : IntKind) (n : Int) (m : Nat) (c : BoundsCode), 0 ≤ n → n ≤ m → (Instr.sliceBound (.int k n) m c).run P w = .ok n.toNat w := by
    intro k n m c h0 h1
    simp [Instr.sliceBound, asIntOf, h0, h1]
  rcases hx with ⟨rfl, rfl⟩ | ⟨z, k, rfl, hz⟩ <;> rcases hy with ⟨rfl, rfl⟩ | ⟨z', k', rfl, hz'⟩
  · simp [Instr.sliceBounds]
  · simp [Instr.sliceBounds, hz', hb k' hh cap _ (by omega) (by omega)]
  · simp [Instr.sliceBounds, hz, hb k l len _ h0 h1]
  · simp [Instr.sliceBounds, hz, hz', hb k' hh cap _ (by omega) (by omega), hb k l hh.toNat _ h0 (by omega)]

theorem slice_str {P : Program} {t : Nat} (ht : P.underlying t = some .string) {s : ByteArray} {x y : Option Operand} {ev : Operand → Value} {l hh : Int} (hx : (x = none ∧ l = 0) ∨ ∃ z k, x = some z ∧ ev z = .int k l) (hy : (y = none ∧ hh = Ls.sl s) ∨ ∃ z k, y = some z ∧ ev z = .int k hh) (h0 : 0 ≤ l) (h1 : l ≤ hh) (h2 : hh ≤ Ls.sl s) :
    (Instr.sliceAt t (.string s) (x.map ev) (y.map ev) none).run P w = .ok (.string (Ls.ss s l hh)) w := by
  have hb := run_bounds (P := P) (w := w) false s.size s.size x y ev hx hy h0 h1 h2 (Nat.le_refl _)
  simp only [Instr.sliceAt, Sem.run_bind, run_underlying ht, Result.andThen_ok, Instr.slice, Option.isSome_none, Bool.false_eq_true, if_false, hb, Sem.run_pure]
  rfl

theorem slice_sl {P : Program} {t : Nat} {ty te : Ty} (ht : TyOk P t ty) (hs : ty.isS = true) (hte : TyOk P ty.elem te) {A : Option Addr} {len cap : Nat} {x y : Option Operand} {ev : Operand → Value} {l hh : Int} (hx : (x = none ∧ l = 0) ∨ ∃ z k, x = some z ∧ ev z = .int k l) (hy : (y = none ∧ hh = (len : Int)) ∨ ∃ z k, y = some z ∧ ev z = .int k hh)
    (h0 : 0 ≤ l) (h1 : l ≤ hh) (h2 : hh ≤ (len : Int)) (h3 : len ≤ cap) :
    (Instr.sliceAt t (.slice A len cap) (x.map ev) (y.map ev) none).run P w = .ok (.slice (if cap = l.toNat then A else A.map (·.add (l.toNat * te.size))) (hh.toNat - l.toNat) (cap - l.toNat)) w := by
  have hb := run_bounds (P := P) (w := w) true len cap x y ev hx hy h0 h1 h2 h3
  have hd := ht.isS hs
  simp only [Instr.sliceAt, Sem.run_bind, run_underlying hd, Result.andThen_ok, Instr.slice, hb, run_sizeOf hte, Sem.run_pure]

theorem take_flatten {α : Type} {sz : Nat} : ∀ (rows : List (List α)) (i : Nat), (∀ r ∈ rows, r.length = sz) → (rows.take i).flatten = rows.flatten.take (i * sz)
  | rows, 0, _ => by simp
  | [], i + 1, _ => by simp
  | r :: rows, i + 1, hs => by
    have hr := hs r (by simp)
    have ih := take_flatten rows i (fun q hq => hs q (by simp [hq]))
    rw [List.take_succ_cons, List.flatten_cons, List.flatten_cons, ih, List.take_append, List.take_of_length_le (l := r) (by rw [hr, Nat.add_mul]; omega), hr]
    congr 2
    rw [Nat.add_mul]
    omega
theorem drop_flatten {α : Type} {sz : Nat} : ∀ (rows : List (List α)) (i : Nat), (∀ r ∈ rows, r.length = sz) → (rows.drop i).flatten = rows.flatten.drop (i * sz)
  | rows, 0, _ => by simp
  | [], i + 1, _ => by simp
  | r :: rows, i + 1, hs => by
    have hr := hs r (by simp)
    have ih := drop_flatten rows i (fun q hq => hs q (by simp [hq]))
    rw [List.drop_succ_cons, List.flatten_cons, ih, List.drop_append, List.drop_eq_nil_of_le (as := r) (by rw [hr, Nat.add_mul]; omega), List.nil_append, hr]
    congr 1
    rw [Nat.add_mul]
    omega

theorem slice_im {P K} {t : Nat} {ty te : Ty} (ht : TyOk P t ty) (hs : ty.isS = true) (hte : TyOk P ty.elem te) {kb : Bool} {rows : Rws} {u : Value} (hv : VR P w K S G (.t (.im kb rows)) u) {x y : Option Operand} {ev : Operand → Value} {l hh : Int} (hx : (x = none ∧ l = 0) ∨ ∃ z k, x = some z ∧ ev z = .int k l) (hy : (y = none ∧ hh = Ls.ln rows) ∨ ∃ z k, y = some z ∧ ev z = .int k hh)
    (h0 : 0 ≤ l) (h1 : l ≤ hh) (h2 : hh ≤ Ls.ln rows) (hrs : ∀ r ∈ rows, r.length = te.size) :
    ∃ z, (Instr.sliceAt t u (x.map ev) (y.map ev) none).run P w = .ok z w ∧ VR P w K S G (.t (.im kb (Ls.sr rows l hh))) z := by
  have hrs' : ∀ r ∈ Ls.sr rows l hh, r.length = te.size := fun r hr => hrs r (List.mem_of_mem_take (List.mem_of_mem_drop hr))
  have hfl : ∀ {S'} {vs : List Value}, CR P w K S' rows.flatten vs no → CR P w K S' (Ls.sr rows l hh).flatten ((vs.take (hh.toNat * te.size)).drop (l.toNat * te.size)) no := by
    intro S' vs h
    have := (h.take (hh.toNat * te.size)).drop (l.toNat * te.size)
    rwa [← take_flatten rows hh.toNat hrs, ← drop_flatten _ l.toNat (fun r hr => hrs r (List.mem_of_mem_take hr))] at this
  have hlen : (Ls.sr rows l hh).length = hh.toNat - l.toNat := by
    simp only [Ls] at h2
    simp only [Ls, List.length_drop, List.length_take]
    omega
  have hA' : ∀ {S' : Nat → Prop} {A : Option Addr} {n c sz : Nat} {vs : List Value}, n = rows.length → n ≤ c → (0 < n → ∃ b o, A = some ⟨b, o, none⟩ ∧ S' b ∧ ∀ j u, vs[j]? = some u → w.cell? ⟨b, o + j, none⟩ = some u) → 0 < hh.toNat - l.toNat →
      ∃ b o, (if c = l.toNat then A else A.map (·.add (l.toNat * te.size))) = some ⟨b, o, none⟩ ∧ S' b ∧ ∀ j u, ((vs.take (hh.toNat * te.size)).drop (l.toNat * te.size))[j]? = some u → w.cell? ⟨b, o + j, none⟩ = some u := by
    intro S' A n c sz vs hn hc hA hp
    simp only [Ls] at h2
    obtain ⟨b, o, rfl, hb, hcell⟩ := hA (by omega)
    refine ⟨b, o + l.toNat * te.size, ?_, hb, fun j u hu => ?_⟩
    · rw [if_neg (by omega)]
      simp [Addr.add_lit]
    · rw [List.getElem?_drop, List.getElem?_take] at hu
      split at hu
      · rw [Nat.add_assoc]
        exact hcell _ u hu
      · cases hu
  cases hv with
  | t hx' _ => cases hx' with
    | @im0 _ _ _ A n c _ _ hn hc sz hrs0 vs hA hr _ =>
      subst hn
      refine ⟨_, slice_sl ht hs hte hx (by simpa only [Ls] using hy) h0 h1 (by simpa only [Ls] using h2) hc, .t (.im0 hlen.symm (by simp only [Ls] at h2; omega) te.size hrs' _ (hA' (sz := sz) rfl hc hA) (hfl hr) .nil) .nil⟩
    | @im1 _ _ _ A n c _ _ hn hc sz hrs0 vs hA hr _ =>
      subst hn
      refine ⟨_, slice_sl ht hs hte hx (by simpa only [Ls] using hy) h0 h1 (by simpa only [Ls] using h2) hc, .t (.im1 hlen.symm (by simp only [Ls] at h2; omega) te.size hrs' _ (hA' (sz := sz) rfl hc hA) (hfl hr) .nil) .nil⟩

theorem slice_rf (h : Rel0 F σ a w S G φ) {t : Nat} {ty te : Ty} (ht : TyOk F.P t ty) (hs : ty.isS = true) (hte : TyOk F.P ty.elem te) {id ver e sz : Nat} {rows : Rws} (ho : look .dead σ.objs id = .row ver e sz rows) (hsz : sz = te.size) {u : Value} (hv : VR F.P w F.K S G (.rf id) u) {x y : Option Operand} {ev : Operand → Value} {l hh : Int} (hx : (x = none ∧ l = 0) ∨ ∃ z k, x = some z ∧ ev z = .int k l) (hy : (y = none ∧ hh = Ls.ln rows) ∨ ∃ z k, y = some z ∧ ev z = .int k hh)
    (h0 : 0 ≤ l) (h1 : l ≤ hh) (h2 : hh ≤ Ls.ln rows) :
    ∃ z, (Instr.sliceAt t u (x.map ev) (y.map ev) none).run F.P w = .ok z w ∧ VR F.P w F.K S G (.sb id l hh) z := by
  obtain ⟨hid, _, hGs, us, hk, hrs, hown, ψ, _, _, hcr⟩ := h.row ho
  cases hv with
  | rf hid' hu _ _ =>
    subst hu
    simp only [Ls] at h2 hy
    rcases hown.2 with ⟨hβ, hn⟩ | ⟨g, cap, cur, hβ, _, hh', hnc, hcm, _⟩
    · rw [hβ]
      refine ⟨_, slice_sl (len := 0) ht hs hte hx (by rw [hn] at hy; simpa using hy) h0 h1 (by omega) (Nat.le_refl _), ?_⟩
      refine .sb hid h0 h1 (by omega) (by simp only [maxLen]; omega) (by omega) (fun hp => absurd hp (by omega)) ⟨_, _, _, hβ, by omega, by omega, fun e => by subst e; rfl⟩ .nil
    · rw [hβ]
      refine ⟨_, slice_sl ht hs hte hx hy h0 h1 h2 hnc, ?_⟩
      refine .sb hid h0 h1 (by omega) (by simp only [maxLen] at hcm ⊢; omega) (by omega) (fun hp => ⟨g, by rw [hβ]; rfl, ?_⟩) ⟨_, _, _, hβ, by omega, by omega, fun e => by subst e; simp [Addr.add_lit]⟩ .nil
      rw [if_neg (by omega), hGs, hsz]
      simp [Addr.add_lit]

end Go.Proofs.Ytgicjbeaomjdgaa.L
