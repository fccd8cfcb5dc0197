/- The plain steps are sound, 3. -/
import Derived.Test.YtcpekllcbimpmaaGreatDoorFnTextLib0
import Derived.Laws.OwnMore
import Derived.Laws.MakeOwn
import Derived.Maps.AppendAt
namespace Go.Proofs.YtcpekllcbimpmaaGreatDoor.L
set_option linter.unusedVariables false
set_option linter.unusedSimpArgs false
open Go
variable {F : Fr} {σ : St} {a : Act} {w : World} {S : Nat → Prop} {G : Gh} {φ : Nat → Nat → Prop} {tab : List (Nat × Ty)}
theorem qvH {P : Program} {t : Nat} {ty : Ty} (ht : TyOk P t ty) (ha : ty.agg = true) {f o z b i : Nat} (hf : nth ty.offs f = some (o, z)) : (Instr.fieldAt t (.pointer (some ⟨b, i, none⟩)) f).run P w = .ok (.pointer (some ⟨b, i + o, none⟩)) w := by
 obtain ⟨d, hd, ha', hx⟩ := ht.desc
 cases d with
 | struct fs =>
  obtain ⟨_, h1, h2⟩ := hx
  rw [qUL, h1] at hf
  have hf' : (fs.toList[f]?).map (fun f => (f.offset, P.cellsOf f.type)) = some (o, z) := by simpa using hf
  obtain ⟨fd, hfd, he⟩ := Option.map_eq_some_iff.1 hf'
  obtain rfl : fd.offset = o := congrArg Prod.fst he
  have hfd' : fs[f]? = some fd := by simpa using hfd
  obtain ⟨i, hi, hy0⟩ := h2 fd (Array.mem_of_getElem? hfd')
  have hy : (sizeOf fd.type).run P w = .ok i.size w := by simp [sizeOf, typeInfo, hi]
  simp [Instr.fieldAt, run_underlying hd, hfd', Instr.sureAddr, fieldPlace, hy, hy0, Addr.add_lit]
 | _ => simp_all
theorem qZJ {P : Program} {t : Nat} {ty : Ty} (ht : TyOk P t ty) (hs : ty.isS = true) : P.underlying t = some (.slice ty.elem) := ht.isS hs
theorem qmP {P K} {t : Nat} {ty te : Ty} (ht : TyOk P t ty) (hs : ty.isS = true) (hte : TyOk P ty.elem te) {kb : Bool} {rows : Rws} {es : List T} {u : Value} {k : IntKind} {n : Int} (hKS : Sub K S) (hv : VR P w K S G (.t (.im kb rows)) u) (hl : es.length = te.size)
  (h0 : 0 ≤ n) (h1 : n < Ls.ln rows) (he : Ls.ge rows n = es) : ∃ x, (Instr.indexAt t u (.int k n)).run P w = .ok x w ∧ VR P w K S G (.t (.ip es)) x := by
 have hd := qZJ ht hs
 have hlt : n.toNat < rows.length := by simp only [Ls] at h1; omega
 have key : ∀ (S' : Nat → Prop) (A : Option Addr) (len c sz : Nat) (vs : List Value), Sub S' S → len = rows.length → (∀ r ∈ rows, r.length = sz) → (0 < len → ∃ b o, A = some ⟨b, o, none⟩ ∧ S' b ∧ ∀ j u, vs[j]? = some u → w.cell? ⟨b, o + j, none⟩ = some u) →
   CR P w K S' rows.flatten vs no → ∃ x, (Instr.indexAt t (.slice A len c) (.int k n)).run P w = .ok x w ∧ VR P w K S G (.t (.ip es)) x := by
  intro S' A len c sz vs hSS hn hrs hA hr
  obtain ⟨b, o, rfl, hb, hcell⟩ := hA (by omega)
  have hsz : sz = te.size := by
   rw [← hl, ← ge_eq he, List.getD_eq_getElem?_getD, List.getElem?_eq_getElem hlt]
   exact (hrs _ (List.getElem_mem hlt)).symm
  subst hsz
  have hcr := (hr.drop (n.toNat * te.size)).take te.size
  rw [qeD rows n.toNat hrs hlt, ge_eq he] at hcr
  have hlen : n < (len : Int) := by simp only [Ls] at h1; omega
  refine ⟨_, ?_, VR.ip_mk (b := b) (o := o + n.toNat * te.size) (fun _ => hSS b hb) (fun j x hx => ?_) (hcr.more hSS)⟩
  · simp [Instr.indexAt, asIntOf, run_underlying hd, h0, hlen, qdD hte, Addr.add_lit]
  ·
   rw [List.getElem?_take] at hx
   split at hx
   ·
    rw [List.getElem?_drop] at hx
    rw [Nat.add_assoc]
    exact hcell _ x hx
   cases hx
 cases hv with
 | t hx _ => cases hx with
  | im0 hn hc sz hrs vs hA hr _ => exact key S _ _ _ sz vs (fun _ h => h) hn hrs hA hr
  | im1 hn hc sz hrs vs hA hr _ => exact key K _ _ _ sz vs hKS hn hrs hA hr
theorem qCS (h : Rel0 F σ a w S G φ) {t : Nat} {ty te : Ty} (ht : TyOk F.P t ty) (hs : ty.isS = true) (hte : TyOk F.P ty.elem te) {id ver e sz : Nat} {rows : Rws} (ho : look .dead σ.objs id = .row ver e sz rows) (hsz : sz = te.size) {u : Value} {k : IntKind} {n : Int} (hv : VR F.P w F.K S G (.rf id) u)
  (h0 : 0 ≤ n) (h1 : n < Ls.ln rows) : ∃ x, (Instr.indexAt t u (.int k n)).run F.P w = .ok x w ∧ VR F.P w F.K S G (.pt id n 0) x := by
 have hd := qZJ ht hs
 obtain ⟨hid, _, hGs, us, hk, hrs, hown, ψ, _, _, hcr⟩ := h.row ho
 have hlt : n.toNat < rows.length := by simp only [Ls] at h1; omega
 cases hv with
 | rf hid' hu _ _ =>
  subst hu
  rcases hown.2 with ⟨_, hn⟩ | ⟨g, cap, cur, hβ, _, hh, _⟩
  · omega
  have hlen : n < (rows.length : Int) := by simpa only [Ls] using h1
  have hp : VR F.P w F.K S G (.pt id n 0) (.pointer (some ⟨g, n.toNat * G.sz id + 0, none⟩)) := .pt hid h0 (by rw [hβ]; rfl) .nil
  refine ⟨_, ?_, hp⟩
  rw [hβ]
  simp [Instr.indexAt, asIntOf, run_underlying hd, h0, hlen, qdD hte, Addr.add_lit, hGs, hsz]
theorem qrG {n : Nat} (h : n ≤ maxLen) : IntKind.i64.wrap (n : Int) = n := by
 rw [IntKind.wrap_i64]
 simp only [maxLen] at h
 omega
theorem qaJ (h : Rel0 F σ a w S G φ) {v : V} {u : Value} {n : Int} (hv : VR F.P w F.K S G v u) (hl : lenV Ls σ.objs v = some n) : (∃ A c, u = .slice A n.toNat c ∧ 0 ≤ n) ∨ ∃ s, u = .string s ∧ n = s.size ∧ v = .t (.s (.string s)) := by
 unfold lenV at hl
 split at hl
 ·
  simp only [Option.some.injEq] at hl
  subst hl
  cases hv with
  | t hx _ => cases hx with
   | im0 hn hc sz hrs vs hA hr _ => subst hn; exact .inl ⟨_, _, by simp only [Ls, Int.toNat_natCast]; rfl, by simp [Ls]⟩
   | im1 hn hc sz hrs vs hA hr _ => subst hn; exact .inl ⟨_, _, by simp only [Ls, Int.toNat_natCast]; rfl, by simp [Ls]⟩
 ·
  simp only [Option.some.injEq] at hl
  subst hl
  obtain ⟨rfl, _⟩ := hv.s_inv
  exact .inl ⟨none, 0, rfl, by simp⟩
 ·
  simp only [Option.some.injEq] at hl
  subst hl
  obtain ⟨rfl, _⟩ := hv.s_inv
  exact .inr ⟨_, rfl, rfl, rfl⟩
 ·
  split at hl
  ·
   rename_i hob
   simp only [Option.some.injEq] at hl
   subst hl
   obtain ⟨hid, _, hGs, us, hk, hrs, hown, ψ, _, _, hcr⟩ := h.row hob
   cases hv with
   | rf _ hu _ _ =>
    subst hu
    rcases hown.2 with ⟨hβ, hn⟩ | ⟨g, cap, cur, hβ, _⟩
    · exact .inl ⟨none, 0, by rw [hβ]; simp [Ls, hn], by simp [Ls]⟩
    exact .inl ⟨_, cap, by rw [hβ]; simp only [Ls, Int.toNat_natCast]; rfl, by simp [Ls]⟩
  simp at hl
 ·
  simp only [Option.some.injEq] at hl
  subst hl
  cases hv with
  | sb hid h0 h1 hn hm hc hA _ _ =>
   rename_i A n c _ _
   refine .inl ⟨A, c, ?_, ?_⟩
   ·
    have e := qrG hm
    simp only [Ls, ← hn, e, Int.toNat_natCast]
   have e := qrG hm
   simp only [Ls, ← hn, e]
   omega
 ·
  simp only [Option.some.injEq] at hl
  subst hl
  cases hv with
  | np _ _ _ _ _ _ _ _ _ hsl _ =>
   obtain ⟨A, c, rfl⟩ := hsl
   exact .inl ⟨A, c, by simp [Ls], by simp [Ls]⟩
 simp at hl
theorem qnP {P : Program} {t : Nat} {s : ByteArray} {k : IntKind} {n : Int} (ht : P.underlying t = some .string) (h0 : 0 ≤ n) (h1 : n < Ls.sl s) : (Instr.index t (.string s) (.int k n)).run P w = .ok (.int .u8 (Ls.sx s n)) w := by
 have hlt : n.toNat < s.size := by simp only [Ls] at h1; omega
 have hb : s[n.toNat]? = some s[n.toNat] := by simp [hlt]
 simp only [Instr.index, asIntOf, Sem.run_bind, Sem.run_pure, Result.andThen_ok, run_underlying ht, h0, if_true, hb]
 congr 2
 simp only [Ls]
 rw [List.getD_eq_getElem?_getD, List.getElem?_eq_getElem (by simpa using hlt)]
 rfl
theorem qQG (h : Rel0 F σ a w S G φ) : ∀ (xs : List Operand), (∀ x ∈ xs, ∀ v, x = .const v → v.oneCell' = true) → AllP (evs σ.env xs).1 → VRs F.P w F.K S G (evs σ.env xs).2 (xs.map a.eval)
 | [], _, _ => .nil
 | x :: r, hc, hp => by
  simp only [evs, List.map_cons] at hp ⊢
  rw [qI] at hp
  exact .cons ((h.ev x (hc x (by simp))).strip hp.1) (qQG h r (fun y hy => hc y (by simp [hy])) hp.2)
theorem VRs.splice {P K} {cs : List V} {us : List Value} (h : VRs P w K S G cs us) {v : List V} {x : List Value} (hv : VRs P w K S G v x) (o : Nat) : VRs P w K S G (cs.take o ++ v ++ cs.drop (o + v.length)) (us.take o ++ x ++ us.drop (o + v.length)) :=
 ((h.take o).append hv).append (h.drop _)
theorem qsC {P K} {v : V} {u : Value} {vc : List V} (h : VR P w K S G v u) (hv : cellsOf v = some vc) : VRs P w K S G vc u.cells.toList := by
 have one : ∀ {x : Value}, x.oneCell' = true → x.cells.toList = [x] := by
  intro x hx
  cases x <;> simp_all [Value.cells, Value.oneCell']
 cases h with
 | t hx _ =>
  simp only [cellsOf, Option.some.injEq] at hv
  subst hv
  rw [one (hx.one u (by simp))]
  exact .t hx .nil
 | rf hid hu h1 h =>
  simp only [cellsOf, Option.some.injEq] at hv
  subst hv
  rw [one h1]
  exact .rf hid hu h1 .nil
 | sb hid h0 h1 hn hm hc hA hb h => simp only [cellsOf, Option.some.injEq] at hv; subst hv; exact .sb hid h0 h1 hn hm hc hA hb .nil
 | np hid hi r0 u0 hk hj hr hl hu hsl h =>
  simp only [cellsOf, Option.some.injEq] at hv
  subst hv
  obtain ⟨A, c, rfl⟩ := hsl
  exact .np hid hi r0 u0 hk hj hr hl hu ⟨A, c, rfl⟩ .nil
 | pt hid hi hg h => simp only [cellsOf, Option.some.injEq] at hv; subst hv; exact .pt hid hi hg .nil
 | ag hc h => simp only [cellsOf, Option.some.injEq] at hv; subst hv; simpa [Value.cells] using hc
 | fn hc h => simp only [cellsOf, Option.some.injEq] at hv; subst hv; exact .fn hc .nil
 | tu _ _ => simp [cellsOf] at hv
 | cd0 _ => simp [cellsOf] at hv
 | cd1 _ _ => simp [cellsOf] at hv
 | uu _ => simp [cellsOf] at hv
 | hl _ _ _ _ _ _ _ _ => simp [cellsOf] at hv
theorem qwH {α : Type} : ∀ (v : List α) (cs : Array α) (o k : Nat), o + k + v.length ≤ cs.size →
  ((v.zipIdx k).foldl (fun (cs : Array α) (c : α × Nat) => cs.setIfInBounds (o + c.2) c.1) cs).toList = cs.toList.take (o + k) ++ v ++ cs.toList.drop (o + k + v.length)
 | [], cs, o, k, _ => by simp
 | x :: v, cs, o, k, h => by
  simp only [List.length_cons] at h
  rw [List.zipIdx_cons, List.foldl_cons, qwH v _ o (k + 1) (by simp; omega)]
  simp only [Array.toList_setIfInBounds, List.length_cons]
  have hk : o + k < cs.toList.length := by simp; omega
  have h1 : (cs.toList.set (o + k) x).take (o + (k + 1)) = cs.toList.take (o + k) ++ [x] := by
   rw [List.set_eq_take_append_cons_drop, if_pos hk, ← Nat.add_assoc, List.take_append, List.length_take, Nat.min_eq_left (Nat.le_of_lt hk), List.take_of_length_le (by rw [List.length_take]; omega)]
   simp
  have h2 : (cs.toList.set (o + k) x).drop (o + (k + 1) + v.length) = cs.toList.drop (o + k + (v.length + 1)) := by
   rw [List.drop_set_of_lt (by omega)]
   congr 1
   omega
  rw [h1, h2]
  simp
theorem qnE (h : Rel0 F σ a w S G φ) {fs : List (Nat × Nat)} : ∀ (ps : List (Nat × Operand)) (cs cs' : List V) (us : Array Value) (pp : List Prop), fillParts σ.env fs ps cs = some (pp, cs') → AllP pp → (∀ p ∈ ps, ∀ v, p.2 = .const v → v.oneCell' = true) → VRs F.P w F.K S G cs us.toList →
  ∃ us', Instr.fill (fun i => fs[i]?) us (ps.map fun (i, x) => (i, a.eval x)) = some us' ∧ VRs F.P w F.K S G cs' us'.toList
 | [], cs, cs', us, pp, hf, _, _, hv => by
  simp only [fillParts, Option.some.injEq, Prod.mk.injEq] at hf
  obtain ⟨_, rfl⟩ := hf
  exact ⟨us, rfl, hv⟩
 | (i, x) :: r, cs, cs', us, pp, hf, hp, hc, hv => by
  simp only [fillParts] at hf
  split at hf
  · simp at hf
  rename_i o sz hn
  split at hf
  · simp at hf
  rename_i vc hvc
  split at hf
  ·
   rename_i hb1 hb2
   split at hf
   · simp at hf
   rename_i ps' cs'' hrec
   simp only [Option.some.injEq, Prod.mk.injEq] at hf
   obtain ⟨rfl, rfl⟩ := hf
   rw [qI] at hp
   have hx := (h.ev x (hc (i, x) (by simp))).strip hp.1
   have hcs := qsC hx hvc
   have hlen := hcs.len
   have e1 : vc.length = sz := by rw [← quB]; exact nq_eq hb1
   have e2 : o + sz ≤ cs.length := by rw [← quB]; exact nl_le hb2
   have hl := hv.len
   have e3 : (a.eval x).cells.size = sz := by rw [← Array.length_toList, hlen, e1]
   have hsp := hv.splice hcs o
   rw [qED, qXD, ← e1] at hrec
   have hfs : ((a.eval x).cells.zipIdx.foldl (fun cs (c, j) => cs.setIfInBounds (o + j) c) us).toList = us.toList.take o ++ (a.eval x).cells.toList ++ us.toList.drop (o + vc.length) := by
    have := qwH (a.eval x).cells.toList us o 0 (by simp only [Array.length_toList, e3]; simp at hl; omega)
    rw [hlen] at this
    simp only [Nat.add_zero] at this
    rw [← this, ← Array.foldl_toList]
    simp
   rw [← hfs] at hsp
   obtain ⟨us', hu, hv'⟩ := qnE h r _ _ _ ps' hrec hp.2 (fun p hp' => hc p (by simp [hp'])) hsp
   refine ⟨us', ?_, hv'⟩
   rw [qUL] at hn
   simp only [List.map_cons, Instr.fill, hn, e3]
   rw [if_neg (by simp at hl ⊢; omega)]
   exact hu
  simp at hf
theorem qxH {P : Program} : ∀ (fs : List Field), (∀ f ∈ fs, ∃ i, P.info? f.type = some i ∧ i.size ≠ 0) → ((fs.mapM fun f => do pure (f.offset, ← sizeOf f.type)) : Sem (List (Nat × Nat))).run P w = .ok (fs.map fun f => (f.offset, P.cellsOf f.type)) w
 | [], _ => by simp
 | f :: fs, h => by
  obtain ⟨i, hi, _⟩ := h f (by simp)
  have ih := qxH fs (fun g hg => h g (by simp [hg]))
  have hs : (sizeOf f.type).run P w = .ok (P.cellsOf f.type) w := by simp [sizeOf, typeInfo, hi, Program.cellsOf]
  simp only [List.mapM_cons, Sem.run_bind, hs, Result.andThen_ok, Sem.run_pure, ih, List.map_cons]
theorem qEN (h : Rel0 F σ a w S G φ) {t : Nat} {ty : Ty} (ht : TyOk F.P t ty) (ha : ty.agg = true) (hz : ty.zero ≠ []) {parts : Array (Nat × Operand)} {ps : List Prop} {cs : List V} (hf : fillParts σ.env ty.offs parts.toList (ty.zero.map fun z => .t (.s z)) = some (ps, cs)) (hp : AllP ps) (hc : ∀ p ∈ parts.toList, ∀ v, p.2 = .const v → v.oneCell' = true) :
  ∃ u, (Instr.build t (parts.map fun (i, x) => (i, a.eval x))).run F.P w = .ok u w ∧ VR F.P w F.K S G (.ag cs) u := by
 obtain ⟨d, hd, ha', hx⟩ := ht.desc
 obtain ⟨i, hi, _, _, hzz⟩ := ht.info
 obtain ⟨z, hz1, hz2⟩ := hzz hz
 have hzr : (zeroValue t).run F.P w = .ok z w := by simp [zeroValue, typeInfo, hi, hz1]
 have hzv : VRs F.P w F.K S G (ty.zero.map fun z => .t (.s z)) z.cells.toList := by
  rw [hz2]
  have : ∀ l : List Value, (∀ z ∈ l, z.oneCell' = true) → VRs F.P w F.K S G (l.map fun z => .t (.s z)) l := by
   intro l
   induction l with
   | nil => intro _; exact .nil
   | cons x r ih => intro hl; exact .cons (VR.s (hl x (by simp))) (ih (fun z hz => hl z (by simp [hz])))
  exact this _ ht.zero1
 obtain ⟨us', hu, hv⟩ := qnE h parts.toList _ _ z.cells ps hf hp hc hzv
 cases d with
 | struct fs =>
  obtain ⟨_, h1, h2⟩ := hx
  have hm : ((fs.mapM fun f => do pure (f.offset, ← sizeOf f.type)) : Sem (Array (Nat × Nat))).run F.P w = .ok (fs.map fun f => (f.offset, F.P.cellsOf f.type)) w := by
   have := qxH (P := F.P) (w := w) fs.toList (fun f hf => h2 f (by simpa using hf))
   rw [Array.mapM_eq_mapM_toList]
   rw [map_eq_pure_bind, Sem.run_bind, this]
   simp only [Result.andThen_ok, Sem.run_pure]
   congr 1
   apply Array.ext'
   simp
  refine ⟨.agg us', ?_, .ag hv .nil⟩
  have hpl : (fun i => (fs.map fun f => (f.offset, F.P.cellsOf f.type))[i]?) = fun i : Nat => ty.offs[i]? := by
   funext i
   rw [h1]
   simp
  simp only [Instr.build, Sem.run_bind, hzr, Result.andThen_ok, run_underlying hd, hm, hpl]
  have hpa : (parts.map fun (i, x) => (i, a.eval x)).toList = parts.toList.map fun (i, x) => (i, a.eval x) := by simp
  rw [hpa, hu]
  rfl
 | _ => simp_all
theorem qyH (h : Rel0 F σ a w S G φ) {x : Option Operand} {ps : List Prop} {n : Int} (hx : lowOf σ.env x = some (ps, n)) (hp : AllP ps) (hc : ∀ y v, x = some y → y = .const v → v.oneCell' = true) : (x = none ∧ n = 0) ∨ ∃ y k, x = some y ∧ a.eval y = .int k n := by
 cases x with
 | none => simp only [lowOf, Option.some.injEq, Prod.mk.injEq] at hx; exact .inl ⟨rfl, hx.2.symm⟩
 | some y =>
  simp only [lowOf] at hx
  split at hx
  ·
   rename_i p k n' hs
   simp only [Option.some.injEq, Prod.mk.injEq] at hx
   obtain ⟨rfl, rfl⟩ := hx
   have := (h.ev y (fun v hv => hc y v rfl hv)).strip (by rw [hs]; exact hp)
   rw [hs] at this
   exact .inr ⟨y, k, rfl, this.s_inv.1⟩
  simp at hx
theorem qsG (h : Rel0 F σ a w S G φ) {x : Option Operand} {ps : List Prop} {n d : Int} (hx : highOf σ.env x d = some (ps, n)) (hp : AllP ps) (hc : ∀ y v, x = some y → y = .const v → v.oneCell' = true) : (x = none ∧ n = d) ∨ ∃ y k, x = some y ∧ a.eval y = .int k n := by
 cases x with
 | none => simp only [highOf, Option.some.injEq, Prod.mk.injEq] at hx; exact .inl ⟨rfl, hx.2.symm⟩
 | some y =>
  simp only [highOf] at hx
  split at hx
  ·
   rename_i p k n' hs
   simp only [Option.some.injEq, Prod.mk.injEq] at hx
   obtain ⟨rfl, rfl⟩ := hx
   have := (h.ev y (fun v hv => hc y v rfl hv)).strip (by rw [hs]; exact hp)
   rw [hs] at this
   exact .inr ⟨y, k, rfl, this.s_inv.1⟩
  simp at hx
theorem qbJ {P : Program} (b : Bool) (len cap : Nat) (x y : Option Operand) (ev : Operand → Value) {l hh : Int} (hx : (x = none ∧ l = 0) ∨ ∃ z k, x = some z ∧ ev z = .int k l) (hy : (y = none ∧ hh = len) ∨ ∃ z k, y = some z ∧ ev z = .int k hh) (h0 : 0 ≤ l) (h1 : l ≤ hh) (h2 : hh ≤ len) (h3 : len ≤ cap) :
  (Instr.sliceBounds b len cap (x.map ev) (y.map ev) none).run P w = .ok (l.toNat, hh.toNat, cap) w := by
 have hb : ∀ (k : IntKind) (n : Int) (m : Nat) (c : BoundsCode), 0 ≤ n → n ≤ m → (Instr.sliceBound (.int k n) m c).run P w = .ok n.toNat w := by
  intro k n m c h0 h1
  simp [Instr.sliceBound, asIntOf, h0, h1]
 rcases hx with ⟨rfl, rfl⟩ | ⟨z, k, rfl, hz⟩ <;> rcases hy with ⟨rfl, rfl⟩ | ⟨z', k', rfl, hz'⟩
 · simp [Instr.sliceBounds]
 · simp [Instr.sliceBounds, hz', hb k' hh cap _ (by omega) (by omega)]
 · simp [Instr.sliceBounds, hz, hb k l len _ h0 h1]
 · simp [Instr.sliceBounds, hz, hz', hb k' hh cap _ (by omega) (by omega), hb k l hh.toNat _ h0 (by omega)]
theorem qoP {P : Program} {t : Nat} (ht : P.underlying t = some .string) {s : ByteArray} {x y : Option Operand} {ev : Operand → Value} {l hh : Int} (hx : (x = none ∧ l = 0) ∨ ∃ z k, x = some z ∧ ev z = .int k l) (hy : (y = none ∧ hh = Ls.sl s) ∨ ∃ z k, y = some z ∧ ev z = .int k hh) (h0 : 0 ≤ l) (h1 : l ≤ hh) (h2 : hh ≤ Ls.sl s) :
  (Instr.sliceAt t (.string s) (x.map ev) (y.map ev) none).run P w = .ok (.string (Ls.ss s l hh)) w := by
 have hb := qbJ (P := P) (w := w) false s.size s.size x y ev hx hy h0 h1 h2 (Nat.le_refl _)
 simp only [Instr.sliceAt, Sem.run_bind, run_underlying ht, Result.andThen_ok, Instr.slice, Option.isSome_none, Bool.false_eq_true, if_false, hb, Sem.run_pure]
 rfl
theorem qlH {P : Program} {t : Nat} {ty te : Ty} (ht : TyOk P t ty) (hs : ty.isS = true) (hte : TyOk P ty.elem te) {A : Option Addr} {len cap : Nat} {x y : Option Operand} {ev : Operand → Value} {l hh : Int} (hx : (x = none ∧ l = 0) ∨ ∃ z k, x = some z ∧ ev z = .int k l) (hy : (y = none ∧ hh = (len : Int)) ∨ ∃ z k, y = some z ∧ ev z = .int k hh)
  (h0 : 0 ≤ l) (h1 : l ≤ hh) (h2 : hh ≤ (len : Int)) (h3 : len ≤ cap) :
  (Instr.sliceAt t (.slice A len cap) (x.map ev) (y.map ev) none).run P w = .ok (.slice (if cap = l.toNat then A else A.map (·.add (l.toNat * te.size))) (hh.toNat - l.toNat) (cap - l.toNat)) w := by
 have hb := qbJ (P := P) (w := w) true len cap x y ev hx hy h0 h1 h2 h3
 have hd := ht.isS hs
 simp only [Instr.sliceAt, Sem.run_bind, run_underlying hd, Result.andThen_ok, Instr.slice, hb, qdD hte, Sem.run_pure]
theorem qrD {α : Type} {sz : Nat} : ∀ (rows : List (List α)) (i : Nat), (∀ r ∈ rows, r.length = sz) → (rows.take i).flatten = rows.flatten.take (i * sz)
 | rows, 0, _ => by simp
 | [], i + 1, _ => by simp
 | r :: rows, i + 1, hs => by
  have hr := hs r (by simp)
  have ih := qrD rows i (fun q hq => hs q (by simp [hq]))
  rw [List.take_succ_cons, List.flatten_cons, List.flatten_cons, ih, List.take_append, List.take_of_length_le (l := r) (by rw [hr, Nat.add_mul]; omega), hr]
  congr 2
  rw [Nat.add_mul]
  omega
theorem qsD {α : Type} {sz : Nat} : ∀ (rows : List (List α)) (i : Nat), (∀ r ∈ rows, r.length = sz) → (rows.drop i).flatten = rows.flatten.drop (i * sz)
 | rows, 0, _ => by simp
 | [], i + 1, _ => by simp
 | r :: rows, i + 1, hs => by
  have hr := hs r (by simp)
  have ih := qsD rows i (fun q hq => hs q (by simp [hq]))
  rw [List.drop_succ_cons, List.flatten_cons, ih, List.drop_append, List.drop_eq_nil_of_le (as := r) (by rw [hr, Nat.add_mul]; omega), List.nil_append, hr]
  congr 1
  rw [Nat.add_mul]
  omega
theorem qDS {P K} {t : Nat} {ty te : Ty} (ht : TyOk P t ty) (hs : ty.isS = true) (hte : TyOk P ty.elem te) {kb : Bool} {rows : Rws} {u : Value} (hv : VR P w K S G (.t (.im kb rows)) u) {x y : Option Operand} {ev : Operand → Value} {l hh : Int} (hx : (x = none ∧ l = 0) ∨ ∃ z k, x = some z ∧ ev z = .int k l) (hy : (y = none ∧ hh = Ls.ln rows) ∨ ∃ z k, y = some z ∧ ev z = .int k hh)
  (h0 : 0 ≤ l) (h1 : l ≤ hh) (h2 : hh ≤ Ls.ln rows) (hrs : ∀ r ∈ rows, r.length = te.size) :
  ∃ z, (Instr.sliceAt t u (x.map ev) (y.map ev) none).run P w = .ok z w ∧ VR P w K S G (.t (.im kb (Ls.sr rows l hh))) z := by
 have hrs' : ∀ r ∈ Ls.sr rows l hh, r.length = te.size := fun r hr => hrs r (List.mem_of_mem_take (List.mem_of_mem_drop hr))
 have hfl : ∀ {S'} {vs : List Value}, CR P w K S' rows.flatten vs no → CR P w K S' (Ls.sr rows l hh).flatten ((vs.take (hh.toNat * te.size)).drop (l.toNat * te.size)) no := by
  intro S' vs h
  have := (h.take (hh.toNat * te.size)).drop (l.toNat * te.size)
  rwa [← qrD rows hh.toNat hrs, ← qsD _ l.toNat (fun r hr => hrs r (List.mem_of_mem_take hr))] at this
 have hlen : (Ls.sr rows l hh).length = hh.toNat - l.toNat := by
  simp only [Ls] at h2
  simp only [Ls, List.length_drop, List.length_take]
  omega
 have hA' : ∀ {S' : Nat → Prop} {A : Option Addr} {n c sz : Nat} {vs : List Value}, n = rows.length → n ≤ c → (0 < n → ∃ b o, A = some ⟨b, o, none⟩ ∧ S' b ∧ ∀ j u, vs[j]? = some u → w.cell? ⟨b, o + j, none⟩ = some u) → 0 < hh.toNat - l.toNat →
   ∃ b o, (if c = l.toNat then A else A.map (·.add (l.toNat * te.size))) = some ⟨b, o, none⟩ ∧ S' b ∧ ∀ j u, ((vs.take (hh.toNat * te.size)).drop (l.toNat * te.size))[j]? = some u → w.cell? ⟨b, o + j, none⟩ = some u := by
  intro S' A n c sz vs hn hc hA hp
  simp only [Ls] at h2
  obtain ⟨b, o, rfl, hb, hcell⟩ := hA (by omega)
  refine ⟨b, o + l.toNat * te.size, ?_, hb, fun j u hu => ?_⟩
  ·
   rw [if_neg (by omega)]
   simp [Addr.add_lit]
  ·
   rw [List.getElem?_drop, List.getElem?_take] at hu
   split at hu
   ·
    rw [Nat.add_assoc]
    exact hcell _ u hu
   cases hu
 cases hv with
 | t hx' _ => cases hx' with
  | @im0 _ _ _ A n c _ _ hn hc sz hrs0 vs hA hr _ =>
   subst hn
   refine ⟨_, qlH ht hs hte hx (by simpa only [Ls] using hy) h0 h1 (by simpa only [Ls] using h2) hc, .t (.im0 hlen.symm (by simp only [Ls] at h2; omega) te.size hrs' _ (hA' (sz := sz) rfl hc hA) (hfl hr) .nil) .nil⟩
  | @im1 _ _ _ A n c _ _ hn hc sz hrs0 vs hA hr _ =>
   subst hn
   refine ⟨_, qlH ht hs hte hx (by simpa only [Ls] using hy) h0 h1 (by simpa only [Ls] using h2) hc, .t (.im1 hlen.symm (by simp only [Ls] at h2; omega) te.size hrs' _ (hA' (sz := sz) rfl hc hA) (hfl hr) .nil) .nil⟩
theorem qES (h : Rel0 F σ a w S G φ) {t : Nat} {ty te : Ty} (ht : TyOk F.P t ty) (hs : ty.isS = true) (hte : TyOk F.P ty.elem te) {id ver e sz : Nat} {rows : Rws} (ho : look .dead σ.objs id = .row ver e sz rows) (hsz : sz = te.size) {u : Value} (hv : VR F.P w F.K S G (.rf id) u) {x y : Option Operand} {ev : Operand → Value} {l hh : Int} (hx : (x = none ∧ l = 0) ∨ ∃ z k, x = some z ∧ ev z = .int k l) (hy : (y = none ∧ hh = Ls.ln rows) ∨ ∃ z k, y = some z ∧ ev z = .int k hh)
  (h0 : 0 ≤ l) (h1 : l ≤ hh) (h2 : hh ≤ Ls.ln rows) :
  ∃ z, (Instr.sliceAt t u (x.map ev) (y.map ev) none).run F.P w = .ok z w ∧ VR F.P w F.K S G (.sb id l hh) z := by
 obtain ⟨hid, _, hGs, us, hk, hrs, hown, ψ, _, _, hcr⟩ := h.row ho
 cases hv with
 | rf hid' hu _ _ =>
  subst hu
  simp only [Ls] at h2 hy
  rcases hown.2 with ⟨hβ, hn⟩ | ⟨g, cap, cur, hβ, _, hh', hnc, hcm, _⟩
  ·
   rw [hβ]
   refine ⟨_, qlH (len := 0) ht hs hte hx (by rw [hn] at hy; simpa using hy) h0 h1 (by omega) (Nat.le_refl _), ?_⟩
   refine .sb hid h0 h1 (by omega) (by simp only [maxLen]; omega) (by omega) (fun hp => absurd hp (by omega)) ⟨_, _, _, hβ, by omega, by omega, fun e => by subst e; rfl⟩ .nil
  rw [hβ]
  refine ⟨_, qlH ht hs hte hx hy h0 h1 h2 hnc, ?_⟩
  refine .sb hid h0 h1 (by omega) (by simp only [maxLen] at hcm ⊢; omega) (by omega) (fun hp => ⟨g, by rw [hβ]; rfl, ?_⟩) ⟨_, _, _, hβ, by omega, by omega, fun e => by subst e; simp [Addr.add_lit]⟩ .nil
  rw [if_neg (by omega), hGs, hsz]
  simp [Addr.add_lit]
end Go.Proofs.YtcpekllcbimpmaaGreatDoor.L
namespace Go.Proofs.YtcpekllcbimpmaaGreatDoor.L
set_option linter.unusedVariables false
set_option linter.unusedSimpArgs false
open Go
variable {F : Fr} {σ : St} {a : Act} {w : World} {S : Nat → Prop} {G : Gh} {φ : Nat → Nat → Prop} {tab : List (Nat × Ty)}
theorem qGB {a b : Nat} (h : nq a b = true) : a = b := nq_eq h
theorem qNC {a b : Nat} (h : nl a b = true) : a ≤ b := nl_le h
theorem got (hr : Rel0 F σ a w S G φ) {x : Operand} (hc : ∀ v, x = .const v → v.oneCell' = true) {p : List Prop} {v : V} (h : strip (ev σ.env x) = (p, v)) (hp : AllP p) : VR F.P w F.K S G v (a.eval x) := by
 have := (hr.ev x hc).strip (by rw [h]; exact hp)
 rwa [h] at this
theorem qFN (hr : Rel0 F σ a w S G φ) {c x y : Operand} (hc : ∀ z, z = c ∨ z = x ∨ z = y → ∀ v, z = .const v → v.oneCell' = true) {ps : List Prop} {v : V} {b : Bool} (h : qPick Ls σ.env c x y = some (ps, v, b)) (hp : AllP ps) :
  ∃ cb, a.eval c = .bool cb ∧ VR F.P w F.K S G v (if cb then a.eval x else a.eval y) := by
 unfold qPick at h
 split at h
 ·
  rename_i pc cb hcs
  split at h
  rename_i pa va pb vb hxs hys
  split at h
  ·
   rename_i v' hpv
   simp only [Option.some.injEq, Prod.mk.injEq] at h
   obtain ⟨rfl, rfl, _⟩ := h
   rw [qI] at hp
   obtain ⟨hp1, hp2, hp3, _⟩ := hp
   have h1 := (got hr (hc c (by simp)) hcs hp1).s_inv.1
   refine ⟨cb, h1, qDN hpv (fun e => got hr (hc x (by simp)) hxs (hp2 e)) (fun e => got hr (hc y (by simp)) hys (hp3 e))⟩
  · simp at h
 · simp at h
theorem noGuard {u v : Value} (hn : ¬ (u = .nilIface ∧ v = .nilIface)) (h1 : u.oneCell' = true) : (match (generalizing := false) u, v with | .nilIface, .nilIface => False | .agg _, .agg _ => False | _, _ => True) := by
 split
 · exact hn ⟨rfl, rfl⟩
 · simp [Value.oneCell'] at h1
 trivial
theorem qDK {P : Program} {o : BinOp} {xt : Nat} {x y : Operand} (hcy : constB y = true) : (eqGuard o xt x y .nilIface .nilIface).run P w = .ok () w := by
 cases y <;> simp [constB] at hcy
 unfold eqGuard
 by_cases ho : (o matches .eql | .neq) = true <;> simp
theorem qFS {o : BinOp} {x y v : Value} {ps : List Prop} (hb : binV Ls o x y = some (ps, v)) : v.oneCell' = true := by
 unfold binV at hb
 split at hb <;> simp only [Option.some.injEq, Prod.mk.injEq, reduceCtorEq] at hb <;> obtain ⟨_, rfl⟩ := hb <;> rfl
theorem quO (hr : Rel0 F σ a w S G φ) (ht : TabOk F.P tab) {o : BinOp} {xt : Nat} {x y : Operand} (hc : ∀ z, z = x ∨ z = y → ∀ v, z = .const v → v.oneCell' = true) {ps : List Prop} {v : V} {b : Bool} (h : qBin Ls tab σ.env o xt x y = some (ps, v, b)) (hp : AllP ps) :
  ∃ u, (do eqGuard o xt x y (a.eval x) (a.eval y); binOp o xt (a.eval x) (a.eval y) : Sem Value).run F.P w = .ok u w ∧ VR F.P w F.K S G v u := by
 unfold qBin at h
 split at h
 ·
  rename_i px vx py vy hxs hys
  split at h
  ·
   rename_i p v' hb hk
   simp only [Option.some.injEq, Prod.mk.injEq] at h
   obtain ⟨rfl, rfl, _⟩ := h
   rw [qI, qI] at hp
   obtain ⟨e1, o1⟩ := (got hr (hc x (by simp)) hxs hp.1.1).s_inv
   obtain ⟨e2, o2⟩ := (got hr (hc y (by simp)) hys hp.1.2).s_inv
   have hB : ∀ a b, vx = .bool a → vy = .bool b → F.P.underlying xt = some .bool := by
    rintro a b rfl rfl
    simp only [okBin] at hk
    split at hk
    · rename_i ty hty; exact (ht _ _ hty).isB hk
    simp at hk
   have hI : vx = .nilIface → vy = .nilIface → (∃ ms, F.P.underlying xt = some (.interface ms)) ∧ constB y = true := by
    rintro rfl rfl
    simp only [okBin] at hk
    split at hk
    ·
     rename_i ty hty
     split at hk
     · rename_i hi; exact ⟨(ht _ _ hty).isI hi, hk⟩
     simp at hk
    simp at hk
   have hbs := qYJ (P := F.P) (w := w) xt hb hp.2 hB (fun e e' => (hI e e').1)
   have hg : (eqGuard o xt x y vx vy).run F.P w = .ok () w := by
    by_cases hn : vx = .nilIface ∧ vy = .nilIface
    ·
     obtain ⟨rfl, rfl⟩ := hn
     exact qDK (hI rfl rfl).2
    exact qWD o xt x y vx vy (noGuard hn o1)
   refine ⟨v', ?_, VR.s (qFS hb)⟩
   simp only [e1, e2, Sem.run_bind, hg, Result.andThen_ok, hbs]
  · simp at h
 ·
  rename_i px py hxs hys
  split at h
  ·
   rename_i ty hty
   have key : AllP (px ++ py) → ty.isI = true → ∃ t x', a.eval x = .iface t x' ∧ a.eval y = .nilIface ∧ ∃ ms, F.P.underlying xt = some (.interface ms) := by
    intro hp hi
    rw [qI] at hp
    have h1 := got hr (hc x (by simp)) hxs hp.1
    have h2 := (got hr (hc y (by simp)) hys hp.2).s_inv.1
    have hi' := (ht _ _ hty).isI hi
    generalize a.eval x = ux at h1
    cases h1 with
    | t hx' _ => cases hx' with
     | er _ => exact ⟨_, _, rfl, h2, hi'⟩
   split at h
   ·
    rename_i hi
    simp only [Option.some.injEq, Prod.mk.injEq] at h
    obtain ⟨rfl, rfl, _⟩ := h
    obtain ⟨t, x', e1, e2, ms, hm⟩ := key hp hi
    refine ⟨.bool true, ?_, VR.s rfl⟩
    have hg := qWD (P := F.P) (w := w) .neq xt x y (.iface t x') .nilIface (by simp)
    simp only [e1, e2, Sem.run_bind, hg, Result.andThen_ok, binOp, qJO hm, Sem.run_pure]
    rfl
   ·
    rename_i hi
    simp only [Option.some.injEq, Prod.mk.injEq] at h
    obtain ⟨rfl, rfl, _⟩ := h
    obtain ⟨t, x', e1, e2, ms, hm⟩ := key hp hi
    refine ⟨.bool false, ?_, VR.s rfl⟩
    have hg := qWD (P := F.P) (w := w) .eql xt x y (.iface t x') .nilIface (by simp)
    simp only [e1, e2, Sem.run_bind, hg, Result.andThen_ok, binOp, qJO hm, Sem.run_pure]
   simp at h
  · simp at h
 · simp at h
theorem qFH {P : Program} {K : Nat → Prop} : ∀ {ks : List IntKind} {xs ys : List V} {ux uy : List Value} {ps : List Prop} {b : Bool}, eqInts Ls ks xs ys = some (ps, b) → AllP ps → VRs P w K S G xs ux → VRs P w K S G ys uy →
  ∃ ns ms : List Int, ns.length = ks.length ∧ ms.length = ks.length ∧ ux = List.zipWith Value.int ks ns ∧ uy = List.zipWith Value.int ks ms ∧ b = decide (ns = ms)
 | [], [], [], ux, uy, ps, b, h, hp, hx, hy => by
  simp only [eqInts, Option.some.injEq, Prod.mk.injEq] at h
  cases hx
  cases hy
  exact ⟨[], [], rfl, rfl, rfl, rfl, by simp [h.2]⟩
 | k :: ks, x :: xs, y :: ys, ux, uy, ps, b, h, hp, hx, hy => by
  unfold eqInts at h
  split at h
  · rename_i heq _ _; simp at heq
  ·
   rename_i k' ks' k1 x r k2 y r' hk hx' hy'
   simp only [List.cons.injEq] at hk hx' hy'
   obtain ⟨rfl, rfl⟩ := hk
   obtain ⟨rfl, rfl⟩ := hx'
   obtain ⟨rfl, rfl⟩ := hy'
   split at h
   ·
    rename_i ps' b' hrec
    simp only [Option.some.injEq, Prod.mk.injEq] at h
    obtain ⟨rfl, rfl⟩ := h
    obtain ⟨rfl, rfl, hp⟩ := hp
    obtain ⟨u, us, rfl, h1, h2⟩ := hx.uncons
    obtain ⟨v, vs, rfl, h3, h4⟩ := hy.uncons
    obtain ⟨ns, ms, e1, e2, e3, e4, e5⟩ := qFH hrec hp h2 h4
    refine ⟨x :: ns, y :: ms, by simp [e1], by simp [e2], by rw [h1.s_inv.1, e3]; rfl, by rw [h3.s_inv.1, e4]; rfl, ?_⟩
    rw [e5]
    by_cases hxy : x = y <;> simp [Ls, hxy]
   simp at h
  · simp at h
 | [], _ :: _, _, _, _, _, _, h, _, _, _ => by simp [eqInts] at h
 | [], [], _ :: _, _, _, _, _, h, _, _, _ => by simp [eqInts] at h
 | _ :: _, [], _, _, _, _, _, h, _, _, _ => by simp [eqInts] at h
 | _ :: _, _ :: _, [], _, _, _, _, h, _, _, _ => by simp [eqInts] at h
theorem qvO (hr : Rel0 F σ a w S G φ) (ht : TabOk F.P tab) {o : BinOp} {xt : Nat} {x y : Operand} (hc : ∀ z, z = x ∨ z = y → ∀ v, z = .const v → v.oneCell' = true) {ps : List Prop} {v : V} {b : Bool} (h : qEqA Ls tab σ.env o xt x y = some (ps, v, b)) (hp : AllP ps) :
  ∃ u, (do eqGuard o xt x y (a.eval x) (a.eval y); binOp o xt (a.eval x) (a.eval y) : Sem Value).run F.P w = .ok u w ∧ VR F.P w F.K S G v u := by
 unfold qEqA at h
 split at h
 ·
  rename_i px xs py ys ty hxs hys hty
  split at h
  ·
   rename_i ks hks
   obtain ⟨hg, he⟩ := (ht _ _ hty).eqI ks hks
   have key : ∀ {ps' : List Prop} {b' : Bool}, eqInts Ls ks xs ys = some (ps', b') → AllP (px ++ py ++ ps') → ∃ ux uy, a.eval x = .agg ux ∧ a.eval y = .agg uy ∧ (Op.equal xt (.agg ux) (.agg uy)).run F.P w = .ok b' w := by
    intro ps' b' hb hp
    rw [qI, qI] at hp
    have h1 := got hr (hc x (by simp)) hxs hp.1.1
    have h2 := got hr (hc y (by simp)) hys hp.1.2
    generalize a.eval x = ux at *
    generalize a.eval y = uy at *
    cases h1 with
    | ag h1 _ =>
     cases h2 with
     | ag h2 _ =>
      obtain ⟨ns, ms, e1, e2, rfl, rfl, rfl⟩ := qFH hb hp.2 h1 h2
      exact ⟨_, _, rfl, rfl, he w ns ms e1 e2⟩
   have hgd : ∀ {ux uy : Array Value}, (eqGuard o xt x y (.agg ux) (.agg uy)).run F.P w = .ok () w := by
    intro ux uy
    unfold eqGuard
    cases o <;> simp [hg]
   split at h
   ·
    rename_i ps' b' hb
    simp only [Option.some.injEq, Prod.mk.injEq] at h
    obtain ⟨rfl, rfl, _⟩ := h
    obtain ⟨ux, uy, e1, e2, e3⟩ := key hb hp
    refine ⟨.bool b', ?_, VR.s rfl⟩
    rw [e1, e2]
    simp only [Sem.run_bind, hgd, Result.andThen_ok, binOp, e3, Sem.run_pure]
   ·
    rename_i ps' b' hb
    simp only [Option.some.injEq, Prod.mk.injEq] at h
    obtain ⟨rfl, rfl, _⟩ := h
    obtain ⟨ux, uy, e1, e2, e3⟩ := key hb hp
    refine ⟨.bool (!b'), ?_, ?_⟩
    ·
     rw [e1, e2]
     simp only [Sem.run_bind, hgd, Result.andThen_ok, binOp, e3, Sem.run_pure]
    have : Ls.bo b' false true = !b' := by cases b' <;> rfl
    rw [this]
    exact VR.s rfl
   simp at h
  · simp at h
 · simp at h
theorem qpP (hr : Rel0 F σ a w S G φ) {o : UnOp} {x : Operand} (hc : ∀ v, x = .const v → v.oneCell' = true) {ps : List Prop} {v : V} {b : Bool} (h : qUn Ls σ.env o x = some (ps, v, b)) (hp : AllP ps) :
  ∃ u, (Op.unary o (a.eval x)).run F.P w = .ok u w ∧ VR F.P w F.K S G v u := by
 unfold qUn at h
 split at h
 ·
  rename_i px vx hxs
  split at h
  ·
   rename_i v' hu
   simp only [Option.some.injEq, Prod.mk.injEq] at h
   obtain ⟨rfl, rfl, _⟩ := h
   have e := (got hr hc hxs hp).s_inv.1
   refine ⟨v', by rw [e]; exact qkP hu, VR.s ?_⟩
   unfold unV at hu
   split at hu <;> simp only [Option.some.injEq, reduceCtorEq] at hu <;> subst hu <;> rfl
  · simp at h
 · simp at h
theorem qVL (hr : Rel0 F σ a w S G φ) (ht : TabOk F.P tab) {t f : Nat} {x : Operand} (hc : ∀ v, x = .const v → v.oneCell' = true) {ps : List Prop} {v : V} {b : Bool} (h : qField tab σ.env t x f = some (ps, v, b)) (hp : AllP ps) :
  ∃ u, (Instr.fieldAt t (a.eval x) f).run F.P w = .ok u w ∧ VR F.P w F.K S G v u := by
 unfold qField at h
 split at h
 ·
  rename_i ty hty
  split at h
  ·
   rename_i o z ha hn
   split at h
   ·
    rename_i px id i j hxs
    simp only [Option.some.injEq, Prod.mk.injEq] at h
    obtain ⟨rfl, rfl, _⟩ := h
    have hv := got hr hc hxs hp
    generalize a.eval x = ux at hv
    cases hv with
    | pt hid hi hg _ => exact ⟨_, qvH (ht _ _ hty) ha hn, by rw [Nat.add_assoc]; exact .pt hid hi hg .nil⟩
   ·
    rename_i px cs hxs
    split at h
    ·
     rename_i hle
     simp only [Option.some.injEq, Prod.mk.injEq] at h
     obtain ⟨rfl, rfl, _⟩ := h
     have hv := got hr hc hxs hp
     generalize a.eval x = ux at hv
     obtain ⟨b', o', vs, rfl, hS, hA, hcr⟩ := hv.ip_inv
     refine ⟨_, qvH (ht _ _ hty) ha hn, ?_⟩
     rw [qXD]
     refine VR.ip_mk (fun hp => hS (by rw [List.length_drop] at hp; omega)) (fun j u hu => ?_) (hcr.drop o)
     rw [List.getElem?_drop] at hu
     rw [Nat.add_assoc]
     exact hA _ u hu
    simp at h
   simp at h
  · simp at h
 · simp at h
theorem qGN (hr : Rel0 F σ a w S G φ) (ht : TabOk F.P tab) {t : Nat} {x : Operand} {sup : Option Sup} (hc : ∀ v, x = .const v → v.oneCell' = true) {ps : List Prop} {v : V} {b : Bool} (h : qLoad Ls tab σ t x sup = some (ps, v, b)) (hp : AllP ps) :
  ∃ u, (Instr.loadAt t (a.eval x)).run F.P w = .ok u w ∧ VR F.P w F.K S G v u := by
 unfold qLoad at h
 split at h
 ·
  rename_i ty hty
  split at h
  ·
   rename_i px cs hxs
   split at h
   ·
    rename_i v' hle hf
    simp only [Option.some.injEq, Prod.mk.injEq] at h
    obtain ⟨rfl, rfl, _⟩ := h
    rw [qED] at hf
    exact qYT (ht _ _ hty) (got hr hc hxs hp) (by rw [← quB]; exact qNC hle) hf
   simp at h
  ·
   rename_i px id i j hxs
   split at h
   ·
    rename_i e cs ho
    split at h
    ·
     rename_i v' hle hf
     simp only [Option.some.injEq, Prod.mk.injEq] at h
     obtain ⟨rfl, rfl, _⟩ := h
     rw [qI] at hp
     obtain ⟨hp, rfl, _⟩ := hp
     rw [qED, qXD] at hf
     exact qKO hr (ht _ _ hty) ho (got hr hc hxs hp) (by rw [← quB]; exact qNC hle) hf
    simp at h
   ·
    rename_i ver e sz rows ho
    split at h
    ·
     rename_i es
     split at h
     ·
      rename_i cs hle hcs
      split at h
      ·
       rename_i v' hf
       simp only [Option.some.injEq, Prod.mk.injEq] at h
       obtain ⟨rfl, rfl, _⟩ := h
       rw [qI] at hp
       obtain ⟨hp, h0, h1, h2, _⟩ := hp
       rw [qED, qXD] at hcs
       exact qBS hr (ht _ _ hty) ho (got hr hc hxs hp) (qNC hle) h0 h1 h2 hcs hf
      simp at h
     simp at h
    simp at h
   simp at h
  · simp at h
 · simp at h
theorem qtG {P : Program} (ht : TabOk P tab) {t : Nat} {te : Ty} (h : elTy tab t = some te) : ∃ ty, TyOk P t ty ∧ ty.isS = true ∧ TyOk P ty.elem te := by
 unfold elTy at h
 split at h
 ·
  rename_i ty hty
  split at h
  · rename_i hs; exact ⟨ty, ht _ _ hty, hs, ht _ _ h⟩
  simp at h
 simp at h
theorem qEK (hr : Rel0 F σ a w S G φ) (ht : TabOk F.P tab) {t : Nat} {x i : Operand} {sup : Option Sup} (hc : ∀ z, z = x ∨ z = i → ∀ v, z = .const v → v.oneCell' = true) {ps : List Prop} {v : V} {b : Bool} (h : qIndexA Ls tab σ t x i sup = some (ps, v, b)) (hp : AllP ps) :
  ∃ u, (Instr.indexAt t (a.eval x) (a.eval i)).run F.P w = .ok u w ∧ VR F.P w F.K S G v u := by
 unfold qIndexA at h
 split at h
 ·
  rename_i te pi k n hel his
  obtain ⟨ty, h1, h2, h3⟩ := qtG ht hel
  split at h
  ·
   rename_i px kb rows hxs
   split at h
   ·
    rename_i es
    split at h
    ·
     rename_i hb
     simp only [Option.some.injEq, Prod.mk.injEq] at h
     obtain ⟨rfl, rfl, _⟩ := h
     rw [qI, qI] at hp
     obtain ⟨⟨hpx, hpi⟩, a0, a1, a2, _⟩ := hp
     rw [(got hr (hc i (by simp)) his hpi).s_inv.1]
     exact qmP h1 h2 h3 hr.KS (got hr (hc x (by simp)) hxs hpx) (by rw [← quB]; exact qGB hb) a0 a1 a2
    simp at h
   simp at h
  ·
   rename_i px id hxs
   split at h
   ·
    rename_i ver e sz rows ho
    split at h
    ·
     rename_i hb
     simp only [Option.some.injEq, Prod.mk.injEq] at h
     obtain ⟨rfl, rfl, _⟩ := h
     rw [qI, qI] at hp
     obtain ⟨⟨hpx, hpi⟩, a0, a1, _⟩ := hp
     rw [(got hr (hc i (by simp)) his hpi).s_inv.1]
     exact qCS hr h1 h2 h3 ho (qGB hb) (got hr (hc x (by simp)) hxs hpx) a0 a1
    simp at h
   simp at h
  · simp at h
 · simp at h
theorem qWL (hr : Rel0 F σ a w S G φ) (ht : TabOk F.P tab) {t : Nat} {x i : Operand} (hc : ∀ z, z = x ∨ z = i → ∀ v, z = .const v → v.oneCell' = true) {ps : List Prop} {v : V} {b : Bool} (h : qIndex Ls tab σ.env t x i = some (ps, v, b)) (hp : AllP ps) :
  ∃ u, (Instr.index t (a.eval x) (a.eval i)).run F.P w = .ok u w ∧ VR F.P w F.K S G v u := by
 unfold qIndex at h
 split at h
 ·
  rename_i ty hty
  split at h
  ·
   rename_i pi k n px s hT his hxs
   simp only [Option.some.injEq, Prod.mk.injEq] at h
   obtain ⟨rfl, rfl, _⟩ := h
   rw [qI, qI] at hp
   obtain ⟨⟨hpx, hpi⟩, a0, a1, _⟩ := hp
   rw [(got hr (hc i (by simp)) his hpi).s_inv.1, (got hr (hc x (by simp)) hxs hpx).s_inv.1]
   exact ⟨_, qnP ((ht _ _ hty).isT hT) a0 a1, VR.s rfl⟩
  · simp at h
 · simp at h
theorem qDJ (hr : Rel0 F σ a w S G φ) {x : Operand} {k : Nat} (hc : ∀ v, x = .const v → v.oneCell' = true) {ps : List Prop} {v : V} {b : Bool} (h : qExtract σ.env x k = some (ps, v, b)) (hp : AllP ps) :
  ∃ u, (Instr.extract (a.eval x) k).run F.P w = .ok u w ∧ VR F.P w F.K S G v u := by
 unfold qExtract at h
 split at h
 ·
  rename_i px cs hxs
  split at h
  ·
   rename_i v' hn
   simp only [Option.some.injEq, Prod.mk.injEq] at h
   obtain ⟨rfl, rfl, _⟩ := h
   have hv := got hr hc hxs hp
   generalize a.eval x = ux at hv
   cases hv with
   | tu hcs _ =>
    rw [qUL] at hn
    obtain ⟨u, hu, hv⟩ := hcs.nth hn
    exact ⟨u, by simp [Instr.extract, hu], hv⟩
  · simp at h
 · simp at h
theorem qHN (hr : Rel0 F σ a w S G φ) {fn : Fn} {first caps : Array Operand} (hc : ∀ z ∈ caps.toList, ∀ v, z = .const v → v.oneCell' = true) {ps : List Prop} {v : V} {b : Bool} (h : qFunc σ.env fn first.toList caps.toList = some (ps, v, b)) (hp : AllP ps) :
  ∃ u, (Instr.makeFunc fn (first.map a.eval) (caps.map a.eval)).run F.P w = .ok u w ∧ VR F.P w F.K S G v u := by
 unfold qFunc at h
 split at h
 ·
  rename_i f hfirst
  simp only [Option.some.injEq, Prod.mk.injEq] at h
  obtain ⟨rfl, rfl, _⟩ := h
  have hv := qQG hr caps.toList hc hp
  refine ⟨_, rfl, ?_⟩
  have e1 : first.map a.eval = #[] := by
   have : first = #[] := by simpa using hfirst
   rw [this]; simp
  have e2 : caps.map a.eval = (caps.toList.map a.eval).toArray := by
   apply Array.ext'
   simp
  rw [e1, e2]
  exact .fn hv .nil
 · simp at h
theorem qwO (hr : Rel0 F σ a w S G φ) {x : Operand} (hc : ∀ v, x = .const v → v.oneCell' = true) {ps : List Prop} {v : V} {b : Bool} (h : qNil σ.env x = some (ps, v, b)) (hp : AllP ps) :
  (∃ A, a.eval x = .pointer (some A)) ∧ VR F.P w F.K S G v (a.eval x) := by
 unfold qNil at h
 split at h
 ·
  rename_i px id i j hxs
  simp only [Option.some.injEq, Prod.mk.injEq] at h
  obtain ⟨rfl, rfl, _⟩ := h
  have hv := got hr hc hxs hp
  refine ⟨?_, hv⟩
  generalize a.eval x = ux at hv
  cases hv with
  | pt _ _ _ _ => exact ⟨_, rfl⟩
 ·
  rename_i px cs hxs
  simp only [Option.some.injEq, Prod.mk.injEq] at h
  obtain ⟨rfl, rfl, _⟩ := h
  have hv := got hr hc hxs hp
  refine ⟨?_, hv⟩
  obtain ⟨_, _, _, e, _⟩ := hv.ip_inv
  exact ⟨_, e⟩
 · simp at h
theorem qxO (hr : Rel0 F σ a w S G φ) (ht : TabOk F.P tab) {args : Array Operand} {ts : Array Nat} (hc : ∀ z ∈ args.toList, ∀ v, z = .const v → v.oneCell' = true) {ty0 : Nat} {ps : List Prop} {v : V} {b : Bool} (h : qLen Ls tab σ args.toList ts.toList = some (ps, v, b)) (hp : AllP ps) :
  ∃ u, (Builtin.len_ ts ty0 (args.map a.eval)).run F.P w = .ok u w ∧ VR F.P w F.K S G v u := by
 unfold qLen at h
 split at h
 ·
  rename_i x t ha hts
  have ea : args = #[x] := by rw [← Array.toList_inj]; exact ha
  have et : ts = #[t] := by rw [← Array.toList_inj]; exact hts
  subst ea et
  split at h
  ·
   rename_i ty px v' hty hxs
   split at h
   ·
    rename_i n hl hS
    split at h
    · simp at h
    rename_i hns
    simp only [Option.some.injEq, Prod.mk.injEq] at h
    obtain ⟨rfl, rfl, _⟩ := h
    have hv := got hr (hc x (by simp)) hxs hp
    have hd := (ht _ _ hty).isS hS
    rcases qaJ hr hv hl with ⟨A, c, e, h0⟩ | ⟨s, e, _, e'⟩
    ·
     refine ⟨.int .i64 n, ?_, VR.s rfl⟩
     simp only [List.map_toArray, List.map_cons, List.map_nil, e]
     simp [Builtin.len_, run_underlying hd, goInt]
     omega
    exact (hns s e').elim
   ·
    rename_i n hl hS hT
    split at h
    ·
     rename_i s hl'
     simp only [Option.some.injEq, Prod.mk.injEq] at h
     obtain ⟨rfl, rfl, _⟩ := h
     have hv := got hr (hc x (by simp)) hxs hp
     have hd := (ht _ _ hty).isT hT
     rcases qaJ hr hv hl with ⟨A, c, e, h0⟩ | ⟨s', e, e2, e'⟩
     ·
      have := hv.s_inv.1
      rw [e] at this
      cases this
     refine ⟨.int .i64 n, ?_, VR.s rfl⟩
     simp only [List.map_toArray, List.map_cons, List.map_nil, e]
     simp [Builtin.len_, run_underlying hd, goInt, e2]
    simp at h
   simp at h
  · simp at h
 · simp at h
theorem qIN (hr : Rel0 F σ a w S G φ) (ht : TabOk F.P tab) {src dst : Nat} {x : Operand} (hc : ∀ v, x = .const v → v.oneCell' = true) {ps : List Prop} {v : V} {b : Bool} (h : qConv Ls tab σ.env src dst x = some (ps, v, b)) (hp : AllP ps) :
  ∃ u, (convert src dst (a.eval x)).run F.P w = .ok u w ∧ VR F.P w F.K S G v u := by
 unfold qConv at h
 split at h
 ·
  rename_i ts ty hts hty
  split at h
  ·
   rename_i ks k px k' n hks hk hxs
   simp only [Option.some.injEq, Prod.mk.injEq] at h
   obtain ⟨rfl, rfl, _⟩ := h
   rw [(got hr hc hxs hp).s_inv.1]
   have hint : ∀ {t ty k}, TyOk F.P t ty → ty.ik = some k → F.P.underlying t = some (.int k) := by
    intro t ty k h1 h2
    obtain ⟨d, hd, _, hx⟩ := h1.desc
    cases d <;> simp_all
   have d1 := hint (ht _ _ hts) hks
   have d2 := hint (ht _ _ hty) hk
   refine ⟨.int k (k.wrap n), ?_, VR.s rfl⟩
   simp [convert, run_underlying d1, run_underlying d2, Conv.intToInt]
  · simp at h
 · simp at h
theorem qXL (hr : Rel0 F σ a w S G φ) (ht : TabOk F.P tab) {t : Nat} {parts : Array (Nat × Operand)} (hc : ∀ p ∈ parts.toList, ∀ v, p.2 = .const v → v.oneCell' = true) {ps : List Prop} {v : V} {b : Bool} (h : qBuild tab σ.env t parts.toList = some (ps, v, b)) (hp : AllP ps) :
  ∃ u, (Instr.build t (parts.map fun (i, x) => (i, a.eval x))).run F.P w = .ok u w ∧ VR F.P w F.K S G v u := by
 unfold qBuild at h
 split at h
 ·
  rename_i ty hty
  split at h
  ·
   rename_i z0 zr ps' cs ha hz hf
   simp only [Option.some.injEq, Prod.mk.injEq] at h
   obtain ⟨rfl, rfl, _⟩ := h
   exact qEN hr (ht _ _ hty) ha (by rw [hz]; simp) hf hp hc
  · simp at h
 · simp at h
theorem qYL (hr : Rel0 F σ a w S G φ) (ht : TabOk F.P tab) {t : Nat} {x : Operand} {lo hi : Option Operand} (hc : ∀ z, z = x ∨ lo = some z ∨ hi = some z → ∀ v, z = .const v → v.oneCell' = true) {ps : List Prop} {v : V} {b : Bool} (h : qSlice Ls tab σ t x lo hi = some (ps, v, b)) (hp : AllP ps) :
  ∃ u, (Instr.sliceAt t (a.eval x) (lo.map a.eval) (hi.map a.eval) none).run F.P w = .ok u w ∧ VR F.P w F.K S G v u := by
 unfold qSlice at h
 split at h
 ·
  rename_i ty px v' pl l hty hxs hlo
  have hcl : ∀ y v, lo = some y → y = .const v → v.oneCell' = true := fun y v e => hc y (.inr (.inl e)) v
  have hch : ∀ y v, hi = some y → y = .const v → v.oneCell' = true := fun y v e => hc y (.inr (.inr e)) v
  split at h
  ·
   rename_i s
   split at h
   ·
    rename_i ph hh hT hhi
    simp only [Option.some.injEq, Prod.mk.injEq] at h
    obtain ⟨rfl, rfl, _⟩ := h
    rw [qI, qI, qI] at hp
    obtain ⟨⟨⟨hpx, hpl⟩, hph⟩, a0, a1, a2, _⟩ := hp
    rw [(got hr (hc x (by simp)) hxs hpx).s_inv.1]
    exact ⟨_, qoP ((ht _ _ hty).isT hT) (qyH hr hlo hpl hcl) (qsG hr hhi hph hch) a0 a1 a2, VR.s rfl⟩
   simp at h
  ·
   rename_i k rows
   split at h
   ·
    rename_i te ph hh hel hhi
    simp only [Option.some.injEq, Prod.mk.injEq] at h
    obtain ⟨rfl, rfl, _⟩ := h
    rw [qI, qI, qI] at hp
    obtain ⟨⟨⟨hpx, hpl⟩, hph⟩, a0, a1, a2, a3, _⟩ := hp
    obtain ⟨ty', h1, h2, h3⟩ := qtG ht hel
    exact qDS h1 h2 h3 (got hr (hc x (by simp)) hxs hpx) (qyH hr hlo hpl hcl) (qsG hr hhi hph hch) a0 a1 a2 a3
   simp at h
  ·
   rename_i id
   split at h
   ·
    rename_i ver e sz rows ho
    split at h
    ·
     rename_i te ph hh hel hhi
     split at h
     ·
      rename_i hb
      simp only [Option.some.injEq, Prod.mk.injEq] at h
      obtain ⟨rfl, rfl, _⟩ := h
      rw [qI, qI, qI] at hp
      obtain ⟨⟨⟨hpx, hpl⟩, hph⟩, a0, a1, a2, _⟩ := hp
      obtain ⟨ty', h1, h2, h3⟩ := qtG ht hel
      exact qES hr h1 h2 h3 ho (qGB hb) (got hr (hc x (by simp)) hxs hpx) (qyH hr hlo hpl hcl) (qsG hr hhi hph hch) a0 a1 a2
     simp at h
    simp at h
   simp at h
  · simp at h
 · simp at h
theorem qJN (hr : Rel0 F σ a w S G φ) (ht : TabOk F.P tab) {o : Oper} {sup : Option Sup} {ps : List Prop} {v : V} {b : Bool} (h : stepQ Ls tab σ o.op sup = some (ps, v, b)) (hp : AllP ps) (hc : ConstsOk o.op) :
  ∃ u, (execOp a.eval o).run F.P w = .ok (.value u) w ∧ VR F.P w F.K S G v u := by
 obtain ⟨dst, op, type, pos, after, guard⟩ := o
 simp only at h hc
 cases op <;> simp only [stepQ, reduceCtorEq] at h
 case move x =>
  simp only [Option.some.injEq, Prod.mk.injEq] at h
  obtain ⟨_, rfl, _⟩ := h
  exact ⟨_, rfl, hr.ev x (hc x (by simp [Op.operands]))⟩
 case assign x =>
  simp only [Option.some.injEq, Prod.mk.injEq] at h
  obtain ⟨_, rfl, _⟩ := h
  exact ⟨_, rfl, hr.ev x (hc x (by simp [Op.operands]))⟩
 case pick c x y =>
  obtain ⟨cb, e, hv⟩ := qFN hr (fun z hz => hc z (by simp [Op.operands]; exact hz)) h hp
  refine ⟨_, ?_, hv⟩
  simp [execOp, e, asBool]
 case binOp o xt x y yt =>
  obtain ⟨u, e, hv⟩ : ∃ u, (do eqGuard o xt x y (a.eval x) (a.eval y); binOp o xt (a.eval x) (a.eval y) : Sem Value).run F.P w = .ok u w ∧ VR F.P w F.K S G v u := by
   split at h
   ·
    rename_i r hq
    simp only [Option.some.injEq] at h
    subst h
    exact quO hr ht (fun z hz => hc z (by simp [Op.operands]; exact hz)) hq hp
   exact qvO hr ht (fun z hz => hc z (by simp [Op.operands]; exact hz)) h hp
  refine ⟨u, ?_, hv⟩
  simp only [execOp, Sem.run_bind] at e ⊢
  rw [e]
  rfl
 case unOp o xt x =>
  obtain ⟨u, e, hv⟩ := qpP hr (hc x (by simp [Op.operands])) h hp
  exact ⟨u, by simp [execOp, e], hv⟩
 case fieldAddr t x f =>
  obtain ⟨u, e, hv⟩ := qVL hr ht (hc x (by simp [Op.operands])) h hp
  exact ⟨u, by simp [execOp, e], hv⟩
 case load t x =>
  obtain ⟨u, e, hv⟩ := qGN hr ht (hc x (by simp [Op.operands])) h hp
  exact ⟨u, by simp [execOp, e], hv⟩
 case indexAddr t x i =>
  obtain ⟨u, e, hv⟩ := qEK hr ht (fun z hz => hc z (by simp [Op.operands]; exact hz)) h hp
  exact ⟨u, by simp [execOp, e], hv⟩
 case index t x i =>
  obtain ⟨u, e, hv⟩ := qWL hr ht (fun z hz => hc z (by simp [Op.operands]; exact hz)) h hp
  exact ⟨u, by simp [execOp, e], hv⟩
 case extract x k =>
  obtain ⟨u, e, hv⟩ := qDJ hr (hc x (by simp [Op.operands])) h hp
  exact ⟨u, by simp [execOp, e], hv⟩
 case nilCheck x =>
  obtain ⟨⟨A, e⟩, hv⟩ := qwO hr (hc x (by simp [Op.operands])) h hp
  exact ⟨_, by simp [execOp, e], hv⟩
 case makeFunc fn first caps =>
  obtain ⟨u, e, hv⟩ := qHN hr (fun z hz => hc z (by simp [Op.operands]; right; simpa using hz)) h hp
  exact ⟨u, by simp [execOp, e], hv⟩
 case convert src dst x =>
  obtain ⟨u, e, hv⟩ := qIN hr ht (hc x (by simp [Op.operands])) h hp
  exact ⟨u, by simp [execOp, e], hv⟩
 case build t parts =>
  obtain ⟨u, e, hv⟩ := qXL hr ht (fun p hp' => hc p.2 (by simp [Op.operands]; exact ⟨p.1, by simpa using hp'⟩)) h hp
  exact ⟨u, by simp [execOp, e], hv⟩
 case slice t x lo hi mx =>
  cases mx with
  | some _ => simp at h
  | none =>
   obtain ⟨u, e, hv⟩ := qYL hr ht (fun z hz => hc z (by
    rcases hz with rfl | rfl | rfl <;> simp [Op.operands])) h hp
   exact ⟨u, by simp [execOp, e], hv⟩
 case call c =>
  obtain ⟨callee, args, argTypes⟩ := c
  cases callee with
  | builtin bb =>
   cases bb <;> simp only [reduceCtorEq] at h
   obtain ⟨u, e, hv⟩ := qxO (ty0 := type) hr ht (fun z hz => hc z (by simp [Op.operands, Call.operands]; simpa using hz)) h hp
   exact ⟨u, by simp [execOp, resolve, invoke, builtin, e], hv⟩
  | _ => simp at h
end Go.Proofs.YtcpekllcbimpmaaGreatDoor.L
namespace Go.Proofs.YtcpekllcbimpmaaGreatDoor.L
set_option linter.unusedVariables false
set_option linter.unusedSimpArgs false
open Go
variable {F : Fr} {σ : St} {a : Act} {w : World} {S : Nat → Prop} {G : Gh} {φ : Nat → Nat → Prop} {tab : List (Nat × Ty)}
theorem qoE (hr : Rel0 F σ a w S G φ) {id : Nat} (h : freshB σ.nx σ.objs id = true) : ¬ G.dom id := by
 intro hd
 unfold freshB at h
 cases hb : nl σ.nx id with
 | false => simp [hb] at h
 | true =>
  have hle := qNC hb
  rcases hr.nx id hd with h1 | h1
  · omega
  simp [hb, h1] at h
def Of (φ : Nat → Nat → Prop) (ds : List Nat) : Nat → Prop := fun b => ∃ d ∈ ds, φ d b
theorem qiD {φ : Nat → Nat → Prop} {a b : List Nat} : Sub (Of φ a) (Of φ (a ++ b)) ∧ Sub (Of φ b) (Of φ (a ++ b)) :=
 ⟨fun _ ⟨d, h, hd⟩ => ⟨d, List.mem_append_left _ h, hd⟩, fun _ ⟨d, h, hd⟩ => ⟨d, List.mem_append_right _ h, hd⟩⟩
theorem Of_dj (hr : Rel0 F σ a w S G φ) {a b : List Nat} (h : (a ++ b).Nodup) : Dj (Of φ a) (Of φ b) := by
 rintro x ⟨d, hd, h1⟩ ⟨e, he, h2⟩
 refine hr.dj d e (fun hde => ?_) x h1 h2
 subst hde
 exact (List.nodup_append.1 h).2.2 d hd d he rfl
theorem qcJ (hr : Rel0 F σ a w S G φ) {id ver e sz rows} (ho : look .dead σ.objs id = .row ver e sz rows) : CR F.P w F.K F.K [.ow e rows] [G.β id] (φ id) := by
 obtain ⟨hid, hsz, hGs, us, hk, hrs, hown, ψ, hb, hψ, hcr⟩ := hr.row ho
 subst hsz
 exact .ow (φ2 := no) hrs us hown ψ hb hψ hcr .nil (fun _ _ h => h.elim) (fun _ h => h) (fun _ h => h.elim)
theorem qEJ (hr : Rel0 F σ a w S G φ) {v : V} {u : Value} {t : T} {d : List Nat} (hv : VR F.P w F.K S G v u) (h : sinkCell σ.objs v = some (t, d)) : CR F.P w F.K F.K [t] [u] (Of φ d) := by
 unfold sinkCell at h
 split at h
 ·
  simp only [Option.some.injEq, Prod.mk.injEq] at h
  obtain ⟨rfl, rfl⟩ := h
  obtain ⟨rfl, h1⟩ := hv.s_inv
  exact .s h1 .nil
 ·
  simp only [Option.some.injEq, Prod.mk.injEq] at h
  obtain ⟨rfl, rfl⟩ := h
  cases hv with
  | t hx _ => cases hx with
   | im1 hn hc sz hs vs hA hcr _ => exact .im1 hn hc sz hs vs hA hcr .nil
 ·
  split at h
  ·
   rename_i ho
   simp only [Option.some.injEq, Prod.mk.injEq] at h
   obtain ⟨rfl, rfl⟩ := h
   cases hv with
   | rf _ hu _ _ =>
    subst hu
    exact (qcJ hr ho).mono (fun b hb => ⟨_, by simp, hb⟩)
  simp at h
 simp at h
theorem qjD (hr : Rel0 F σ a w S G φ) : ∀ {vs : List V} {us : List Value} {ts : List T} {ds : List Nat}, VRs F.P w F.K S G vs us → sinkCells σ.objs vs = some (ts, ds) → ds.Nodup → CR F.P w F.K F.K ts us (Of φ ds)
 | [], us, ts, ds, hv, h, _ => by
  simp only [sinkCells, Option.some.injEq, Prod.mk.injEq] at h
  obtain ⟨rfl, rfl⟩ := h
  cases hv
  exact .nil
 | v :: vs, us, ts, ds, hv, h, hn => by
  simp only [sinkCells] at h
  split at h
  · simp at h
  rename_i x d hx
  split at h
  · simp at h
  rename_i xs ds' hxs
  simp only [Option.some.injEq, Prod.mk.injEq] at h
  obtain ⟨rfl, rfl⟩ := h
  obtain ⟨u, us, rfl, h1, h2⟩ := hv.uncons
  have := (qEJ hr h1 hx).join (qjD hr h2 hxs (List.nodup_append.1 hn).2.1) (Of_dj hr hn) qiD.1 qiD.2
  simpa using this
theorem qRE {objs : List (Nat × O)} : ∀ {vs : List V} {ts : List T} {ds : List Nat}, sinkCells objs vs = some (ts, ds) → ts.length = vs.length
 | [], ts, ds, h => by
  simp only [sinkCells, Option.some.injEq, Prod.mk.injEq] at h
  rw [← h.1]
  rfl
 | v :: vs, ts, ds, h => by
  simp only [sinkCells] at h
  split at h
  · simp at h
  split at h
  · simp at h
  rename_i hxs
  simp only [Option.some.injEq, Prod.mk.injEq] at h
  rw [← h.1]
  simp [qRE hxs]
theorem qqP (hr : Rel0 F σ a w S G φ) {id e : Nat} (hf : freshB σ.nx σ.objs id = true) {cs : List V} {us : List Value} (hv : VRs F.P w F.K S G cs us) :
  ∃ G' φ', Rel0 F ⟨σ.n, σ.nx, σ.env, (id, .box e cs) :: σ.objs⟩ a (w.alloc (.cells us.toArray e)) S G' φ' ∧ VR F.P (w.alloc (.cells us.toArray e)) F.K S G' (.pt id 0 0) (.pointer (some ⟨w.heap.size, 0, none⟩)) := by
 have hid := qoE hr hf
 have hk : Kept w (w.alloc (.cells us.toArray e)) no := Kept.alloc w _ _
 have hS : ∀ b, S b → (w.alloc (.cells us.toArray e)).heap[b]? = w.heap[b]? := fun b hb => heap_alloc_old w _ b (hr.Slt b hb)
 have h := hr.new (ds := []) hk hid (v := .pointer (some ⟨w.heap.size, 0, none⟩)) (sz := 0) (k := none) (o := .box e cs) (fun b hb => hb.elim)
  ⟨.inr rfl, w.heap.size, us, by simp [Gh.add], heap_alloc_new w _, .inr ⟨Nat.le_refl _, by simp⟩, hv.move (fun b hb => hS b (hr.KS b hb)) hS (Gh.le_add hid (fun v x hx => (hr.kd id v x hx).1) _ _ _)⟩ (by simp)
 refine ⟨_, _, h, ?_⟩
 have : VR F.P (w.alloc (.cells us.toArray e)) F.K S (G.add id (.pointer (some ⟨w.heap.size, 0, none⟩)) 0 none) (.pt id 0 0) (.pointer (some ⟨w.heap.size, (0 : Int).toNat * (G.add id (.pointer (some ⟨w.heap.size, 0, none⟩)) 0 none).sz id + 0, none⟩)) :=
  .pt (.inr rfl) (Int.le_refl _) (by simp [Gh.add, blk]) .nil
 simpa using this
theorem qFK (hr : Rel0 F σ a w S G φ) {id e sz : Nat} (hf : freshB σ.nx σ.objs id = true) {ds : List Nat} {rows : Rws} {w' : World} {τ : Nat → Prop} (hk : Kept w w' τ) (hτ : ∀ b, τ b → Of φ ds b) {v : Value} (hsz : sz = F.P.cellsOf e) (hrs : ∀ r ∈ rows, r.length = sz) {us : List Value}
  (hown : w'.ownsRow 0 e sz v rows.length us) {ψ : Nat → Prop} (hb : ∀ b, v.ownBlock = some b → (Of φ ds b ∧ ¬ ψ b) ∨ (w.heap.size ≤ b ∧ b < w'.heap.size)) (hψ : Sub ψ (Of φ ds)) (hcr : CR F.P w F.K F.K rows.flatten us ψ) (hψτ : ∀ b, ψ b → ¬ τ b) (hfr : ∀ d ∈ ds, d ≠ id) :
  ∃ G' φ', Rel0 F ⟨σ.n, σ.nx, σ.env, (id, .row 0 e sz rows) :: (deads ds ++ σ.objs)⟩ a w' S G' φ' ∧ VR F.P w' F.K S G' (.rf id) v := by
 have hid := qoE hr hf
 have hψlt : ∀ b, ψ b → b < w.heap.size := fun b hb' => by
  obtain ⟨d, _, hd⟩ := hψ b hb'
  exact (hr.own d b hd).1
 have hS : ∀ b, S b → w'.heap[b]? = w.heap[b]? := fun b hb => hk.block b (hr.Slt b hb) (fun ht => by
  obtain ⟨d, _, hd⟩ := hτ b ht
  exact (hr.own d b hd).2.1 hb)
 have h1 : v.oneCell' = true := by
  rcases hown.2 with ⟨rfl, _⟩ | ⟨g, cap, cur, rfl, _⟩ <;> rfl
 have h := hr.new (ds := ds) hk hid (v := v) (sz := sz) (k := some (rows, us)) (o := .row 0 e sz rows) hτ
  ⟨.inr rfl, hsz, by simp [Gh.add], us, by simp [Gh.add], hrs, by simpa [Gh.add] using hown, ψ, fun b hb' => by
   have hb' : v.ownBlock = some b := by simpa [Gh.add] using hb'
   rcases hb b hb' with ⟨h1, h2⟩ | h1
   · exact ⟨.inl h1, h2⟩
   exact ⟨.inr h1, fun h2 => by have := hψlt b h2; omega⟩, fun b hb' => .inl (hψ b hb'), hcr.move (fun b hb => hS b (hr.KS b hb)) (fun b hb => hS b (hr.KS b hb)) (fun b hb => hk.block b (hψlt b hb) (hψτ b hb))⟩ hfr
 exact ⟨_, _, h, .rf (.inr rfl) (by simp [Gh.add]) h1 .nil⟩
theorem qRG (hr : Rel0 F σ a w S G φ) {size : Nat} : ∀ (parts : List (Nat × Operand)) (n : Nat) {ps : List Prop} {rows : Rws} {ds : List Nat}, litRows σ.objs σ.env size n parts = some (ps, rows, ds) → AllP ps → (∀ p ∈ parts, ∀ v, p.2 = .const v → v.oneCell' = true) → ds.Nodup →
  rows.length = parts.length ∧ (∀ r ∈ rows, r.length = size) ∧ (∀ p ∈ parts, (a.eval p.2).cells.size = size) ∧ (∀ k p, parts[k]? = some p → p.1 = n + k) ∧ CR F.P w F.K F.K rows.flatten (parts.flatMap fun p => (a.eval p.2).cells.toList) (Of φ ds)
 | [], n, ps, rows, ds, h, _, _, _ => by
  simp only [litRows, Option.some.injEq, Prod.mk.injEq] at h
  obtain ⟨_, rfl, rfl⟩ := h
  exact ⟨rfl, by simp, by simp, by simp, .nil⟩
 | (i, x) :: r, n, ps, rows, ds, h, hp, hc, hn => by
  simp only [litRows] at h
  split at h
  · simp at h
  rename_i hi
  split at h
  · simp at h
  rename_i vc hvc
  split at h
  · simp at h
  rename_i hlen
  split at h
  · simp at h
  rename_i cs d hsk
  split at h
  · simp at h
  rename_i ps' rows' ds' hrec
  simp only [Option.some.injEq, Prod.mk.injEq] at h
  obtain ⟨rfl, rfl, rfl⟩ := h
  rw [qI] at hp
  have hv := qsC (got hr (hc (i, x) (by simp)) rfl hp.1) hvc
  have h1 := qjD hr hv hsk (List.nodup_append.1 hn).1
  obtain ⟨e1, e2, e3, e4, h2⟩ := qRG hr r (n + 1) hrec hp.2 (fun p hp => hc p (by simp [hp])) (List.nodup_append.1 hn).2.1
  have hl : vc.length = size := by rw [← quB]; exact qGB hlen
  have hsz : (a.eval x).cells.size = size := by rw [← Array.length_toList, hv.len, hl]
  refine ⟨by simp [e1], ?_, ?_, ?_, ?_⟩
  ·
   intro q hq
   rcases List.mem_cons.1 hq with rfl | hq
   · rw [qRE hsk, hl]
   exact e2 q hq
  ·
   intro q hq
   rcases List.mem_cons.1 hq with rfl | hq
   · exact hsz
   exact e3 q hq
  ·
   intro k q hk
   cases k with
   | zero =>
    simp only [List.getElem?_cons_zero, Option.some.injEq] at hk
    subst hk
    have := qGB hi
    omega
   | succ k =>
    have := e4 k q (by simpa using hk)
    omega
  rw [List.flatten_cons, List.flatMap_cons]
  exact h1.join h2 (Of_dj hr hn) qiD.1 qiD.2
theorem qLO {size : Nat} (ev : Operand → Value) : ∀ (parts : List (Nat × Operand)) (k : Nat) (cur : Array Value), (∀ p ∈ parts, (ev p.2).cells.size = size) → (∀ j p, parts[j]? = some p → p.1 = k + j) → cur.size = (k + parts.length) * size →
  ∃ res, Instr.fill (fun i => some (i * size, size)) cur (parts.map fun (i, x) => (i, ev x)) = some res ∧ res.toList = cur.toList.take (k * size) ++ parts.flatMap fun p => (ev p.2).cells.toList
 | [], k, cur, _, _, hl => ⟨cur, rfl, by simp at hl; rw [List.take_of_length_le (by simp; omega)]; simp⟩
 | (i, x) :: r, k, cur, hs, hi, hl => by
  have hx := hs (i, x) (by simp)
  have hik : i = k := by have := hi 0 (i, x) rfl; simpa using this
  subst hik
  have hsz : i * size + size ≤ cur.size := by rw [hl, ← Nat.succ_mul]; exact Nat.mul_le_mul_right _ (by simp)
  have hset := qwH (ev x).cells.toList cur (i * size) 0 (by simp only [Array.length_toList]; simp only at hx; omega)
  simp only [Nat.add_zero] at hset
  obtain ⟨res, h1, h2⟩ := qLO ev r (i + 1) ((ev x).cells.zipIdx.foldl (fun cs (c, j) => cs.setIfInBounds (i * size + j) c) cur) (fun p hp => hs p (by simp [hp])) (fun j p hj => by have := hi (j + 1) p (by simpa using hj); omega) (by
   have : ((ev x).cells.zipIdx.foldl (fun cs (c, j) => cs.setIfInBounds (i * size + j) c) cur).toList.length = cur.size := by
    rw [← Array.foldl_toList]
    simp only [Array.toList_zipIdx]
    rw [hset]
    simp only [List.length_append, List.length_take, List.length_drop, Array.length_toList]
    simp only at hx
    omega
   simp only [Array.length_toList] at this
   rw [this, hl]
   simp only [List.length_cons]
   congr 1
   omega)
  refine ⟨res, ?_, ?_⟩
  ·
   simp only [List.map_cons, Instr.fill]
   simp only at hx
   rw [if_neg (by simp only [hx]; simp; omega)]
   exact h1
  rw [h2, ← Array.foldl_toList]
  simp only [Array.toList_zipIdx]
  rw [hset]
  simp only at hx
  have hl1 : (cur.toList.take (i * size)).length = i * size := by rw [List.length_take, Array.length_toList]; omega
  rw [List.flatMap_cons, ← List.append_assoc]
  congr 1
  rw [Nat.succ_mul, List.take_append_of_le_length (by simp only [List.length_append, hl1, Array.length_toList, hx]; omega), List.take_of_length_le (by simp only [List.length_append, hl1, Array.length_toList, hx]; omega)]
theorem qrP (hr : Rel0 F σ a w S G φ) {t : Nat} {ty te : Ty} (ht : TyOk F.P t ty) (hs : ty.isS = true) (hte : TyOk F.P ty.elem te) {id n : Nat} (hf : freshB σ.nx σ.objs id = true) {parts : Array (Nat × Operand)} {ps : List Prop} {rows : Rws} {ds : List Nat} (h : litRows σ.objs σ.env te.size 0 parts.toList = some (ps, rows, ds)) (hp : AllP ps) (hc : ∀ p ∈ parts.toList, ∀ v, p.2 = .const v → v.oneCell' = true)
  (hn : ds.Nodup) (hlen : n = rows.length) (hm : n * te.size ≤ 65536) (hz : n ≠ 0 → te.zero ≠ []) (hfr : ∀ d ∈ ds, d ≠ id) :
  ∃ u w' G' φ', (Instr.buildSlice t n (parts.map fun (i, x) => (i, a.eval x))).run F.P w = .ok u w' ∧ Rel0 F ⟨σ.n, σ.nx, σ.env, (id, .row 0 ty.elem te.size rows) :: (deads ds ++ σ.objs)⟩ a w' S G' φ' ∧ VR F.P w' F.K S G' (.rf id) u := by
 obtain ⟨e1, e2, e3, e4, hcr⟩ := qRG hr parts.toList 0 h hp hc hn
 have hd := ht.isS hs
 obtain ⟨i, hi, hsz, _, hzz⟩ := hte.info
 have hszr : (sizeOf ty.elem).run F.P w = .ok te.size w := qdD hte
 have hpos := hte.pos
 have hz0 : ∃ zc : Array Value, n * te.size ≠ 0 → (zeroValue ty.elem).run F.P w = .ok (.agg zc) w ∨ ∃ z, (zeroValue ty.elem).run F.P w = .ok z w ∧ z.cells = zc := by
  by_cases hn0 : n * te.size = 0
  · exact ⟨#[], fun h => absurd hn0 h⟩
  ·
   obtain ⟨z, hz1, _⟩ := hzz (hz (by rintro rfl; simp at hn0))
   exact ⟨z.cells, fun _ => .inr ⟨z, by simp [zeroValue, typeInfo, hi, hz1], rfl⟩⟩
 obtain ⟨zc, hzc⟩ := hz0
 have hpn : parts.toList.length = n := by rw [← e1, hlen]
 obtain ⟨res, hfill, hres⟩ := qLO (size := te.size) a.eval parts.toList 0 ((Array.range (n * te.size)).map (zc[· % zc.size]!)) e3 e4 (by simp [hpn])
 have hres' : res.toList = parts.toList.flatMap fun p => (a.eval p.2).cells.toList := by rw [hres]; simp
 have hrl : res.toList.length = n * te.size := by rw [hres', hcr.len, qvB rows e2, hlen]
 have hpa : (parts.map fun (i, x) => (i, a.eval x)).toList = parts.toList.map fun (i, x) => (i, a.eval x) := by simp
 have hown : (w.alloc (.cells res ty.elem)).ownsRow 0 ty.elem te.size (.slice (some ⟨w.heap.size, 0, none⟩) rows.length rows.length) rows.length res.toList := by
  refine ⟨by rw [hrl, hlen], .inr ⟨w.heap.size, rows.length, res, rfl, Nat.zero_le _, heap_alloc_new w _, Nat.le_refl _, ?_, ?_, ?_⟩⟩
  ·
   rw [← hlen]
   have : n ≤ n * te.size := Nat.le_mul_of_pos_right _ hpos
   simp only [maxLen]
   omega
  · rw [← Array.length_toList, hrl, hlen]
  · rw [← hlen, ← hrl, List.take_length]
 rw [← hres'] at hcr
 obtain ⟨G', φ', h1, h2⟩ := qFK hr hf (ds := ds) (Kept.alloc w _ no) (fun b hb => hb.elim) (qyC hte).symm e2 hown (ψ := Of φ ds) (fun b hb => by
  simp only [Value.ownBlock, Option.some.injEq] at hb
  subst hb
  exact .inr ⟨Nat.le_refl _, by simp⟩) (fun _ h => h) hcr (fun _ _ h => h.elim) hfr
 refine ⟨_, _, G', φ', ?_, h1, h2⟩
 unfold Instr.buildSlice
 rw [Sem.run_bind, run_underlying hd]
 simp only [Result.andThen_ok]
 rw [Sem.run_bind, hszr]
 simp only [Result.andThen_ok]
 rw [if_neg (show ¬ n * te.size > 2 ^ 24 by omega)]
 by_cases hn0 : n * te.size = 0
 ·
  have hn1 : n = 0 := by
   rcases Nat.mul_eq_zero.1 hn0 with h | h
   · exact h
   omega
  have hp0 : parts.toList = [] := by rw [← List.length_eq_zero_iff, hpn, hn1]
  have hr0 : res = #[] := by
   apply Array.ext'
   rw [hres', hp0]
   rfl
  have hrw : rows.length = 0 := by omega
  rw [if_pos hn0]
  have e0 : Array.range 0 = #[] := by apply Array.ext'; simp
  simp [hp0, Instr.fill, newRow, newObj, Sem.run, hn1, hr0, hrw, e0]
 ·
  rw [if_neg hn0]
  have : ∃ z, (zeroValue ty.elem).run F.P w = .ok z w ∧ z.cells = zc := by
   rcases hzc hn0 with h | h
   · exact ⟨_, h, rfl⟩
   exact h
  obtain ⟨z, hz1, rfl⟩ := this
  have hpa' : (Array.map (fun x => (x.fst, a.eval x.snd)) parts).toList = parts.toList.map fun (i, x) => (i, a.eval x) := by simp
  rw [Sem.run_bind, hz1]
  simp only [Result.andThen_ok, Sem.run_bind, Sem.run_pure, hpa', hfill]
  simp [newRow, newObj, Sem.run, hlen]
end Go.Proofs.YtcpekllcbimpmaaGreatDoor.L