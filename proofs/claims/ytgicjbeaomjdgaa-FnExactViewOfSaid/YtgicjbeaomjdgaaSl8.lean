/- Steps that make memory are sound. -/
import Derived.Test.YtgicjbeaomjdgaaSl7
import Derived.Laws.OwnMore
import Derived.Laws.MakeOwn
import Derived.Maps.AppendAt
namespace Go.Proofs.Ytgicjbeaomjdgaa.L
set_option linter.unusedVariables false
set_option linter.unusedSimpArgs false
open Go

variable {F : Fr} {σ : St} {a : Act} {w : World} {S : Nat → Prop} {G : Gh} {φ : Nat → Nat → Prop} {tab : List (Nat × Ty)}

theorem fresh_dom (hr : Rel0 F σ a w S G φ) {id : Nat} (h : freshB σ.nx σ.objs id = true) : ¬ G.dom id := by
  intro hd
  unfold freshB at h
  cases hb : nl σ.nx id with
  | false => simp [hb] at h
  | true =>
    have hle := ble_true hb
    rcases hr.nx id hd with h1 | h1
    · omega
    · simp [hb, h1] at h

/-- What the objects of a list own. -/
def Of (φ : Nat → Nat → Prop) (ds : List Nat) : Nat → Prop := fun b => ∃ d ∈ ds, φ d b

theorem Of_app {φ : Nat → Nat → Prop} {a b : List Nat} : Sub (Of φ a) (Of φ (a ++ b)) ∧ Sub (Of φ b) (Of φ (a ++ b)) :=
  ⟨fun _ ⟨d, h, hd⟩ => ⟨d, List.mem_append_left _ h, hd⟩, fun _ ⟨d, h, hd⟩ => ⟨d, List.mem_append_right _ h, hd⟩⟩

theorem Of_dj (hr : Rel0 F σ a w S G φ) {a b : List Nat} (h : (a ++ b).Nodup) : Dj (Of φ a) (Of φ b) := by
  rintro x ⟨d, hd, h1⟩ ⟨e, he, h2⟩
  refine hr.dj d e (fun hde => ?_) x h1 h2
  subst hde
  exact (List.nodup_append.1 h).2.2 d hd d he rfl

theorem row_ow (hr : Rel0 F σ a w S G φ) {id ver e sz rows} (ho : look .dead σ.objs id = .row ver e sz rows) : CR F.P w F.K F.K [.ow e rows] [G.β id] (φ id) := by
  obtain ⟨hid, hsz, hGs, us, hk, hrs, hown, ψ, hb, hψ, hcr⟩ := hr.row ho
  subst hsz
  exact .ow (φ2 := no) hrs us hown ψ hb hψ hcr .nil (fun _ _ h => h.elim) (fun _ h => h) (fun _ h => h.elim)

theorem sinkCell_sound (hr : Rel0 F σ a w S G φ) {v : V} {u : Value} {t : T} {d : List Nat} (hv : VR F.P w F.K S G v u) (h : sinkCell σ.objs v = some (t, d)) : CR F.P w F.K F.K [t] [u] (Of φ d) := by
  unfold sinkCell at h
  split at h
  · simp only [Option.some.injEq, Prod.mk.injEq] at h
    obtain ⟨rfl, rfl⟩ := h
    obtain ⟨rfl, h1⟩ := hv.s_inv
    exact .s h1 .nil
  · simp only [Option.some.injEq, Prod.mk.injEq] at h
    obtain ⟨rfl, rfl⟩ := h
    cases hv with
    | t hx _ => cases hx with
      | im1 hn hc sz hs vs hA hcr _ => exact .im1 hn hc sz hs vs hA hcr .nil
  · split at h
    · rename_i ho
      simp only [Option.some.injEq, Prod.mk.injEq] at h
      obtain ⟨rfl, rfl⟩ := h
      cases hv with
      | rf _ hu _ _ =>
        subst hu
        exact (row_ow hr ho).mono (fun b hb => ⟨_, by simp, hb⟩)
    · simp at h
  · simp at h

theorem sinkCells_sound (hr : Rel0 F σ a w S G φ) : ∀ {vs : List V} {us : List Value} {ts : List T} {ds : List Nat}, VRs F.P w F.K S G vs us → sinkCells σ.objs vs = some (ts, ds) → ds.Nodup → CR F.P w F.K F.K ts us (Of φ ds)
  | [], us, ts, ds, hv, h, _ => by
    simp only [sinkCells, Option.some.injEq, Prod.mk.injEq] at h
    obtain ⟨rfl, rfl⟩ := h
    cases hv
    exact .nil
  | v :: vs, us, ts, ds, hv, h, hn => by
    simp only [sinkCells] at h
    split at h
    · simp at h
    · rename_i x d hx
      split at h
      · simp at h
      · rename_i xs ds' hxs
        simp only [Option.some.injEq, Prod.mk.injEq] at h
        obtain ⟨rfl, rfl⟩ := h
        obtain ⟨u, us, rfl, h1, h2⟩ := hv.uncons
        have := (sinkCell_sound hr h1 hx).join (sinkCells_sound hr h2 hxs (List.nodup_append.1 hn).2.1) (Of_dj hr hn) Of_app.1 Of_app.2
        simpa using this

theorem sinkCells_len {objs : List (Nat × O)} : ∀ {vs : List V} {ts : List T} {ds : List Nat}, sinkCells objs vs = some (ts, ds) → ts.length = vs.length
  | [], ts, ds, h => by
    simp only [sinkCells, Option.some.injEq, Prod.mk.injEq] at h
    rw [← h.1]
    rfl
  | v :: vs, ts, ds, h => by
    simp only [sinkCells] at h
    split at h
    · simp at h
    · split at h
      · simp at h
      · rename_i hxs
        simp only [Option.some.injEq, Prod.mk.injEq] at h
        rw [← h.1]
        simp [sinkCells_len hxs]

/-! ### variables' blocks -/
theorem box_new (hr : Rel0 F σ a w S G φ) {id e : Nat} (hf : freshB σ.nx σ.objs id = true) {cs : List V} {us : List Value} (hv : VRs F.P w F.K S G cs us) :
    ∃ G' φ', Rel0 F ⟨σ.n, σ.nx, σ.env, (id, .box e cs) :: σ.objs⟩ a (w.alloc (.cells us.toArray e)) S G' φ' ∧ VR F.P (w.alloc (.cells us.toArray e)) F.K S G' (.pt id 0 0) (.pointer (some ⟨w.heap.size, 0, none⟩)) := by
  have hid := fresh_dom hr hf
  have hk : Kept w (w.alloc (.cells us.toArray e)) no := Kept.alloc w _ _
  have hS : ∀ b, S b → (w.alloc (.cells us.toArray e)).heap[b]? = w.heap[b]? := fun b hb => heap_alloc_old w _ b (hr.Slt b hb)
  have h := hr.new (ds := []) hk hid (v := .pointer (some ⟨w.heap.size, 0, none⟩)) (sz := 0) (k := none) (o := .box e cs) (fun b hb => hb.elim)
    ⟨.inr rfl, w.heap.size, us, by simp [Gh.add], heap_alloc_new w _, .inr ⟨Nat.le_refl _, by simp⟩, hv.move (fun b hb => hS b (hr.KS b hb)) hS (Gh.le_add hid (fun v x hx => (hr.kd id v x hx).1) _ _ _)⟩ (by simp)
  refine ⟨_, _, h, ?_⟩
  have : VR F.P (w.alloc (.cells us.toArray e)) F.K S (G.add id (.pointer (some ⟨w.heap.size, 0, none⟩)) 0 none) (.pt id 0 0) (.pointer (some ⟨w.heap.size, (0 : Int).toNat * (G.add id (.pointer (some ⟨w.heap.size, 0, none⟩)) 0 none).sz id + 0, none⟩)) :=
    .pt (.inr rfl) (Int.le_refl _) (by simp [Gh.add, blk]) .nil
  simpa using this

/-! ### rows -/
theorem row_new (hr : Rel0 F σ a w S G φ) {id e sz : Nat} (hf : freshB σ.nx σ.objs id = true) {ds : List Nat} {rows : Rws} {w' : World} {τ : Nat → Prop} (hk : Kept w w' τ) (hτ : ∀ b, τ b → Of φ ds b) {v : Value} (hsz : sz = F.P.cellsOf e) (hrs : ∀ r ∈ rows, r.length = sz) {us : List Value}
    (hown : w'.ownsRow 0 e sz v rows.length us) {ψ : Nat → Prop} (hb : ∀ b, v.ownBlock = some b → (Of φ ds b ∧ ¬ ψ b) ∨ (w.heap.size ≤ b ∧ b < w'.heap.size)) (hψ : Sub ψ (Of φ ds)) (hcr : CR F.P w F.K F.K rows.flatten us ψ) (hψτ : ∀ b, ψ b → ¬ τ b) (hfr : ∀ d ∈ ds, d ≠ id) :
    ∃ G' φ', Rel0 F ⟨σ.n, σ.nx, σ.env, (id, .row 0 e sz rows) :: (deads ds ++ σ.objs)⟩ a w' S G' φ' ∧ VR F.P w' F.K S G' (.rf id) v := by
  have hid := fresh_dom hr hf
  have hψlt : ∀ b, ψ b → b < w.heap.size := fun b hb' => by
    obtain ⟨d, _, hd⟩ := hψ b hb'
    exact (hr.own d b hd).1
  have hS : ∀ b, S b → w'.heap[b]? = w.heap[b]? := fun b hb => hk.block b (hr.Slt b hb) (fun ht => by
    obtain ⟨d, _, hd⟩ := hτ b ht
    exact (hr.own d b hd).2.1 hb)
  have h1 : v.oneCell' = true := by
    rcases hown.2 with ⟨rfl, _⟩ | ⟨g, cap, cur, rfl, _⟩ <;> rfl
  have h := hr.new (ds := ds) hk hid (v := v) (sz := sz) (k := some (rows, us)) (o := .row 0 e sz rows) hτ
    ⟨.inr rfl, hsz, by simp [Gh.add], us, by simp [Gh.add], hrs, by simpa [Gh.add] using hown, ψ, fun b hb' => by
      have hb' : v.ownBlock = some b := by simpa [Gh.add] using hb'
      rcases hb b hb' with ⟨h1, h2⟩ | h1
      · exact ⟨.inl h1, h2⟩
      · exact ⟨.inr h1, fun h2 => by have := hψlt b h2; omega⟩, fun b hb' => .inl (hψ b hb'), hcr.move (fun b hb => hS b (hr.KS b hb)) (fun b hb => hS b (hr.KS b hb)) (fun b hb => hk.block b (hψlt b hb) (hψτ b hb))⟩ hfr
  exact ⟨_, _, h, .rf (.inr rfl) (by simp [Gh.add]) h1 .nil⟩

/-! ### literals of slices -/
theorem litRows_sound (hr : Rel0 F σ a w S G φ) {size : Nat} : ∀ (parts : List (Nat × Operand)) (n : Nat) {ps : List Prop} {rows : Rws} {ds : List Nat}, litRows σ.objs σ.env size n parts = some (ps, rows, ds) → AllP ps → (∀ p ∈ parts, ∀ v, p.2 = .const v → v.oneCell' = true) → ds.Nodup →
    rows.length = parts.length ∧ (∀ r ∈ rows, r.length = size) ∧ (∀ p ∈ parts, (a.eval p.2).cells.size = size) ∧ (∀ k p, parts[k]? = some p → p.1 = n + k) ∧ CR F.P w F.K F.K rows.flatten (parts.flatMap fun p => (a.eval p.2).cells.toList) (Of φ ds)
  | [], n, ps, rows, ds, h, _, _, _ => by
    simp only [litRows, Option.some.injEq, Prod.mk.injEq] at h
    obtain ⟨_, rfl, rfl⟩ := h
    exact ⟨rfl, by simp, by simp, by simp, .nil⟩
  | (i, x) :: r, n, ps, rows, ds, h, hp, hc, hn => by
    simp only [litRows] at h
    split at h
    · simp at h
    · rename_i hi
      split at h
      · simp at h
      · rename_i vc hvc
        split at h
        · simp at h
        · rename_i hlen
          split at h
          · simp at h
          · rename_i cs d hsk
            split at h
            · simp at h
            · rename_i ps' rows' ds' hrec
              simp only [Option.some.injEq, Prod.mk.injEq] at h
              obtain ⟨rfl, rfl, rfl⟩ := h
              rw [AllP_append] at hp
              have hv := cellsOf_sound (got hr (hc (i, x) (by simp)) rfl hp.1) hvc
              have h1 := sinkCells_sound hr hv hsk (List.nodup_append.1 hn).1
              obtain ⟨e1, e2, e3, e4, h2⟩ := litRows_sound hr r (n + 1) hrec hp.2 (fun p hp => hc p (by simp [hp])) (List.nodup_append.1 hn).2.1
              have hl : vc.length = size := by rw [← lenN_eq]; exact beq_true hlen
              have hsz : (a.eval x).cells.size = size := by rw [← Array.length_toList, hv.len, hl]
              refine ⟨by simp [e1], ?_, ?_, ?_, ?_⟩
              · intro q hq
                rcases List.mem_cons.1 hq with rfl | hq
                · rw [sinkCells_len hsk, hl]
                · exact e2 q hq
              · intro q hq
                rcases List.mem_cons.1 hq with rfl | hq
                · exact hsz
                · exact e3 q hq
              · intro k q hk
                cases k with
                | zero =>
                  simp only [List.getElem?_cons_zero, Option.some.injEq] at hk
                  subst hk
                  have := beq_true hi
                  omega
                | succ k =>
                  have := e4 k q (by simpa using hk)
                  omega
              · rw [List.flatten_cons, List.flatMap_cons]
                exact h1.join h2 (Of_dj hr hn) Of_app.1 Of_app.2

theorem fill_lit {size : Nat} (ev : Operand → Value) : ∀ (parts : List (Nat × Operand)) (k : Nat) (cur : Array Value), (∀ p ∈ parts, (ev p.2).cells.size = size) → (∀ j p, parts[j]? = some p → p.1 = k + j) → cur.size = (k + parts.length) * size →
    ∃ res, Instr.fill (fun i => some (i * size, size)) cur (parts.map fun (i, x) => (i, ev x)) = some res ∧ res.toList = cur.toList.take (k * size) ++ parts.flatMap fun p => (ev p.2).cells.toList
  | [], k, cur, _, _, hl => ⟨cur, rfl, by simp at hl; rw [List.take_of_length_le (by simp; omega)]; simp⟩
  | (i, x) :: r, k, cur, hs, hi, hl => by
    have hx := hs (i, x) (by simp)
    have hik : i = k := by have := hi 0 (i, x) rfl; simpa using this
    subst hik
    have hsz : i * size + size ≤ cur.size := by rw [hl, ← Nat.succ_mul]; exact Nat.mul_le_mul_right _ (by simp)
    have hset := foldl_set (ev x).cells.toList cur (i * size) 0 (by simp only [Array.length_toList]; simp only at hx; omega)
    simp only [Nat.add_zero] at hset
    obtain ⟨res, h1, h2⟩ := fill_lit ev r (i + 1) ((ev x).cells.zipIdx.foldl (fun cs (c, j) => cs.setIfInBounds (i * size + j) c) cur) (fun p hp => hs p (by simp [hp])) (fun j p hj => by have := hi (j + 1) p (by simpa using hj); omega) (by
      have : ((ev x).cells.zipIdx.foldl (fun cs (c, j) => cs.setIfInBounds (i * size + j) c) cur).toList.length = cur.size := by
        rw [← Array.foldl_toList]
        simp only [Array.toList_zipIdx]
        rw [hset]
        simp only [List.length_append, List.length_take, List.length_drop, Array.length_toList]
        simp only at hx
        omega
      simp only [Array.length_toList] at this
      rw [this, hl]
      simp only [List.length_cons]
      congr 1
      omega)
    refine ⟨res, ?_, ?_⟩
    · simp only [List.map_cons, Instr.fill]
      simp only at hx
      rw [if_neg (by simp only [hx]; simp; omega)]
      exact h1
    · rw [h2, ← Array.foldl_toList]
      simp only [Array.toList_zipIdx]
      rw [hset]
      simp only at hx
      have hl1 : (cur.toList.take (i * size)).length = i * size := by rw [List.length_take, Array.length_toList]; omega
      rw [List.flatMap_cons, ← List.append_assoc]
      congr 1
      rw [Nat.succ_mul, List.take_append_of_le_length (by simp only [List.length_append, hl1, Array.length_toList, hx]; omega), List.take_of_length_le (by simp only [List.length_append, hl1, Array.length_toList, hx]; omega)]

theorem lit_sound (hr : Rel0 F σ a w S G φ) {t : Nat} {ty te : Ty} (ht : TyOk F.P t ty) (hs : ty.isS = true) (hte : TyOk F.P ty.elem te) {id n : Nat} (hf : freshB σ.nx σ.objs id = true) {parts : Array (Nat × Operand)} {ps : List Prop} {rows : Rws} {ds : List Nat} (h : litRows σ.objs σ.env te.size 0 parts.toList = some (ps, rows, ds)) (hp : AllP ps) (hc : ∀ p ∈ parts.toList, ∀ v, p.2 = .const v → v.oneCell' = true)
    (hn : ds.Nodup) (hlen : n = rows.length) (hm : n * te.size ≤ 65536) (hz : n ≠ 0 → te.zero ≠ []) (hfr : ∀ d ∈ ds, d ≠ id) :
    ∃ u w' G' φ', (Instr.buildSlice t n (parts.map fun (i, x) => (i, a.eval x))).run F.P w = .ok u w' ∧ Rel0 F ⟨σ.n, σ.nx, σ.env, (id, .row 0 ty.elem te.size rows) :: (deads ds ++ σ.objs)⟩ a w' S G' φ' ∧ VR F.P w' F.K S G' (.rf id) u := by
  obtain ⟨e1, e2, e3, e4, hcr⟩ := litRows_sound hr parts.toList 0 h hp hc hn
  have hd := ht.isS hs
  obtain ⟨i, hi, hsz, _, hzz⟩ := hte.info
  have hszr : (sizeOf ty.elem).run F.P w = .ok te.size w := run_sizeOf hte
  have hpos := hte.pos
  have hz0 : ∃ zc : Array Value, n * te.size ≠ 0 → (zeroValue ty.elem).run F.P w = .ok (.agg zc) w ∨ ∃ z, (zeroValue ty.elem).run F.P w = .ok z w ∧ z.cells = zc := by
    by_cases hn0 : n * te.size = 0
    · exact ⟨#[], fun h => absurd hn0 h⟩
    · obtain ⟨z, hz1, _⟩ := hzz (hz (by rintro rfl; simp at hn0))
      exact ⟨z.cells, fun _ => .inr ⟨z, by simp [zeroValue, typeInfo, hi, hz1], rfl⟩⟩
  obtain ⟨zc, hzc⟩ := hz0
  have hpn : parts.toList.length = n := by rw [← e1, hlen]
  obtain ⟨res, hfill, hres⟩ := fill_lit (size := te.size) a.eval parts.toList 0 ((Array.range (n * te.size)).map (zc[· % zc.size]!)) e3 e4 (by simp [hpn])
  have hres' : res.toList = parts.toList.flatMap fun p => (a.eval p.2).cells.toList := by rw [hres]; simp
  have hrl : res.toList.length = n * te.size := by rw [hres', hcr.len, flatten_len rows e2, hlen]
  have hpa : (parts.map fun (i, x) => (i, a.eval x)).toList = parts.toList.map fun (i, x) => (i, a.eval x) := by simp
  have hown : (w.alloc (.cells res ty.elem)).ownsRow 0 ty.elem te.size (.slice (some ⟨w.heap.size, 0, none⟩) rows.length rows.length) rows.length res.toList := by
    refine ⟨by rw [hrl, hlen], .inr ⟨w.heap.size, rows.length, res, rfl, Nat.zero_le _, heap_alloc_new w _, Nat.le_refl _, ?_, ?_, ?_⟩⟩
    · rw [← hlen]
      have : n ≤ n * te.size := Nat.le_mul_of_pos_right _ hpos
      simp only [maxLen]
      omega
    · rw [← Array.length_toList, hrl, hlen]
    · rw [← hlen, ← hrl, List.take_length]
  rw [← hres'] at hcr
  obtain ⟨G', φ', h1, h2⟩ := row_new hr hf (ds := ds) (Kept.alloc w _ no) (fun b hb => hb.elim) (cellsOf_ty hte).symm e2 hown (ψ := Of φ ds) (fun b hb => by
    simp only [Value.ownBlock, Option.some.injEq] at hb
    subst hb
    exact .inr ⟨Nat.le_refl _, by simp⟩) (fun _ h => h) hcr (fun _ _ h => h.elim) hfr
  refine ⟨_, _, G', φ', ?_, h1, h2⟩
  unfold Instr.buildSlice
  rw [Sem.run_bind, run_underlying hd]
  simp only [Result.andThen_ok]
  rw [Sem.run_bind, hszr]
  simp only [Result.andThen_ok]
  rw [if_neg (show ¬ n * te.size > 2 ^ 24 by omega)]
  by_cases hn0 : n * te.size = 0
  · have hn1 : n = 0 := by
      rcases Nat.mul_eq_zero.1 hn0 with h | h
      · exact h
      · omega
    have hp0 : parts.toList = [] := by rw [← List.length_eq_zero_iff, hpn, hn1]
    have hr0 : res = #[] := by
      apply Array.ext'
      rw [hres', hp0]
      rfl
    have hrw : rows.length = 0 := by omega
    rw [if_pos hn0]
    have e0 : Array.range 0 = #[] := by apply Array.ext'; simp
    simp [hp0, Instr.fill, newRow, newObj, Sem.run, hn1, hr0, hrw, e0]
  · rw [if_neg hn0]
    have : ∃ z, (zeroValue ty.elem).run F.P w = .ok z w ∧ z.cells = zc := by
      rcases hzc hn0 with h | h
      · exact ⟨_, h, rfl⟩
      · exact h
    obtain ⟨z, hz1, rfl⟩ := this
    have hpa' : (Array.map (fun x => (x.fst, a.eval x.snd)) parts).toList = parts.toList.map fun (i, x) => (i, a.eval x) := by simp
    rw [Sem.run_bind, hz1]
    simp only [Result.andThen_ok, Sem.run_bind, Sem.run_pure, hpa', hfill]
    simp [newRow, newObj, Sem.run, hlen]

end Go.Proofs.Ytgicjbeaomjdgaa.L
