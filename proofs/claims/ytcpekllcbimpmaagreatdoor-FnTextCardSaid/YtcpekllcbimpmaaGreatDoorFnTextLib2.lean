/- Steps that make memory are sound, 2; stores. -/
import Derived.Test.YtcpekllcbimpmaaGreatDoorFnTextLib1
namespace Go.Proofs.YtcpekllcbimpmaaGreatDoor.L
set_option linter.unusedVariables false
set_option linter.unusedSimpArgs false
open Go
variable {F : Fr} {σ : St} {a : Act} {w : World} {S : Nat → Prop} {G : Gh} {φ : Nat → Nat → Prop} {tab : List (Nat × Ty)}
theorem qMO {α : Type} (l : List α) : ∀ (n i : Nat), i < n * l.length → (List.replicate n l).flatten[i]? = l[i % l.length]?
 | 0, i, h => by simp at h
 | n + 1, i, h => by
  rw [List.replicate_succ, List.flatten_cons]
  rcases Nat.lt_or_ge i l.length with hi | hi
  · rw [List.getElem?_append_left hi, Nat.mod_eq_of_lt hi]
  rw [List.getElem?_append_right hi, qMO l n (i - l.length) (by rw [Nat.succ_mul] at h; omega), Nat.mod_eq_sub_mod hi]
theorem qZT (z : Array Value) (n : Nat) (hz : 0 < z.size) : (madeCells z (n * z.size)).toList = (List.replicate n z.toList).flatten := by
 apply List.ext_getElem?
 intro i
 rcases Nat.lt_or_ge i (n * z.size) with hi | hi
 ·
  rw [qMO z.toList n i (by simpa using hi)]
  have hm : i % z.size < z.size := Nat.mod_lt _ hz
  simp [madeCells, hi, hm]
 rw [List.getElem?_eq_none (by simp [madeCells]; exact hi), List.getElem?_eq_none (by simp; exact hi)]
theorem CR.scalars {P : Program} {K S : Nat → Prop} {φ : Nat → Prop} : ∀ (vs : List Value), (∀ v ∈ vs, v.oneCell' = true) → CR P w K S (vs.map .s) vs φ
 | [], _ => .nil
 | v :: vs, h => .s (h v (by simp)) (CR.scalars vs (fun x hx => h x (by simp [hx])))
theorem qyO (hr : Rel0 F σ a w S G φ) {t : Nat} {ty te : Ty} (ht : TyOk F.P t ty) (hs : ty.isS = true) (hte : TyOk F.P ty.elem te) {id : Nat} (hf : freshB σ.nx σ.objs id = true) {n : Int} {kl kc : IntKind} (h0 : 0 ≤ n) (h1 : n * te.bytes ≤ 140737488355328) (h2 : n ≤ 140737488355328) (hz : te.zero ≠ []) :
  ∃ u w' G' φ', (Instr.makeSlice t (.int kl n) (.int kc n)).run F.P w = .ok u w' ∧ Rel0 F ⟨σ.n, σ.nx, σ.env, (id, .row 0 ty.elem te.size (Ls.rp n (te.zero.map .s))) :: σ.objs⟩ a w' S G' φ' ∧ VR F.P w' F.K S G' (.rf id) u := by
 obtain ⟨m, rfl⟩ := Int.eq_ofNat_of_zero_le h0
 obtain ⟨i, hi, hsz, hby, hzz⟩ := hte.info
 obtain ⟨z, hz1, hz2⟩ := hzz hz
 have hzl := hte.zlen hz
 have hzs : z.cells.size = te.size := by rw [← Array.length_toList, hz2, hzl]
 have hmb : m * te.bytes ≤ 140737488355328 := by
  rw [← Int.natCast_mul] at h1
  omega
 obtain ⟨w', hrun, hown, hg⟩ := run_make_full (P := F.P) w 0 t ty.elem i z te.size (ht.isS hs) hi hz1 hsz kl kc m (by rw [hby, Nat.mul_comm]; omega) (by simp only [maxLen]; omega) (Nat.zero_le _)
 have hrows : ∀ r ∈ (Ls.rp (m : Int) (te.zero.map .s)), r.length = te.size := by
  intro r hr'
  simp only [Ls] at hr'
  rw [(List.mem_replicate.1 hr').2, List.length_map, hzl]
 have hlen : (Ls.rp (m : Int) (te.zero.map .s)).length = m := by simp [Ls]
 have hfl : (Ls.rp (m : Int) (te.zero.map .s)).flatten = ((List.replicate m te.zero).flatten).map .s := by
  simp [Ls, List.map_flatten]
 have hus : (madeCells z.cells (m * te.size)).toList = (List.replicate m te.zero).flatten := by
  rw [← hzs, qZT z.cells m (by rw [hzs]; exact hte.pos), hz2]
 rw [hus] at hown
 obtain ⟨G', φ', h3, h4⟩ := qFK hr hf (ds := []) (rows := Ls.rp (m : Int) (te.zero.map .s)) (w' := w') (τ := fun b => (none : Option Nat) = some b) (Kept.of_grown hg) (fun b hb => by simp at hb) (qyC hte).symm hrows (by rw [hlen]; exact hown) (ψ := no) (fun b hb => by
  simp only [Value.ownBlock, Option.some.injEq] at hb
  subst hb
  refine .inr ⟨Nat.le_refl _, ?_⟩
  exact (hown.lt w.heap.size (by simp [Value.ownBlock])).2) (fun b hb => hb.elim) (by
   rw [hfl]
   refine CR.scalars _ (fun v hv => ?_)
   obtain ⟨l, hl, hv⟩ := List.mem_flatten.1 hv
   rw [(List.mem_replicate.1 hl).2] at hv
   exact hte.zero1 v hv) (fun _ h => h.elim) (by simp)
 exact ⟨_, w', G', φ', hrun, by simpa [deads] using h3, h4⟩
theorem CR.flat {P : Program} {K S S' : Nat → Prop} {φ φ' : Nat → Prop} {ts : List T} {us : List Value} (h : CR P w K S ts us φ) (hf : ∀ c ∈ ts, ∃ v, c = T.s v) : CR P w K S' ts us φ' := by
 induction h with
 | nil => exact .nil
 | s h1 _ ih => exact .s h1 (ih (fun c hc => hf c (by simp [hc])))
 | jk _ _ _ => exact absurd (hf .jk (by simp)) (by simp)
 | er _ _ => exact absurd (hf .er (by simp)) (by simp)
 | im0 _ _ _ _ _ _ _ _ _ _ => exact absurd (hf (.im false _) List.mem_cons_self) (by simp)
 | im1 _ _ _ _ _ _ _ _ _ _ => exact absurd (hf (.im true _) List.mem_cons_self) (by simp)
 | ow _ _ _ _ _ _ _ _ _ _ _ _ _ => exact absurd (hf (.ow _ _) List.mem_cons_self) (by simp)
 | ip _ _ _ _ _ _ _ => exact absurd (hf (.ip _) List.mem_cons_self) (by simp)
 | bx _ _ _ _ _ _ _ _ _ _ _ _ => exact absurd (hf (.bx _ _) List.mem_cons_self) (by simp)
 | fn _ _ _ _ _ => exact absurd (hf (.fn _ _) List.mem_cons_self) (by simp)
theorem qZL {sz : Nat} {rows : Rws} (h : Flat sz rows) : ∀ c ∈ rows.flatten, ∃ v, c = T.s v := by
 intro c hc
 obtain ⟨r, hr, hcr⟩ := List.mem_flatten.1 hc
 exact (h r hr).2 c hcr
theorem qaL (hr : Rel0 F σ a w S G φ) {size : Nat} {v : V} {u : Value} {ps : List Prop} {rows : Rws} {ds : List Nat} (hv : VR F.P w F.K S G v u) (h : source Ls σ.objs size v = some (ps, rows, ds)) (hp : AllP ps) :
  (∀ r ∈ rows, r.length = size) ∧ ∃ us ψ A c, u = .slice A rows.length c ∧ CR F.P w F.K F.K rows.flatten us ψ ∧ Sub ψ (Of φ ds) ∧ (0 < rows.length → ∃ ad, A = some ad ∧ ∀ j x, us[j]? = some x → w.cell? (ad.add j) = some x) := by
 unfold source at h
 split at h
 ·
  simp only [Option.some.injEq, Prod.mk.injEq] at h
  obtain ⟨rfl, rfl, rfl⟩ := h
  obtain ⟨rfl, _⟩ := hv.s_inv
  exact ⟨by simp, [], no, none, 0, rfl, .nil, fun _ h => h.elim, fun h => absurd h (by simp)⟩
 ·
  rename_i rows'
  simp only [Option.some.injEq, Prod.mk.injEq] at h
  obtain ⟨rfl, rfl, rfl⟩ := h
  obtain ⟨hf, _⟩ := hp
  refine ⟨fun r hr' => (hf r hr').1, ?_⟩
  cases hv with
  | t hx _ => cases hx with
   | im0 hn hc sz hs vs hA hcr _ =>
    subst hn
    refine ⟨vs, no, _, _, rfl, hcr.flat (qZL hf), fun _ h => h.elim, fun h0 => ?_⟩
    obtain ⟨b, o, rfl, _, hcell⟩ := hA h0
    exact ⟨_, rfl, fun j x hj => by rw [Addr.add_lit]; exact hcell j x hj⟩
 ·
  rename_i rows'
  simp only [Option.some.injEq, Prod.mk.injEq] at h
  obtain ⟨rfl, rfl, rfl⟩ := h
  obtain ⟨hf, _⟩ := hp
  refine ⟨hf, ?_⟩
  cases hv with
  | t hx _ => cases hx with
   | im1 hn hc sz hs vs hA hcr _ =>
    subst hn
    refine ⟨vs, no, _, _, rfl, hcr, fun _ h => h.elim, fun h0 => ?_⟩
    obtain ⟨b, o, rfl, _, hcell⟩ := hA h0
    exact ⟨_, rfl, fun j x hj => by rw [Addr.add_lit]; exact hcell j x hj⟩
 ·
  rename_i id
  split at h
  ·
   rename_i ver e sz rows' ho
   split at h
   ·
    rename_i hb
    simp only [Option.some.injEq, Prod.mk.injEq] at h
    obtain ⟨rfl, rfl, rfl⟩ := h
    obtain ⟨hid, _, hGs, us, hk, hrs, hown, ψ, hψb, hψ, hcr⟩ := hr.row ho
    refine ⟨fun r hr' => (hrs r hr').trans (qGB hb), ?_⟩
    cases hv with
    | rf _ hu _ _ =>
     subst hu
     rcases hown.2 with ⟨hβ, hn⟩ | ⟨g, cap, cur, hβ, _⟩
     · refine ⟨us, ψ, none, 0, by rw [hβ, hn], hcr, fun b hb => ⟨id, by simp, hψ b hb⟩, fun h => absurd h (by omega)⟩
     refine ⟨us, ψ, some ⟨g, 0, none⟩, cap, hβ, hcr, fun b hb => ⟨id, by simp, hψ b hb⟩, fun _ => ⟨_, rfl, fun j x hj => ?_⟩⟩
     rw [Addr.add_lit, Nat.zero_add]
     exact qqD hown (by rw [hβ]; rfl) hj
   simp at h
  · simp at h
 ·
  rename_i id lo hi
  split at h
  ·
   rename_i ver e sz rows' ho
   split at h
   ·
    rename_i hb
    simp only [Option.some.injEq, Prod.mk.injEq] at h
    obtain ⟨rfl, rfl, rfl⟩ := h
    obtain ⟨hf, hhi, _⟩ := hp
    obtain ⟨hid, _, hGs, us, hk, hrs, hown, ψ, hψb, hψ, hcr⟩ := hr.row ho
    have hsz := qGB hb
    have hrs' : ∀ r ∈ Ls.sr rows' lo hi, r.length = size := fun r hr' => (hf r (List.mem_of_mem_take (List.mem_of_mem_drop hr'))).1
    refine ⟨hrs', ?_⟩
    cases hv with
    | sb hid' h0 h1 hn hm hc hA _ _ =>
     rename_i A n c _ _
     simp only [Ls] at hhi
     have hlen : (Ls.sr rows' lo hi).length = n := by
      simp only [Ls, List.length_drop, List.length_take]
      omega
     have hcr' : CR F.P w F.K F.K (Ls.sr rows' lo hi).flatten ((us.take (hi.toNat * sz)).drop (lo.toNat * sz)) ψ := by
      have := (hcr.take (hi.toNat * sz)).drop (lo.toNat * sz)
      rwa [← qrD rows' hi.toNat hrs, ← qsD _ lo.toNat (fun r hr => hrs r (List.mem_of_mem_take hr))] at this
     refine ⟨_, no, A, c, by rw [hlen], hcr'.flat (fun x hx => ?_), fun _ h => h.elim, fun h0' => ?_⟩
     ·
      obtain ⟨r, hr', hxr⟩ := List.mem_flatten.1 hx
      exact (hf r (List.mem_of_mem_take (List.mem_of_mem_drop hr'))).2 x hxr
     obtain ⟨g, hg, rfl⟩ := hA (by omega)
     refine ⟨_, rfl, fun j x hj => ?_⟩
     rw [List.getElem?_drop, List.getElem?_take] at hj
     split at hj
     ·
      rw [Addr.add_lit, hGs]
      exact qqD hown hg hj
     cases hj
   simp at h
  · simp at h
 · simp at h
theorem qbL (hr : Rel0 F σ a w S G φ) {e : Nat} {v : V} {u : Value} {rows : Rws} {ds : List Nat} (hv : VR F.P w F.K S G v u) (h : target σ.objs e v = some (rows, ds)) :
  (∀ r ∈ rows, r.length = F.P.cellsOf e) ∧ ∃ us ψ, w.ownsRow 0 e (F.P.cellsOf e) u rows.length us ∧ CR F.P w F.K F.K rows.flatten us ψ ∧ Sub ψ (Of φ ds) ∧ ∀ b, u.ownBlock = some b → Of φ ds b ∧ ¬ ψ b := by
 unfold target at h
 split at h
 ·
  simp only [Option.some.injEq, Prod.mk.injEq] at h
  obtain ⟨rfl, rfl⟩ := h
  obtain ⟨rfl, _⟩ := hv.s_inv
  exact ⟨by simp, [], no, World.ownsRow_nil w 0 e _, .nil, fun _ h => h.elim, fun b hb => by simp [Value.ownBlock] at hb⟩
 ·
  rename_i id
  split at h
  ·
   rename_i ver e' sz rows' ho
   split at h
   ·
    rename_i hb
    simp only [Option.some.injEq, Prod.mk.injEq] at h
    obtain ⟨rfl, rfl⟩ := h
    obtain rfl := qGB hb
    obtain ⟨hid, hsz, hGs, us, hk, hrs, hown, ψ, hψb, hψ, hcr⟩ := hr.row ho
    subst hsz
    refine ⟨hrs, us, ψ, ?_, hcr, fun b hb => ⟨id, by simp, hψ b hb⟩, ?_⟩
    ·
     cases hv with
     | rf _ hu _ _ => subst hu; exact hown
    intro b hb
    cases hv with
    | rf _ hu _ _ => subst hu; exact ⟨⟨id, by simp, (hψb b hb).1⟩, (hψb b hb).2⟩
   simp at h
  · simp at h
 · simp at h
theorem qzH {P : Program} {t e : TypeId} {i : TypeInfo} {size n : Nat} {ty0 : TypeId} {v : Value} {xs : List Value} (ht : P.underlying t = some (.slice e)) (hi : P.info? e = some i) (hown : w.ownsRow 0 e size v n xs) (A : Option Addr) (c : Nat) :
  (Builtin.append_ #[t, t] ty0 #[v, .slice A 0 c]).run P w = .ok v w := by
 rcases hown.2 with ⟨rfl, rfl⟩ | ⟨g, cap, cur, rfl, _, _, hnc, _⟩
 · cases A <;> simp [Builtin.append_, run_underlying ht, sizeOf, typeInfo, hi, Builtin.lenOf, Builtin.firstCells, loadCells, loadCellsFrom]
 · cases A <;> simp [Builtin.append_, run_underlying ht, sizeOf, typeInfo, hi, Builtin.lenOf, Builtin.firstCells, hnc, storeCells, loadCells, loadCellsFrom]
theorem qAI (hr : Rel0 F σ a w S G φ) {t : Nat} {ty te : Ty} (ht : TyOk F.P t ty) (hs : ty.isS = true) (hte : TyOk F.P ty.elem te) {id : Nat} (hf : freshB σ.nx σ.objs id = true) {v1 : V} {u1 u2 : Value} (hv1 : VR F.P w F.K S G v1 u1) {r1 r2 : Rws} {d1 d2 : List Nat}
  (h1 : target σ.objs ty.elem v1 = some (r1, d1)) (h2 : (∀ r ∈ r2, r.length = te.size) ∧ ∃ us ψ A c, u2 = .slice A r2.length c ∧ CR F.P w F.K F.K r2.flatten us ψ ∧ Sub ψ (Of φ d2) ∧ (0 < r2.length → ∃ ad, A = some ad ∧ ∀ j x, us[j]? = some x → w.cell? (ad.add j) = some x)) (hn : (d1 ++ d2).Nodup) (hb1 : (Ls.ln r1 + Ls.ln r2) * te.bytes ≤ 140737488355328) (hb2 : Ls.ln r1 + Ls.ln r2 ≤ 140737488355328) (hz : te.zero ≠ []) (hfr : ∀ d ∈ d1 ++ d2, d ≠ id) (ty0 : TypeId) :
  ∃ u w' G' φ', (Builtin.append_ #[t, t] ty0 #[u1, u2]).run F.P w = .ok u w' ∧ Rel0 F ⟨σ.n, σ.nx, σ.env, (id, .row 0 ty.elem te.size (Ls.ap r1 r2)) :: (deads (d1 ++ d2) ++ σ.objs)⟩ a w' S G' φ' ∧ VR F.P w' F.K S G' (.rf id) u := by
 obtain ⟨hs1, us1, ψ1, hown, hc1, hψ1, hub⟩ := qbL hr hv1 h1
 obtain ⟨hs2, us2, ψ2, A, c, rfl, hc2, hψ2, hA⟩ := h2
 have hce := qyC hte
 rw [hce] at hs1 hown
 obtain ⟨i, hi, hsz, hby, hzz⟩ := hte.info
 obtain ⟨z, hz1, hz2⟩ := hzz hz
 have hzs : z.cells.size = te.size := by rw [← Array.length_toList, hz2, hte.zlen hz]
 have hdj : Dj ψ1 ψ2 := fun b h1 h2 => Of_dj hr hn b (hψ1 b h1) (hψ2 b h2)
 have hcr : CR F.P w F.K F.K (Ls.ap r1 r2).flatten (us1 ++ us2) (fun b => ψ1 b ∨ ψ2 b) := by
  simp only [Ls, List.flatten_append]
  exact hc1.join hc2 hdj (fun _ h => .inl h) (fun _ h => .inr h)
 have hrows : ∀ r ∈ Ls.ap r1 r2, r.length = te.size := by
  intro r hr'
  simp only [Ls, List.mem_append] at hr'
  exact hr'.elim (hs1 r) (hs2 r)
 have hlen : (Ls.ap r1 r2).length = r1.length + r2.length := by simp [Ls]
 have hψ : Sub (fun b => ψ1 b ∨ ψ2 b) (Of φ (d1 ++ d2)) := fun b h => h.elim (fun h => qiD.1 b (hψ1 b h)) (fun h => qiD.2 b (hψ2 b h))
 have hbl : ∀ b, u1.ownBlock = some b → Of φ (d1 ++ d2) b ∧ ¬ (ψ1 b ∨ ψ2 b) := fun b hb => by
  obtain ⟨h1, h2⟩ := hub b hb
  exact ⟨qiD.1 b h1, fun h => h.elim h2 (fun h3 => Of_dj hr hn b h1 (hψ2 b h3))⟩
 simp only [Ls] at hb1 hb2
 rw [← Int.natCast_add, ← Int.natCast_mul] at hb1
 by_cases h0 : 0 < r2.length
 ·
  obtain ⟨ad, rfl, hcell⟩ := hA h0
  have hul : us2.length = r2.length * te.size := hc2.len.trans (qvB r2 hs2)
  obtain ⟨v', w', hrun, hown', hg, _, hblk⟩ := run_append_own_at (P := F.P) w 0 t ty0 ty.elem i z te.size te.bytes (ht.isS hs) hi hz1 hsz hby hzs hte.pos u1 r1.length us1 hown ad r2.length c us2 hul hcell hc2.one (by simp only [maxLen]; omega) (by omega) (Nat.zero_le _)
  obtain ⟨G', φ', h3, h4⟩ := qFK hr hf (ds := d1 ++ d2) (rows := Ls.ap r1 r2) (w' := w') (Kept.of_grown hg) (fun b hb => (hbl b hb).1) hce.symm hrows (by rw [hlen]; exact hown') (fun b hb => by
   rcases hblk with hh | hh
   · exact .inl (hbl b (hh ▸ hb))
   rw [hh] at hb
   obtain rfl := Option.some.inj hb
   exact .inr ⟨Nat.le_refl _, (hown'.lt _ hh).2⟩) hψ hcr (fun b hb ht => (hbl b ht).2 hb) hfr
  exact ⟨v', w', G', φ', hrun, h3, h4⟩
 ·
  have hr2 : r2 = [] := List.eq_nil_of_length_eq_zero (by omega)
  have hus2 : us2 = [] := List.eq_nil_of_length_eq_zero (by rw [hc2.len, hr2]; rfl)
  have hrun := qzH (P := F.P) (w := w) (ty0 := ty0) (ht.isS hs) hi hown A c
  have e0 : r2.length = 0 := by omega
  obtain ⟨G', φ', h3, h4⟩ := qFK hr hf (ds := d1 ++ d2) (rows := Ls.ap r1 r2) (w' := w) (us := us1) (Kept.refl w no) (fun b hb => hb.elim) hce.symm hrows (by rw [hlen, e0]; exact hown) (fun b hb => .inl (hbl b hb)) hψ (by rw [hus2, List.append_nil] at hcr; exact hcr) (fun _ _ h => h.elim) hfr
  exact ⟨u1, w, G', φ', by rw [e0]; exact hrun, h3, h4⟩
theorem qcL (hr : Rel0 F σ a w S G φ) {t : Nat} {ty te : Ty} (ht : TyOk F.P t ty) (hs : ty.isS = true) (hte : TyOk F.P ty.elem te) {id : Nat} (hf : freshB σ.nx σ.objs id = true) {v1 v2 : V} {u1 u2 : Value} (hv1 : VR F.P w F.K S G v1 u1) (hv2 : VR F.P w F.K S G v2 u2) {r1 r2 : Rws} {d1 d2 : List Nat} {ps : List Prop}
  (h1 : target σ.objs ty.elem v1 = some (r1, d1)) (h2 : source Ls σ.objs te.size v2 = some (ps, r2, d2)) (hp : AllP ps) (hn : (d1 ++ d2).Nodup) (hb1 : (Ls.ln r1 + Ls.ln r2) * te.bytes ≤ 140737488355328) (hb2 : Ls.ln r1 + Ls.ln r2 ≤ 140737488355328) (hz : te.zero ≠ []) (hfr : ∀ d ∈ d1 ++ d2, d ≠ id) (ty0 : TypeId) :
  ∃ u w' G' φ', (Builtin.append_ #[t, t] ty0 #[u1, u2]).run F.P w = .ok u w' ∧ Rel0 F ⟨σ.n, σ.nx, σ.env, (id, .row 0 ty.elem te.size (Ls.ap r1 r2)) :: (deads (d1 ++ d2) ++ σ.objs)⟩ a w' S G' φ' ∧ VR F.P w' F.K S G' (.rf id) u :=
 qAI hr ht hs hte hf hv1 h1 (qaL hr hv2 h2 hp) hn hb1 hb2 hz hfr ty0
theorem CR.junk {P : Program} {K : Nat → Prop} : ∀ (us : List Value), (∀ v ∈ us, v.oneCell' = true) → CR P w K S (List.replicate us.length .jk) us no
 | [], _ => .nil
 | u :: us, h => .jk (h u (List.mem_cons_self)) (CR.junk us fun v hv => h v (List.mem_cons_of_mem _ hv))
theorem qNO {sz : Nat} : ∀ n : Nat, (List.replicate n (List.replicate sz T.jk)).flatten = List.replicate (n * sz) T.jk
 | 0 => by simp
 | n + 1 => by rw [List.replicate_succ, List.flatten_cons, qNO n, List.replicate_append_replicate]; congr 1; rw [Nat.add_mul]; omega
theorem pull (hr : Rel0 F σ a w S G φ) {sid ver e sz : Nat} {rows : Rws} (ho : look .dead σ.objs sid = .row ver e sz rows) {lo hi : Int} (h0 : 0 ≤ lo) (h1 : lo ≤ hi) (h2 : hi ≤ (rows.length : Int)) (hm : hi - lo ≤ maxLen) {cid : Nat} (hcid : look .dead σ.objs cid = .dead) :
  ∃ G' φ', Rel0 F ⟨σ.n, σ.nx, σ.env, (cid, .dead) :: (sid, .row (ver + 1) e sz (jrL Ls rows lo hi sz)) :: σ.objs⟩ a w S G' φ' ∧ G.le G' ∧ (∀ i, G'.dom i → G.dom i) ∧
   ∃ us ψ, CR F.P w F.K F.K (Ls.sr rows lo hi).flatten us ψ ∧ Sub ψ (φ' cid) ∧ ∀ g, blk (G.β sid) = some g → ∀ j x, us[j]? = some x → w.cell? ⟨g, lo.toNat * sz + j, none⟩ = some x := by
 obtain ⟨l, rfl⟩ : ∃ k : Nat, lo = k := ⟨lo.toNat, by omega⟩
 obtain ⟨m, rfl⟩ : ∃ k : Nat, hi = k := ⟨hi.toNat, by omega⟩
 have hne : cid ≠ sid := by rintro rfl; rw [ho] at hcid; cases hcid
 have hno : G.κ sid (ver + 1) = none := by
  cases hx : G.κ sid (ver + 1) with
  | none => rfl
  | some x => have := (hr.kd sid (ver + 1) x hx).2 _ _ _ _ ho; omega
 obtain ⟨hid, hsz, hGs, us, hκ, hrs, hown, ψ, hb, hψ, hcr⟩ := hr.row ho
 have hlen := hown.1
 have e0 : rows = (rows.take l ++ (rows.take m).drop l) ++ rows.drop m := by
  have : rows.take l = (rows.take m).take l := by rw [List.take_take, Nat.min_eq_left (by omega)]
  rw [this, List.take_append_drop, List.take_append_drop]
 have hsub : Ls.ar .sub .i64 (m : Int) (l : Int) = ((m - l : Nat) : Int) := by
  show IntKind.i64.wrap _ = _
  rw [show ((m : Int) - l) = ((m - l : Nat) : Int) by omega]
  exact qrG (by omega)
 have ejr : jrL Ls rows l m sz = (rows.take l ++ List.replicate (m - l) (List.replicate sz T.jk)) ++ rows.drop m := by
  unfold jrL
  rw [hsub]
  simp [Ls]
 have hsr : Ls.sr rows l m = (rows.take m).drop l := by simp [Ls]
 rw [show rows.flatten = ((rows.take l).flatten ++ ((rows.take m).drop l).flatten) ++ (rows.drop m).flatten from (congrArg List.flatten e0).trans (by simp)] at hcr
 obtain ⟨uab, uC, φab, φC, rfl, hab, hC, hdC, sab, sC⟩ := CR.split hcr
 obtain ⟨uA, uB, φA, φB, rfl, hA, hB, hdB, sA, sB⟩ := CR.split hab
 have lA : uA.length = l * sz := by
  rw [hA.len, qvB _ (fun r hr => hrs r (List.mem_of_mem_take hr)), List.length_take, Nat.min_eq_left (by omega)]
 have lB : uB.length = (m - l) * sz := by
  rw [hB.len, qvB _ (fun r hr => hrs r (List.mem_of_mem_take (List.mem_of_mem_drop hr))), List.length_drop, List.length_take, Nat.min_eq_left (by omega)]
 have hrs' : ∀ r ∈ jrL Ls rows l m sz, r.length = sz := by
  intro r hr'
  rw [ejr] at hr'
  rcases List.mem_append.1 hr' with h | h
  ·
   rcases List.mem_append.1 h with h | h
   · exact hrs r (List.mem_of_mem_take h)
   rw [(List.mem_replicate.1 h).2]; simp
  · exact hrs r (List.mem_of_mem_drop h)
 have hl' : (jrL Ls rows l m sz).length = rows.length := by
  rw [ejr]; simp; omega
 have hcr' : CR F.P w F.K F.K (jrL Ls rows l m sz).flatten (uA ++ uB ++ uC) (fun b => φA b ∨ φC b) := by
  rw [ejr, List.flatten_append, List.flatten_append, qNO, ← lB]
  refine CR.join (φ1 := φA) ?_ hC (fun b h h' => hdC b (sA b h) h') (fun b h => .inl h) (fun b h => .inr h)
  exact CR.join hA (CR.junk uB (hB.one)) (fun _ _ h => h.elim) (fun b h => h) (fun _ h => h.elim)
 let G' : Gh := { G with κ := fun x v => if x = sid ∧ v = ver + 1 then some (jrL Ls rows l m sz, uA ++ uB ++ uC) else G.κ x v }
 have hle : G.le G' := by
  refine ⟨fun x h => h, fun x h => rfl, fun x h => rfl, fun x v y h => ?_⟩
  show (if x = sid ∧ v = ver + 1 then _ else G.κ x v) = some y
  rw [if_neg (by rintro ⟨rfl, rfl⟩; rw [hno] at h; cases h)]
  exact h
 let φ' : Nat → Nat → Prop := fun x b => if x = cid then φ cid b ∨ φB b else φ x b ∧ (x = sid → ¬ φB b)
 have φBψ : ∀ b, φB b → ψ b := fun b h => sab b (sB b h)
 have φBid : ∀ b, φB b → φ sid b := fun b h => hψ b (φBψ b h)
 refine ⟨G', φ', ⟨?_, ?_, hr.n, hr.KS, hr.Slt, ?_, ?_, ?_, ?_, hr.kept, hr.defs, hr.anc⟩, hle, fun _ h => h, uB, φB, by rw [hsr]; exact hB, fun b h => ?_, ?_⟩
 ·
  intro x hx
  rcases hr.nx x hx with h | h
  · exact .inl h
  · exact .inr ((qY _ _ _ _).2 (.inr ((qY _ _ _ _).2 (.inr h))))
 ·
  intro x v y hx
  have hx' : (if x = sid ∧ v = ver + 1 then some (jrL Ls rows l m sz, uA ++ uB ++ uC) else G.κ x v) = some y := hx
  by_cases hxi : x = sid ∧ v = ver + 1
  ·
   obtain ⟨rfl, rfl⟩ := hxi
   refine ⟨hid, fun ver' e' sz' r' hl => ?_⟩
   rw [qL, if_neg (fun e => hne e.symm), qL, if_pos rfl] at hl
   simp only [O.row.injEq] at hl
   omega
  ·
   rw [if_neg hxi] at hx'
   refine ⟨(hr.kd x v y hx').1, fun ver' e' sz' r' hl => ?_⟩
   rw [qL] at hl
   by_cases hxc : x = cid
   · rw [if_pos hxc] at hl; cases hl
   rw [if_neg hxc, qL] at hl
   by_cases hxd : x = sid
   ·
    subst hxd
    rw [if_pos rfl] at hl
    simp only [O.row.injEq] at hl
    have := (hr.kd _ v y hx').2 _ _ _ _ ho
    omega
   rw [if_neg hxd] at hl
   exact (hr.kd x v y hx').2 _ _ _ _ hl
 ·
  intro t
  exact (hr.env t).move (fun _ _ => rfl) (fun _ _ => rfl) hle
 ·
  intro x
  show OR F.P w F.K S G' (φ' x) x (look .dead ((cid, .dead) :: (sid, .row (ver + 1) e sz (jrL Ls rows l m sz)) :: σ.objs) x)
  rw [qL]
  by_cases hxc : x = cid
  · rw [if_pos hxc]; trivial
  ·
   rw [if_neg hxc, qL]
   by_cases hxd : x = sid
   ·
    subst hxd
    rw [if_pos rfl]
    refine ⟨hid, hsz, hGs, uA ++ uB ++ uC, ?_, hrs', ?_, (fun b => φA b ∨ φC b), ?_, ?_, hcr'⟩
    ·
     show (if x = x ∧ ver + 1 = ver + 1 then _ else _) = _
     rw [if_pos ⟨rfl, rfl⟩]
    · rw [hl']; exact hown
    ·
     intro b hb'
     obtain ⟨p, q⟩ := hb b hb'
     refine ⟨?_, fun h => q (h.elim (fun h => sab b (sA b h)) (sC b))⟩
     show (if x = cid then _ else φ x b ∧ (x = x → ¬ φB b))
     rw [if_neg hxc]
     exact ⟨p, fun _ h => q (φBψ b h)⟩
    intro b hb'
    show (if x = cid then _ else φ x b ∧ (x = x → ¬ φB b))
    rw [if_neg hxc]
    refine ⟨hψ b (hb'.elim (fun h => sab b (sA b h)) (sC b)), fun _ h => ?_⟩
    rcases hb' with h' | h'
    · exact hdB b h' h
    exact hdC b (sB b h) h'
   rw [if_neg hxd]
   have hφ : φ' x = φ x := by
    funext b
    show (if x = cid then _ else φ x b ∧ (x = sid → ¬ φB b)) = _
    rw [if_neg hxc]
    simp [hxd]
   rw [hφ]
   exact (hr.obj x).move (fun _ _ => rfl) (fun _ _ => rfl) (fun _ _ => rfl) hle
 ·
  intro x y hxy b hx hy
  have hx : (if x = cid then φ cid b ∨ φB b else φ x b ∧ (x = sid → ¬ φB b)) := hx
  have hy : (if y = cid then φ cid b ∨ φB b else φ y b ∧ (y = sid → ¬ φB b)) := hy
  by_cases hxc : x = cid
  ·
   rw [if_pos hxc] at hx
   rw [if_neg (fun e => hxy (hxc.trans e.symm))] at hy
   rcases hx with hx | hx
   · exact hr.dj cid y (hxc ▸ hxy) b hx hy.1
   by_cases hys : y = sid
   · exact hy.2 hys hx
   exact hr.dj sid y (fun e => hys e.symm) b (φBid b hx) hy.1
  ·
   rw [if_neg hxc] at hx
   by_cases hyc : y = cid
   ·
    rw [if_pos hyc] at hy
    rcases hy with hy | hy
    · exact hr.dj x cid (hyc ▸ hxy) b hx.1 hy
    by_cases hxs : x = sid
    · exact hx.2 hxs hy
    exact hr.dj x sid hxs b hx.1 (φBid b hy)
   rw [if_neg hyc] at hy
   exact hr.dj x y hxy b hx.1 hy.1
 ·
  intro x b hx
  have hx : (if x = cid then φ cid b ∨ φB b else φ x b ∧ (x = sid → ¬ φB b)) := hx
  split at hx
  ·
   rcases hx with hx | hx
   · exact hr.own cid b hx
   exact hr.own sid b (φBid b hx)
  · exact hr.own x b hx.1
 ·
  show (if cid = cid then φ cid b ∨ φB b else _)
  rw [if_pos rfl]
  exact .inr h
 ·
  intro g hg j x hj
  have : (uA ++ uB ++ uC)[l * sz + j]? = some x := by
   have hlt := (List.getElem?_eq_some_iff.1 hj).1
   rw [List.append_assoc, List.getElem?_append_right (by omega), lA, Nat.add_sub_cancel_left, List.getElem?_append_left hlt]
   exact hj
  rw [Int.toNat_natCast]
  exact qqD hown hg this
theorem qGH {P : Program} {t : Nat} {ty : Ty} (ht : TyOk P t ty) {v : Value} (hv : v.cells.size = ty.size) (h1 : ∀ x ∈ v.cells.toList, x.oneCell' = true) {g o e : Nat} {cur : Array Value} (hg : w.heap[g]? = some (.cells cur e (0, 0))) (hb : o + ty.size ≤ cur.size) :
  (storeVar t ⟨g, o, none⟩ v).run P w = .ok () (w.setRow g (cur.toList.take o ++ v.cells.toList ++ cur.toList.drop (o + ty.size)).toArray) := by
 have hst := run_storeCells_at P g o e v.cells.toList 0 cur w hg (by simp; omega) h1
 simp only [Nat.add_zero] at hst
 unfold storeVar
 rw [Sem.run_bind, qdD ht]
 simp only [Result.andThen_ok]
 rw [if_neg (by simpa using hv), hst, Array.length_toList, hv]
theorem qBI (w : World) (g : Nat) (c : Array Value) (φ : Nat → Prop) (h : φ g) : Kept w (w.setRow g c) φ :=
 ⟨rfl, rfl, rfl, by simp, fun b _ hn => setRow_other w g b _ (fun e => hn (e ▸ h))⟩
theorem VRs.one {P : Program} {K : Nat → Prop} {vs : List V} {us : List Value} (h : VRs P w K S G vs us) : atomsB vs = true → ∀ u ∈ us, u.oneCell' = true := by
 induction vs generalizing us with
 | nil => cases h; simp
 | cons v vs ih =>
  intro hc u hu
  obtain ⟨x, us', rfl, h1, h2⟩ := h.uncons
  cases h1 with
  | t hx _ => exact (List.mem_cons.1 hu).elim (fun e => e ▸ hx.one _ (by simp)) (ih h2 hc u)
  | rf _ _ h1 _ => exact (List.mem_cons.1 hu).elim (fun e => e ▸ h1) (ih h2 hc u)
  | sb _ _ _ _ _ _ _ _ _ => exact (List.mem_cons.1 hu).elim (fun e => e ▸ rfl) (ih h2 hc u)
  | np _ _ _ _ _ _ _ _ _ hsl _ => exact (List.mem_cons.1 hu).elim (fun e => by obtain ⟨A, c, rfl⟩ := hsl; exact e ▸ rfl) (ih h2 hc u)
  | pt _ _ _ _ => exact (List.mem_cons.1 hu).elim (fun e => e ▸ rfl) (ih h2 hc u)
  | fn _ _ => exact (List.mem_cons.1 hu).elim (fun e => e ▸ rfl) (ih h2 hc u)
  | ag _ _ => simp [atomsB] at hc
  | tu _ _ => simp [atomsB] at hc
  | cd0 _ => simp [atomsB] at hc
  | cd1 _ _ => simp [atomsB] at hc
  | uu _ => simp [atomsB] at hc
  | hl _ _ _ _ _ _ _ _ => simp [atomsB] at hc
theorem Rel0.chg (h : Rel0 F σ a w S G φ) {w' : World} {id : Nat} {ds : List Nat} {o : O} {G' : Gh} (hid : G.dom id) (hk : Kept w w' (φ id)) (hG : G.le G') (hdom : ∀ i, G'.dom i → G.dom i)
  (hkd : ∀ i v x, G'.κ i v = some x → G.κ i v = some x ∨ i = id) (hkd' : ∀ v x ver e sz rows, G'.κ id v = some x → o = .row ver e sz rows → v ≤ ver)
  (hds : id ∉ ds) (ho : OR F.P w' F.K S G' (fun b => φ id b ∨ Of φ ds b) id o) :
  Rel0 F ⟨σ.n, σ.nx, σ.env, (id, o) :: (deads ds ++ σ.objs)⟩ a w' S G' (fun i b => if i = id then φ id b ∨ Of φ ds b else if i ∈ ds then False else φ i b) := by
 have hlk : ∀ i, look O.dead ((id, o) :: (deads ds ++ σ.objs)) i = if i = id then o else if i ∈ ds then .dead else look .dead σ.objs i := by
  intro i
  rw [qL, qj, qqG]
  by_cases hi : i = id
  · simp [hi]
  ·
   rw [if_neg hi, if_neg hi]
   by_cases hd : i ∈ ds
   · rw [if_pos hd, if_pos ((qLD ds i).2 hd)]
   rw [if_neg hd, if_neg (fun e => hd ((qLD ds i).1 e))]
 refine h.step hk hG _ rfl (fun i hi => ?_) rfl (fun i j x hx => ?_) (fun b hb _ => (h.own id b hb).2) (fun i => ?_) (fun i j hij => ?_) (fun i b hb => ?_)
 ·
  rcases h.nx i (hdom i hi) with hi | hi
  · exact .inl hi
  · exact .inr ((qY _ _ _ _).2 (.inr ((qZC _ _ _).2 (.inr hi))))
 ·
  by_cases hi : i = id
  ·
   subst hi
   refine ⟨hG.dom _ hid, fun ver e sz rows hl => ?_⟩
   rw [hlk, if_pos rfl] at hl
   exact hkd' j x ver e sz rows hx hl
  ·
   have hx' := (hkd i j x hx).resolve_right hi
   obtain ⟨h1, h2⟩ := h.kd i j x hx'
   refine ⟨hG.dom _ h1, fun ver e sz rows hl => ?_⟩
   rw [hlk, if_neg hi] at hl
   split at hl
   · simp at hl
   exact h2 _ _ _ _ hl
 ·
  rw [hlk]
  by_cases hi : i = id
  ·
   right
   rw [if_pos hi]
   subst hi
   simpa using ho
  ·
   rw [if_neg hi]
   by_cases hd : i ∈ ds
   · right; rw [if_pos hd]; trivial
   left
   rw [if_neg hd]
   exact ⟨rfl, by funext b; simp [hd, hi], fun b hb ht => h.dj i id hi b hb ht⟩
 ·
  intro b hb hb'
  by_cases hi : i = id
  ·
   rw [if_pos hi] at hb
   rw [if_neg (fun e => hij (hi.trans e.symm))] at hb'
   split at hb'
   · exact hb'
   rename_i hjd
   rcases hb with hb | ⟨d, hd, hb⟩
   · exact h.dj id j (fun e => hij (hi.trans e)) b hb hb'
   exact h.dj d j (fun e => hjd (e ▸ hd)) b hb hb'
  ·
   rw [if_neg hi] at hb
   split at hb
   · exact hb
   rename_i hid'
   by_cases hj : j = id
   ·
    rw [if_pos hj] at hb'
    rcases hb' with hb' | ⟨d, hd, hb'⟩
    · exact h.dj i id hi b hb hb'
    exact h.dj i d (fun e => hid' (e ▸ hd)) b hb hb'
   rw [if_neg hj] at hb'
   split at hb'
   · exact hb'
   exact h.dj i j hij b hb hb'
 ·
  by_cases hi : i = id
  ·
   rw [if_pos hi] at hb
   have key : ∀ d, φ d b → b < w'.heap.size ∧ ¬ S b ∧ (F.w0.heap.size ≤ b ∨ F.φ0 b) := fun d hd => ⟨Nat.lt_of_lt_of_le (h.own d b hd).1 hk.size, (h.own d b hd).2⟩
   rcases hb with hb | ⟨d, _, hb⟩
   · exact .inr (key id hb)
   exact .inr (key d hb)
  rw [if_neg hi] at hb
  split at hb
  · exact hb.elim
  exact .inl hb
theorem qsP (hr : Rel0 F σ a w S G φ) {t : Nat} {ty : Ty} (ht : TyOk F.P t ty) {id e j : Nat} {cs vc : List V} {u v : Value} (ho : look .dead σ.objs id = .box e cs) (hu : VR F.P w F.K S G (.pt id 0 j) u) (hv : VRs F.P w F.K S G vc v.cells.toList) (hat : atomsB vc = true) (hl : vc.length = ty.size) (hb : j + ty.size ≤ cs.length) :
  ∃ w' φ', (Instr.storeAt t u v).run F.P w = .ok () w' ∧ Rel0 F ⟨σ.n, σ.nx, σ.env, (id, .box e (cs.take j ++ vc ++ cs.drop (j + ty.size))) :: σ.objs⟩ a w' S G φ' := by
 obtain ⟨g, us, hβ, hg, hus, hφ⟩ := hr.blk_lt ho
 have hid : G.dom id := by
  have := hr.obj id
  rw [ho] at this
  exact this.1
 have hul := hus.len
 have hvs : v.cells.size = ty.size := by rw [← Array.length_toList, hv.len, hl]
 cases hu with
 | pt hid' hi hg' _ =>
  rw [hβ] at hg'
  obtain rfl : g = _ := by simpa [blk] using hg'
  have hrun := qGH ht hvs (hv.one hat) hg (o := j) (by simp; omega)
  have hS : ∀ b, S b → (w.setRow g ((us.toArray.toList.take j ++ v.cells.toList ++ us.toArray.toList.drop (j + ty.size)).toArray)).heap[b]? = w.heap[b]? := fun b hb => setRow_other w g b _ (fun e => (hr.own id g hφ).2.1 (e ▸ hb))
  refine ⟨_, _, ?_, hr.chg (ds := []) hid (qBI w g _ _ hφ) (Gh.le.refl G) (fun _ h => h) (fun _ _ _ h => .inl h) (by simp) (by simp) ⟨hid, g, us.toArray.toList.take j ++ v.cells.toList ++ us.toArray.toList.drop (j + ty.size), hβ, setRow_heap w g us.toArray _ e _ hg, .inl hφ, ?_⟩⟩
  · simp only [Instr.storeAt, Instr.sureAddr, Sem.run_bind, Sem.run_pure, Result.andThen_ok, Int.toNat_zero, Nat.zero_mul, Nat.zero_add, hrun]
  have := (hus.splice hv j).move (w' := w.setRow g ((us.toArray.toList.take j ++ v.cells.toList ++ us.toArray.toList.drop (j + ty.size)).toArray)) (G' := G) (fun b hb => hS b (hr.KS b hb)) hS (Gh.le.refl G)
  rw [hl] at this
  exact this
def Gh.ver (G : Gh) (id v : Nat) (k : Rws × List Value) : Gh := { G with κ := fun i j => if i = id ∧ j = v then some k else G.κ i j }
theorem Gh.le_ver {G : Gh} {id v : Nat} {k : Rws × List Value} (h : G.κ id v = none) : G.le (G.ver id v k) := by
 refine ⟨fun _ h => h, fun _ _ => rfl, fun _ _ => rfl, fun i j x hx => ?_⟩
 simp only [Gh.ver]
 rw [if_neg]
 · exact hx
 rintro ⟨rfl, rfl⟩
 rw [h] at hx
 cases hx
theorem qCI {α : Type} {sz : Nat} : ∀ (rows : List (List α)) (i : Nat) (x : List α), (∀ r ∈ rows, r.length = sz) → i < rows.length → x.length = sz → (rows.set i x).flatten = rows.flatten.take (i * sz) ++ x ++ rows.flatten.drop (i * sz + sz)
 | [], i, _, _, h, _ => by simp at h
 | r :: rows, 0, x, hs, _, _ => by
  have := hs r (by simp)
  simp [← this]
 | r :: rows, i + 1, x, hs, h, hx => by
  have hr := hs r (by simp)
  have ih := qCI rows i x (fun q hq => hs q (by simp [hq])) (by simpa using h) hx
  rw [List.set_cons_succ, List.flatten_cons, List.flatten_cons, ih, List.take_append, List.drop_append, List.take_of_length_le (l := r) (by rw [hr, Nat.add_mul]; omega), List.drop_eq_nil_of_le (as := r) (by rw [hr, Nat.add_mul]; omega)]
  have e1 : (i + 1) * sz - r.length = i * sz := by rw [hr, Nat.add_mul]; omega
  have e2 : (i + 1) * sz + sz - r.length = i * sz + sz := by rw [hr, Nat.add_mul]; omega
  rw [e1, e2]
  simp
theorem qzO {sz : Nat} {rows : Rws} {i : Int} {j : Nat} {ts : List T} (hs : ∀ r ∈ rows, r.length = sz) (hi : i.toNat < rows.length) (hj : j + ts.length ≤ sz) :
  (Ls.up rows i j ts).flatten = rows.flatten.take (i.toNat * sz + j) ++ ts ++ rows.flatten.drop (i.toNat * sz + j + ts.length) ∧ (∀ r ∈ Ls.up rows i j ts, r.length = sz) ∧ (Ls.up rows i j ts).length = rows.length := by
 have hri : (rows.getD i.toNat []).length = sz := by
  rw [List.getD_eq_getElem?_getD, List.getElem?_eq_getElem hi]
  exact hs _ (List.getElem_mem hi)
 have hxl : ((rows.getD i.toNat []).take j ++ ts ++ (rows.getD i.toNat []).drop (j + ts.length)).length = sz := by
  simp only [List.length_append, List.length_take, List.length_drop, hri]
  omega
 have hfl := qvB rows hs
 have hbd : i.toNat * sz + sz ≤ rows.length * sz := by rw [← Nat.succ_mul]; exact Nat.mul_le_mul_right _ hi
 refine ⟨?_, ?_, by simp [Ls]⟩
 ·
  simp only [Ls]
  rw [qCI rows i.toNat _ hs hi hxl, ← qeD rows i.toNat hs hi]
  have a1 : ((rows.flatten.drop (i.toNat * sz)).take sz).take j = (rows.flatten.drop (i.toNat * sz)).take j := by rw [List.take_take, Nat.min_eq_left (by omega)]
  have a2 : rows.flatten.take (i.toNat * sz + j) = rows.flatten.take (i.toNat * sz) ++ (rows.flatten.drop (i.toNat * sz)).take j := by rw [List.take_add]
  have a3 : ((rows.flatten.drop (i.toNat * sz)).take sz).drop (j + ts.length) ++ rows.flatten.drop (i.toNat * sz + sz) = rows.flatten.drop (i.toNat * sz + j + ts.length) := by
   rw [List.drop_take, List.drop_drop]
   have : rows.flatten.drop (i.toNat * sz + j + ts.length) = (rows.flatten.drop (i.toNat * sz + (j + ts.length))).take (sz - (j + ts.length)) ++ (rows.flatten.drop (i.toNat * sz + (j + ts.length))).drop (sz - (j + ts.length)) := by
    rw [List.take_append_drop, Nat.add_assoc]
   rw [this, List.drop_drop]
   congr 2
   omega
  rw [a1, a2, ← a3]
  simp only [List.append_assoc]
 ·
  intro r hr
  simp only [Ls] at hr
  rcases List.mem_or_eq_of_mem_set hr with hr | rfl
  · exact hs r hr
  exact hxl
theorem qtP (hr : Rel0 F σ a w S G φ) {t : Nat} {ty : Ty} (ht : TyOk F.P t ty) {id ver e sz j : Nat} {i : Int} {rows : Rws} {vc : List V} {ts : List T} {ds : List Nat} {u v : Value} (ho : look .dead σ.objs id = .row ver e sz rows) (hu : VR F.P w F.K S G (.pt id i j) u) (hv : VRs F.P w F.K S G vc v.cells.toList) (hat : atomsB vc = true) (hl : vc.length = ty.size) (hb : j + ty.size ≤ sz)
  (hsk : sinkCells σ.objs vc = some (ts, ds)) (hn : (id :: ds).Nodup) (h0 : 0 ≤ i) (h1 : i < Ls.ln rows) :
  ∃ w' G' φ', (Instr.storeAt t u v).run F.P w = .ok () w' ∧ Rel0 F ⟨σ.n, σ.nx, σ.env, (id, .row (ver + 1) e sz (Ls.up rows i j ts)) :: (deads ds ++ σ.objs)⟩ a w' S G' φ' := by
 obtain ⟨hid, hsz, hGs, us, hk, hrs, hown, ψ, hψb, hψ, hcr⟩ := hr.row ho
 obtain ⟨hnid, hnds⟩ := List.nodup_cons.1 hn
 have hlt : i.toNat < rows.length := by simp only [Ls] at h1; omega
 have htl : ts.length = ty.size := by rw [qRE hsk, hl]
 have hvs : v.cells.size = ty.size := by rw [← Array.length_toList, hv.len, hl]
 have hfl := qvB rows hrs
 have hul : us.length = rows.length * sz := hcr.len.trans hfl
 have hbd : i.toNat * sz + sz ≤ rows.length * sz := by rw [← Nat.succ_mul]; exact Nat.mul_le_mul_right _ hlt
 obtain ⟨hup1, hup2, hup3⟩ := qzO (ts := ts) (i := i) (j := j) hrs hlt (by omega)
 cases hu with
 | pt hid' hi hg _ =>
  rename_i g _
  rcases hown.2 with ⟨hβ, hn0⟩ | ⟨g', cap, cur, hβ, _, hh, hnc, hcm, hcs, htk⟩
  · omega
  obtain rfl : g' = g := by rw [hβ] at hg; simpa [blk] using hg
  have hgφ := hψb g' (by rw [hβ]; rfl)
  have hcl : cur.size = cap * sz := hcs
  have hcap : rows.length * sz ≤ cap * sz := Nat.mul_le_mul_right _ hnc
  have hrun := qGH (w := w) ht hvs (hv.one hat) hh (o := i.toNat * sz + j) (by omega)
  rw [hGs]
  let p := i.toNat * sz + j
  have hp : p + ty.size ≤ rows.length * sz := by show i.toNat * sz + j + ty.size ≤ _; omega
  let us' := us.take p ++ v.cells.toList ++ us.drop (p + ty.size)
  have hcsk := qjD hr hv hsk hnds
  have hcr' : ∃ ψ' : Nat → Prop, CR F.P w F.K F.K (Ls.up rows i j ts).flatten us' ψ' ∧ Sub ψ' (fun b => ψ b ∨ Of φ ds b) := by
   have hsplit : rows.flatten = rows.flatten.take p ++ (rows.flatten.drop p) := (List.take_append_drop p _).symm
   have hcr0 := hcr
   rw [hsplit] at hcr0
   obtain ⟨uA, uB, φA, φB, huAB, hA, hB, hAB, sA, sB⟩ := hcr0.split
   have hB0 := hB
   rw [← List.take_append_drop ty.size (rows.flatten.drop p)] at hB0
   obtain ⟨uM, uC, φM, φC, huMC, hM, hC, hMC, sM, sC⟩ := hB0.split
   have lA : uA.length = p := by rw [hA.len, List.length_take, hfl]; omega
   have lM : uM.length = ty.size := by rw [hM.len, List.length_take, List.length_drop, hfl]; omega
   have eA : us.take p = uA := by rw [huAB, ← lA, List.take_left]
   have eC : us.drop (p + ty.size) = uC := by rw [huAB, huMC, ← List.append_assoc, ← lA, ← lM, ← List.length_append, List.drop_left]
   have hdsψ : ∀ b, Of φ ds b → ¬ ψ b := by
    rintro b ⟨d, hd, hb⟩ hb'
    exact hr.dj d id (fun e => hnid (e ▸ hd)) b hb (hψ b hb')
   refine ⟨fun b => φA b ∨ Of φ ds b ∨ φC b, ?_, ?_⟩
   ·
    rw [hup1, htl]
    show CR F.P w F.K F.K _ (us.take p ++ v.cells.toList ++ us.drop (p + ty.size)) _
    rw [eA, eC, List.append_assoc, List.append_assoc]
    rw [List.drop_drop] at hC
    refine hA.join (φ2 := fun b => Of φ ds b ∨ φC b) (hcsk.join hC ?_ (fun _ h => .inl h) (fun _ h => .inr h)) ?_ (fun _ h => .inl h) (fun _ h => .inr h)
    ·
     intro b h1 h2
     exact hdsψ b h1 (sB b (sC b h2))
    rintro b h1 (h2 | h2)
    · exact hdsψ b h2 (sA b h1)
    exact hAB b h1 (sC b h2)
   rintro b (h | h | h)
   · exact .inl (sA b h)
   · exact .inr h
   exact .inl (sB b (sC b h))
  obtain ⟨ψ', hcr', hψ'⟩ := hcr'
  have hgψ' : ¬ ψ' g' := fun h => (hψ' g' h).elim hgφ.2 (fun ⟨d, hd, hb⟩ => hr.dj d id (fun e => hnid (e ▸ hd)) g' hb hgφ.1)
  let w' := w.setRow g' (cur.toList.take p ++ v.cells.toList ++ cur.toList.drop (p + ty.size)).toArray
  have hsame : ∀ b, b ≠ g' → w'.heap[b]? = w.heap[b]? := fun b hb => setRow_other w g' b _ hb
  have hS : ∀ b, S b → w'.heap[b]? = w.heap[b]? := fun b hb => hsame b (fun e => (hr.own id g' hgφ.1).2.1 (e ▸ hb))
  have hkn : G.κ id (ver + 1) = none := by
   cases hx : G.κ id (ver + 1) with
   | none => rfl
   | some x =>
    have := (hr.kd id (ver + 1) x hx).2 _ _ _ _ ho
    omega
  have hown' : w'.ownsRow 0 e sz (G.β id) (Ls.up rows i j ts).length us' := by
   have htk' : us = cur.toList.take (rows.length * sz) := htk.symm
   refine ⟨?_, .inr ⟨g', cap, _, hβ.trans (by rw [hup3]), Nat.zero_le _, setRow_heap w g' cur _ e _ hh, by rw [hup3]; exact hnc, hcm, ?_, ?_⟩⟩
   ·
    rw [hup3]
    show (us.take p ++ v.cells.toList ++ us.drop (p + ty.size)).length = _
    simp only [List.length_append, List.length_take, List.length_drop, Array.length_toList, hvs, hul]
    omega
   ·
    simp only [List.size_toArray, List.length_append, List.length_take, List.length_drop, Array.length_toList, hvs]
    omega
   rw [hup3]
   show (cur.toList.take p ++ v.cells.toList ++ cur.toList.drop (p + ty.size)).take (rows.length * sz) = us.take p ++ v.cells.toList ++ us.drop (p + ty.size)
   have l1 : (cur.toList.take p ++ v.cells.toList).length = p + ty.size := by simp only [List.length_append, List.length_take, Array.length_toList, hvs]; omega
   rw [List.take_append, List.take_of_length_le (by rw [l1]; exact hp), l1, htk', List.take_take, Nat.min_eq_left (by omega), List.drop_take]
  refine ⟨w', G.ver id (ver + 1) (Ls.up rows i j ts, us'), _, ?_, hr.chg (ds := ds) hid (qBI w g' _ _ hgφ.1) (Gh.le_ver hkn) (fun _ h => h) (fun i' v' x hx => ?_) (fun v' x ver' e' sz' rows' hx hoo => ?_) hnid ⟨hid, hsz, hGs, us', by simp [Gh.ver], hup2, hown', ψ', fun b hb => ?_, fun b hb => ?_, hcr'.move (fun b hb => hS b (hr.KS b hb)) (fun b hb => hS b (hr.KS b hb)) (fun b hb => hsame b (fun e => hgψ' (e ▸ hb)))⟩⟩
  ·
   simp only [Instr.storeAt, Instr.sureAddr, Sem.run_bind, Sem.run_pure, Result.andThen_ok]
   exact hrun
  ·
   simp only [Gh.ver] at hx
   split at hx
   · rename_i h; exact .inr h.1
   exact .inl hx
  ·
   simp only [O.row.injEq] at hoo
   obtain ⟨rfl, _⟩ := hoo
   simp only [Gh.ver] at hx
   split at hx
   · rename_i h; omega
   have := (hr.kd id v' x hx).2 _ _ _ _ ho
   omega
  ·
   have hb' : b = g' := by
    have hb : (G.β id).ownBlock = some b := hb
    rw [hβ] at hb
    simpa [Value.ownBlock] using hb.symm
   subst hb'
   exact ⟨.inl hgφ.1, hgψ'⟩
  exact (hψ' b hb).imp (hψ b) (fun h => h)
end Go.Proofs.YtcpekllcbimpmaaGreatDoor.L
namespace Go.Proofs.YtcpekllcbimpmaaGreatDoor.L
set_option linter.unusedVariables false
set_option linter.unusedSimpArgs false
open Go
variable {F : Fr} {σ : St} {a : Act} {w : World} {S : Nat → Prop} {G : Gh} {φ : Nat → Nat → Prop} {tab : List (Nat × Ty)}
theorem qpE {σ : St} {id : Nat} (hf : freshB σ.nx σ.objs id = true) {d : Nat} (h : look O.dead σ.objs d ≠ .dead) : d ≠ id := by
 rintro rfl
 have hk : hasKey σ.objs d = true := by
  cases hk : hasKey σ.objs d with
  | true => rfl
  | false =>
   exfalso
   apply h
   have : ∀ l : List (Nat × O), hasKey l d = false → look O.dead l d = .dead := by
    intro l
    induction l with
    | nil => intro _; rfl
    | cons p l ih =>
     obtain ⟨k, x⟩ := p
     intro hh
     simp only [hasKey] at hh
     cases hb : nq d k with
     | true => simp [hb] at hh
     | false =>
      simp only [hb, cond_false] at hh
      simp [look, hb, ih hh]
   exact this _ hk
 unfold freshB at hf
 cases hb : nl σ.nx d <;> simp [hb, hk] at hf
theorem qGK {objs : List (Nat × O)} {v : V} {t : T} {d : List Nat} (h : sinkCell objs v = some (t, d)) : ∀ i ∈ d, look O.dead objs i ≠ .dead := by
 unfold sinkCell at h
 split at h
 · simp only [Option.some.injEq, Prod.mk.injEq] at h; obtain ⟨_, rfl⟩ := h; simp
 · simp only [Option.some.injEq, Prod.mk.injEq] at h; obtain ⟨_, rfl⟩ := h; simp
 ·
  split at h
  ·
   rename_i ho
   simp only [Option.some.injEq, Prod.mk.injEq] at h
   obtain ⟨_, rfl⟩ := h
   intro i hi
   rw [List.mem_singleton.1 hi, ho]
   simp
  simp at h
 simp at h
theorem qoF {objs : List (Nat × O)} : ∀ {vs : List V} {ts : List T} {ds : List Nat}, sinkCells objs vs = some (ts, ds) → ∀ i ∈ ds, look O.dead objs i ≠ .dead
 | [], ts, ds, h => by
  simp only [sinkCells, Option.some.injEq, Prod.mk.injEq] at h
  obtain ⟨_, rfl⟩ := h
  simp
 | v :: vs, ts, ds, h => by
  simp only [sinkCells] at h
  split at h
  · simp at h
  rename_i hx
  split at h
  · simp at h
  rename_i hxs
  simp only [Option.some.injEq, Prod.mk.injEq] at h
  obtain ⟨_, rfl⟩ := h
  intro i hi
  rcases List.mem_append.1 hi with hi | hi
  · exact qGK hx i hi
  exact qoF hxs i hi
theorem qHH {objs : List (Nat × O)} {env : List (Nat × V)} {size : Nat} : ∀ (parts : List (Nat × Operand)) (n : Nat) {ps : List Prop} {rows : Rws} {ds : List Nat}, litRows objs env size n parts = some (ps, rows, ds) → ∀ i ∈ ds, look O.dead objs i ≠ .dead
 | [], n, ps, rows, ds, h => by
  simp only [litRows, Option.some.injEq, Prod.mk.injEq] at h
  obtain ⟨_, _, rfl⟩ := h
  simp
 | (i, x) :: r, n, ps, rows, ds, h => by
  simp only [litRows] at h
  split at h
  · simp at h
  split at h
  · simp at h
  split at h
  · simp at h
  split at h
  · simp at h
  rename_i hsk
  split at h
  · simp at h
  rename_i hrec
  simp only [Option.some.injEq, Prod.mk.injEq] at h
  obtain ⟨_, _, rfl⟩ := h
  intro j hj
  rcases List.mem_append.1 hj with hj | hj
  · exact qoF hsk j hj
  exact qHH r (n + 1) hrec j hj
theorem qKN {objs : List (Nat × O)} {size : Nat} {v : V} {ps : List Prop} {rows : Rws} {ds : List Nat} (h : source Ls objs size v = some (ps, rows, ds)) : ∀ i ∈ ds, look O.dead objs i ≠ .dead := by
 unfold source at h
 split at h
 · simp only [Option.some.injEq, Prod.mk.injEq] at h; obtain ⟨_, _, rfl⟩ := h; simp
 · simp only [Option.some.injEq, Prod.mk.injEq] at h; obtain ⟨_, _, rfl⟩ := h; simp
 · simp only [Option.some.injEq, Prod.mk.injEq] at h; obtain ⟨_, _, rfl⟩ := h; simp
 ·
  split at h
  ·
   rename_i ho
   split at h
   ·
    simp only [Option.some.injEq, Prod.mk.injEq] at h
    obtain ⟨_, _, rfl⟩ := h
    intro i hi
    rw [List.mem_singleton.1 hi, ho]
    simp
   simp at h
  simp at h
 ·
  split at h
  ·
   split at h
   · simp only [Option.some.injEq, Prod.mk.injEq] at h; obtain ⟨_, _, rfl⟩ := h; simp
   simp at h
  simp at h
 simp at h
theorem qDI {objs : List (Nat × O)} {e : Nat} {v : V} {rows : Rws} {ds : List Nat} (h : target objs e v = some (rows, ds)) : ∀ i ∈ ds, look O.dead objs i ≠ .dead := by
 unfold target at h
 split at h
 · simp only [Option.some.injEq, Prod.mk.injEq] at h; obtain ⟨_, rfl⟩ := h; simp
 ·
  split at h
  ·
   rename_i ho
   split at h
   ·
    simp only [Option.some.injEq, Prod.mk.injEq] at h
    obtain ⟨_, rfl⟩ := h
    intro i hi
    rw [List.mem_singleton.1 hi, ho]
    simp
   simp at h
  simp at h
 simp at h
theorem qAP {l : List (Nat × O)} {d : Nat} (h : hasKey l d = false) : look O.dead l d = .dead := by
 induction l with
 | nil => rfl
 | cons p l ih =>
  obtain ⟨k, x⟩ := p
  rw [qL]
  by_cases e : d = k
  · subst e; simp [hasKey, qGG] at h
  rw [if_neg e]
  refine ih ?_
  cases hk : hasKey l d with
  | false => rfl
  | true => rw [(qY k x l d).2 (.inr hk)] at h; cases h
theorem qdL {nx : Nat} {objs : List (Nat × O)} {id : Nat} (h : freshB nx objs id = true) : nx ≤ id ∧ hasKey objs id = false := by
 unfold freshB at h
 cases hb : nl nx id with
 | false => simp [hb] at h
 | true =>
  rw [hb] at h
  cases hk : hasKey objs id with
  | true => rw [hk] at h; simp at h
  | false => exact ⟨nl_le hb, rfl⟩
theorem qLN (hr : Rel0 F σ a w S G φ) {t : Nat} {ty te : Ty} (ht : TyOk F.P t ty) (hs : ty.isS = true) (hte : TyOk F.P ty.elem te) {id : Nat} (hf : freshB σ.nx σ.objs id = true) (hfc : freshB σ.nx σ.objs (id + 1) = true) {v1 v2 : V} {u1 u2 : Value} (hv1 : VR F.P w F.K S G v1 u1) (hv2 : VR F.P w F.K S G v2 u2) {r1 r2 : Rws} {d1 : List Nat} {sid : Nat} {o : O} {ps : List Prop}
  (h1 : target σ.objs ty.elem v1 = some (r1, d1)) (h2 : sourceM Ls σ.objs te.size v2 = some (ps, r2, sid, o)) (hp : AllP ps) (hn : (sid :: d1).Nodup) (hb1 : (Ls.ln r1 + Ls.ln r2) * te.bytes ≤ 140737488355328) (hb2 : Ls.ln r1 + Ls.ln r2 ≤ 140737488355328) (hz : te.zero ≠ []) (ty0 : TypeId) :
  ∃ u w' G' φ', (Builtin.append_ #[t, t] ty0 #[u1, u2]).run F.P w = .ok u w' ∧ Rel0 F ⟨σ.n, σ.nx, σ.env, ((id, .row 0 ty.elem te.size (Ls.ap r1 r2)) :: (deads (d1 ++ [id + 1]) ++ [(id + 1, .dead), (sid, o)])) ++ σ.objs⟩ a w' S G' φ' ∧ VR F.P w' F.K S G' (.rf id) u := by
 unfold sourceM at h2
 split at h2
 ·
  rename_i sid' lo hi
  split at h2
  ·
   rename_i ver e sz rows ho
   split at h2
   ·
    rename_i hb
    simp only [Option.some.injEq, Prod.mk.injEq] at h2
    obtain ⟨rfl, rfl, rfl, rfl⟩ := h2
    obtain ⟨hhi, _⟩ := hp
    have hsz := qGB hb
    subst hsz
    obtain ⟨hid, _, hGs, _, _, hrs, _⟩ := hr.row ho
    have hc := qdL hfc
    have hk := qdL hf
    have hns : id ≠ sid' := fun e => by
     have := qpE hf (d := sid') (by rw [ho]; simp)
     exact this e.symm
    have hcs : id + 1 ≠ sid' := fun e => by
     have := qpE hfc (d := sid') (by rw [ho]; simp)
     exact this e.symm
    cases hv2 with
    | sb hid' h0 hl hnn hm hcc hA _ _ =>
     rename_i A n c _ _
     simp only [Ls] at hhi
     obtain ⟨G', φ', hr', hle, _, us, ψ, hcr, hψ, hcell⟩ := pull hr ho h0 hl hhi (by omega) (cid := id + 1) (qAP hc.2)
     have hlen : (Ls.sr rows lo hi).length = n := by
      simp only [Ls, List.length_drop, List.length_take]
      omega
     have hlive := qDI h1
     have h1' : target ((id + 1, O.dead) :: (sid', .row (ver + 1) e te.size (jrL Ls rows lo hi te.size)) :: σ.objs) ty.elem v1 = some (r1, d1) := by
      unfold target at h1 ⊢
      split at h1
      · exact h1
      ·
       rename_i i
       have hi1 : look .dead σ.objs i ≠ .dead := fun e => by rw [e] at h1; simp at h1
       have hi2 : i ∈ d1 := by
        split at h1
        ·
         split at h1
         · simp only [Option.some.injEq, Prod.mk.injEq] at h1; rw [← h1.2]; simp
         simp at h1
        simp at h1
       have e1 : i ≠ id + 1 := qpE hfc hi1
       have e2 : i ≠ sid' := fun e => (List.nodup_cons.1 hn).1 (e ▸ hi2)
       simp only [qL, if_neg e1, if_neg e2]
       exact h1
      simp at h1
     have hf' : freshB σ.nx ((id + 1, O.dead) :: (sid', .row (ver + 1) e te.size (jrL Ls rows lo hi te.size)) :: σ.objs) id = true := by
      unfold freshB
      rw [qHU.2 hk.1]
      simp only [cond_true]
      cases hx : hasKey ((id + 1, O.dead) :: (sid', .row (ver + 1) e te.size (jrL Ls rows lo hi te.size)) :: σ.objs) id with
      | false => rfl
      | true =>
       rcases (qY _ _ _ _).1 hx with h | h
       · omega
       rcases (qY _ _ _ _).1 h with h | h
       · exact absurd h hns
       rw [hk.2] at h; cases h
     have hd1 : ∀ d ∈ d1, d ≠ id ∧ d ≠ id + 1 := fun d hd => ⟨qpE hf (hlive d hd), qpE hfc (hlive d hd)⟩
     obtain ⟨u, w', G2, φ2, e1, e2, e3⟩ := qAI hr' ht hs hte hf' (hv1.move (fun _ _ => rfl) (fun _ _ => rfl) hle) h1' (r2 := Ls.sr rows lo hi) (d2 := [id + 1]) (u2 := .slice A n c)
      ⟨fun r hr => (hrs r (List.mem_of_mem_take (List.mem_of_mem_drop hr))), us, ψ, A, c, congrArg (fun k => Value.slice A k c) hlen.symm, hcr, fun b hb => ⟨id + 1, by simp, hψ b hb⟩, fun h => by
       obtain ⟨g, hg, rfl⟩ := hA (by rw [hlen] at h; omega)
       refine ⟨_, rfl, fun j x hj => ?_⟩
       rw [Addr.add_lit, hGs]
       exact hcell g hg j x hj⟩
      (List.nodup_append.2 ⟨(List.nodup_cons.1 hn).2, by simp, fun a ha b hb e => by
       rw [List.mem_singleton.1 hb] at e
       exact (hd1 a ha).2 e⟩) hb1 hb2 hz (fun d hd => by
       rcases List.mem_append.1 hd with hd | hd
       · exact (hd1 d hd).1
       rw [List.mem_singleton.1 hd]; omega) ty0
     refine ⟨u, w', G2, φ2, e1, ?_, e3⟩
     rw [List.cons_append, List.append_assoc]
     exact e2
   simp at h2
  · simp at h2
 · simp at h2
theorem qMN (hr : Rel0 F σ a w S G φ) (ht : TabOk F.P tab) {o : Oper} {id : Nat} {ps : List Prop} {v : V} {os : List (Nat × O)} (h : stepA Ls tab σ id o.op = some (ps, v, os)) (hp : AllP ps) (hc : ConstsOk o.op) (hf : freshB σ.nx σ.objs id = true) :
  ∃ u w' G' φ', (execOp a.eval o).run F.P w = .ok (.value u) w' ∧ Rel0 F ⟨σ.n, σ.nx, σ.env, os ++ σ.objs⟩ a w' S G' φ' ∧ VR F.P w' F.K S G' v u := by
 obtain ⟨dst, op, type, pos, after, guard⟩ := o
 simp only at h hc
 cases op <;> simp only [stepA, reduceCtorEq] at h
 case box e x =>
  split at h
  ·
   rename_i vc hvc
   simp only [Option.some.injEq, Prod.mk.injEq] at h
   obtain ⟨rfl, rfl, rfl⟩ := h
   have hv := qsC (got hr (hc x (by simp [Op.operands])) rfl hp) hvc
   obtain ⟨G', φ', h1, h2⟩ := qqP hr hf (e := e) hv
   exact ⟨_, _, G', φ', by simp [execOp, Instr.box, newVar, newRow, newObj, Sem.run], h1, h2⟩
  · simp at h
 case alloc e =>
  split at h
  ·
   rename_i ty hty
   split at h
   ·
    rename_i z zr hz
    simp only [Option.some.injEq, Prod.mk.injEq] at h
    obtain ⟨rfl, rfl, rfl⟩ := h
    have hty' := ht _ _ hty
    obtain ⟨i, hi, _, _, hzz⟩ := hty'.info
    obtain ⟨zv, hz1, hz2⟩ := hzz (by rw [hz]; simp)
    have hv : VRs F.P w F.K S G ((z :: zr).map fun z => .t (.s z)) zv.cells.toList := by
     rw [hz2, ← hz]
     have := VRs.of_CR (G := G) (CR.scalars (P := F.P) (w := w) (K := F.K) (S := S) (φ := no) ty.zero hty'.zero1)
     rw [List.map_map] at this
     exact this
    obtain ⟨G', φ', h1, h2⟩ := qqP hr hf (e := e) hv
    refine ⟨_, _, G', φ', ?_, h1, h2⟩
    simp [execOp, Instr.alloc, zeroValue, typeInfo, hi, hz1, newVar, newRow, newObj, Sem.run]
   simp at h
  · simp at h
 case buildSlice t n parts =>
  split at h
  ·
   rename_i ty hty
   split at h
   ·
    rename_i te hs hte
    split at h
    ·
     rename_i ps' rows ds hlit
     have hcp : ∀ p ∈ parts.toList, ∀ v, p.2 = .const v → v.oneCell' = true := fun p hp' => hc p.2 (by simp [Op.operands]; exact ⟨p.1, by simpa using hp'⟩)
     have key : nodupB ds = true → nq n (lenN rows) = true → nl (n * te.size) 65536 = true → (n ≠ 0 → te.zero ≠ []) → AllP ps' →
       ∃ u w' G' φ', (execOp a.eval { dst, op := .buildSlice t n parts, type, pos, after, guard }).run F.P w = .ok (.value u) w' ∧ Rel0 F ⟨σ.n, σ.nx, σ.env, ((id, .row 0 ty.elem te.size rows) :: deads ds) ++ σ.objs⟩ a w' S G' φ' ∧ VR F.P w' F.K S G' (.rf id) u := by
      intro b1 b2 b3 b4 hp
      obtain ⟨u, w', G', φ', e, h1, h2⟩ := qrP hr (ht _ _ hty) hs (ht _ _ hte) hf hlit hp hcp (qoC _ b1) (by rw [← quB]; exact qGB b2) (qNC b3) b4 (fun d hd => qpE hf (qHH _ _ hlit d hd))
      exact ⟨u, w', G', φ', by simp [execOp, e], h1, h2⟩
     split at h
     ·
      rename_i b1 b2 b3 b4
      simp only [Option.some.injEq, Prod.mk.injEq] at h
      obtain ⟨rfl, rfl, rfl⟩ := h
      exact key b1 b2 b3 (fun h => absurd (qGB b4) h) hp
     ·
      rename_i z zr b1 b2 b3 b4 hz
      simp only [Option.some.injEq, Prod.mk.injEq] at h
      obtain ⟨rfl, rfl, rfl⟩ := h
      exact key b1 b2 b3 (fun _ => by rw [hz]; simp) hp
     simp at h
    simp at h
   simp at h
  · simp at h
 case makeSlice t l c =>
  split at h
  ·
   rename_i ty hty
   split at h
   ·
    rename_i te hs hte
    split at h
    ·
     rename_i z zr pl kl n pc kc m hz hl hcc
     simp only [Option.some.injEq, Prod.mk.injEq] at h
     obtain ⟨rfl, rfl, rfl⟩ := h
     rw [qI, qI] at hp
     obtain ⟨⟨hpl, hpc⟩, rfl, a0, a1, _⟩ := hp
     obtain ⟨u, w', G', φ', e, h1, h2⟩ := qyO hr (ht _ _ hty) hs (ht _ _ hte) hf (kl := kl) (kc := kc) a0 a1.1 a1.2 (by rw [hz]; simp)
     rw [hz] at h1
     refine ⟨u, w', G', φ', ?_, h1, h2⟩
     have e1 := (got hr (hc l (by simp [Op.operands])) hl hpl).s_inv.1
     have e2 := (got hr (hc c (by simp [Op.operands])) hcc hpc).s_inv.1
     simp [execOp, e1, e2, e]
    simp at h
   simp at h
  · simp at h
 case call c =>
  obtain ⟨callee, args, argTypes⟩ := c
  simp only at h
  split at h
  ·
   rename_i s x t t' hargs htys
   have ea : args = #[s, x] := by rw [← Array.toList_inj]; exact hargs
   have et : argTypes = #[t, t'] := by rw [← Array.toList_inj]; exact htys
   subst ea et
   split at h
   ·
    rename_i ty htt hty
    obtain rfl := qGB htt
    split at h
    ·
     rename_i te hs hte
     split at h
     ·
      rename_i p1 v1 p2 v2 z zr h1 h2 hz
      split at h
      ·
       rename_i hmv
       split at h
       ·
        rename_i r1 d1 p3 r2 sid o ht1 hs2
        split at h
        ·
         rename_i hnd hfc
         simp only [Option.some.injEq, Prod.mk.injEq] at h
         obtain ⟨rfl, rfl, rfl⟩ := h
         rw [qI, qI, qI] at hp
         obtain ⟨⟨⟨hp1, hp2⟩, hp3⟩, b1, _⟩ := hp
         have hv1 := got hr (hc s (by simp [Op.operands, Call.operands])) h1 hp1
         have hv2 := got hr (hc x (by simp [Op.operands, Call.operands])) h2 hp2
         obtain ⟨u, w', G', φ', e, h3, h4⟩ := qLN hr (ht _ _ hty) hs (ht _ _ hte) hf hfc hv1 hv2 ht1 hs2 hp3 (qoC _ hnd) b1.1 b1.2 (by rw [hz]; simp) type
         exact ⟨u, w', G', φ', by simp [execOp, resolve, invoke, builtin, e], h3, h4⟩
        simp at h
       simp at h
      split at h
      ·
       rename_i r1 d1 p3 r2 d2 ht1 hs2
       split at h
       ·
        rename_i hnd
        simp only [Option.some.injEq, Prod.mk.injEq] at h
        obtain ⟨rfl, rfl, rfl⟩ := h
        rw [qI, qI, qI] at hp
        obtain ⟨⟨⟨hp1, hp2⟩, hp3⟩, b1, _⟩ := hp
        have hv1 := got hr (hc s (by simp [Op.operands, Call.operands])) h1 hp1
        have hv2 := got hr (hc x (by simp [Op.operands, Call.operands])) h2 hp2
        obtain ⟨u, w', G', φ', e, h3, h4⟩ := qcL hr (ht _ _ hty) hs (ht _ _ hte) hf hv1 hv2 ht1 hs2 hp3 (qoC _ hnd) b1.1 b1.2 (by rw [hz]; simp) (fun d hd => by
         rcases List.mem_append.1 hd with hd | hd
         · exact qpE hf (qDI ht1 d hd)
         exact qpE hf (qKN hs2 d hd)) type
        exact ⟨u, w', G', φ', by simp [execOp, resolve, invoke, builtin, e], h3, h4⟩
       simp at h
      simp at h
     simp at h
    simp at h
   simp at h
  simp at h
theorem qNN (hr : Rel0 F σ a w S G φ) (ht : TabOk F.P tab) {o : Oper} {ps : List Prop} {os : List (Nat × O)} (h : stepS Ls tab σ o.op = some (ps, os)) (hp : AllP ps) (hc : ConstsOk o.op) :
  ∃ w' G' φ', (execOp a.eval o).run F.P w = .ok .skip w' ∧ Rel0 F ⟨σ.n, σ.nx, σ.env, os ++ σ.objs⟩ a w' S G' φ' := by
 obtain ⟨dst, op, type, pos, after, guard⟩ := o
 simp only at h hc
 cases op <;> simp only [stepS, reduceCtorEq] at h
 case store t x y =>
  split at h
  ·
   rename_i ty px id i j py v hty hx hy
   split at h
   ·
    rename_i vc hvc
    split at h
    ·
     rename_i e cs hb ho
     split at h
     ·
      rename_i hle
      simp only [Option.some.injEq, Prod.mk.injEq] at h
      obtain ⟨rfl, rfl⟩ := h
      rw [qI, qI] at hp
      obtain ⟨⟨hpx, hpy⟩, rfl, _⟩ := hp
      have hat : atomsB vc = true ∧ nq (lenN vc) ty.size = true := by cases ha : atomsB vc <;> simp_all
      have hu := got hr (hc x (by simp [Op.operands])) hx hpx
      have hv := qsC (got hr (hc y (by simp [Op.operands])) hy hpy) hvc
      obtain ⟨w', φ', e, h1⟩ := qsP hr (ht _ _ hty) ho hu hv hat.1 (by rw [← quB]; exact qGB hat.2) (by rw [← quB]; exact qNC hle)
      refine ⟨w', G, φ', by simp [execOp, e], ?_⟩
      rw [qED, qXD]
      exact h1
     simp at h
    ·
     rename_i ver e sz rows hb ho
     split at h
     ·
      rename_i ts ds hsk hle
      split at h
      ·
       rename_i hnd
       simp only [Option.some.injEq, Prod.mk.injEq] at h
       obtain ⟨rfl, rfl⟩ := h
       rw [qI, qI] at hp
       obtain ⟨⟨hpx, hpy⟩, b0, b1, _⟩ := hp
       have hat : atomsB vc = true ∧ nq (lenN vc) ty.size = true := by cases ha : atomsB vc <;> simp_all
       have hu := got hr (hc x (by simp [Op.operands])) hx hpx
       have hv := qsC (got hr (hc y (by simp [Op.operands])) hy hpy) hvc
       obtain ⟨w', G', φ', e, h1⟩ := qtP hr (ht _ _ hty) ho hu hv hat.1 (by rw [← quB]; exact qGB hat.2) (qNC hle) hsk (qoC _ hnd) b0 b1
       exact ⟨w', G', φ', by simp [execOp, e], h1⟩
      simp at h
     simp at h
    simp at h
   simp at h
  simp at h
end Go.Proofs.YtcpekllcbimpmaaGreatDoor.L
namespace Go.Proofs.YtcpekllcbimpmaaGreatDoor.L
set_option linter.unusedVariables false
set_option linter.unusedSimpArgs false
open Go
variable {F : Fr} {σ : St} {a : Act} {w : World} {S : Nat → Prop} {G : Gh} {φ : Nat → Nat → Prop} {tab : List (Nat × Ty)}
structure RelD (F : Fr) (σ : St) (a : Act) (w : World) (S : Nat → Prop) (G : Gh) (φ : Nat → Nat → Prop) (D : List Nat) : Prop where
 nx : ∀ i, G.dom i → i < σ.nx ∨ hasKey σ.objs i = true
 kd : ∀ i v x, G.κ i v = some x → G.dom i ∧ ∀ ver e sz rows, look .dead σ.objs i = .row ver e sz rows → v ≤ ver
 n : a.tmps.size = σ.n
 KS : Sub F.K S
 Slt : ∀ b, S b → b < w.heap.size
 env : ∀ t, VR F.P w F.K S G (look .u σ.env t) (a.tmps.getD t undef)
 obj : ∀ id, id ∉ D → OR F.P w F.K S G (φ id) id (look .dead σ.objs id)
 dj : ∀ i j, i ≠ j → Dj (φ i) (φ j)
 own : ∀ i b, φ i b → b < w.heap.size ∧ ¬ S b ∧ (F.w0.heap.size ≤ b ∨ F.φ0 b)
 kept : Kept F.w0 w F.φ0
 defs : a.defers = []
 anc : ∀ i v, F.anc i = some v → G.dom i ∧ G.β i = v
 dom : ∀ i ∈ D, G.dom i
 away : ∀ i ∈ D, ∀ b, ¬ φ i b
theorem RelD.rel (h : RelD F σ a w S G φ []) : Rel0 F σ a w S G φ := ⟨h.nx, h.kd, h.n, h.KS, h.Slt, h.env, fun i => h.obj i (by simp), h.dj, h.own, h.kept, h.defs, h.anc⟩
theorem RelD.up {D : List Nat} {K : Nat → Prop} (h : RelD F σ a w S G φ D) (hk : Sub F.K K) (hl : ∀ b, K b → b < w.heap.size) (hn : ∀ i b, φ i b → ¬ K b) : RelD (F.up K) σ a w (fun b => S b ∨ K b) G φ D :=
 ⟨h.nx, h.kd, h.n, fun _ hb => .inr hb, fun b hb => hb.elim (h.Slt b) (hl b), fun t => (h.env t).moreK hk (fun _ hb => .inl hb), fun i hi => (h.obj i hi).moreK hk (fun _ hb => .inl hb), h.dj, fun i b hb => ⟨(h.own i b hb).1, fun hs => hs.elim (h.own i b hb).2.1 (hn i b hb), (h.own i b hb).2.2⟩, h.kept, h.defs, h.anc, h.dom, h.away⟩
def Loose (F : Fr) (w : World) (S : Nat → Prop) (φ : Nat → Nat → Prop) (χ : Nat → Prop) : Prop := ∀ b, χ b → b < w.heap.size ∧ ¬ S b ∧ (F.w0.heap.size ≤ b ∨ F.φ0 b) ∧ ∀ i, ¬ φ i b
theorem Rel0.lent (h : Rel0 F σ a w S G φ) {w' : World} {ids : List Nat} (hids : ∀ i ∈ ids, G.dom i) (hk : Kept w w' (Of φ ids)) : RelD F σ a w' S G (fun i b => if i ∈ ids then False else φ i b) ids := by
 have hS : ∀ b, S b → w'.heap[b]? = w.heap[b]? := fun b hb => hk.block b (h.Slt b hb) (fun ⟨d, _, hd⟩ => (h.own d b hd).2.1 hb)
 have hK : ∀ b, F.K b → w'.heap[b]? = w.heap[b]? := fun b hb => hS b (h.KS b hb)
 refine ⟨h.nx, h.kd, h.n, h.KS, fun b hb => Nat.lt_of_lt_of_le (h.Slt b hb) hk.size, fun t => (h.env t).move hK hS (Gh.le.refl G), fun i hi => ?_, fun i j hij b hb hb' => ?_, fun i b hb => ?_, h.kept.trans hk (fun b ⟨d, _, hd⟩ hlt => ?_), h.defs, h.anc, hids, fun i hi b hb => ?_⟩
 ·
  have e : (fun b => if i ∈ ids then False else φ i b) = φ i := by funext b; rw [if_neg hi]
  rw [e]
  exact (h.obj i).move hK hS (fun b hb => hk.block b (h.own i b hb).1 (fun ⟨d, hd, hd'⟩ => h.dj i d (fun e => hi (e ▸ hd)) b hb hd')) (Gh.le.refl G)
 ·
  split at hb
  · exact hb
  split at hb'
  · exact hb'
  exact h.dj i j hij b hb hb'
 ·
  split at hb
  · exact hb.elim
  exact ⟨Nat.lt_of_lt_of_le (h.own i b hb).1 hk.size, (h.own i b hb).2⟩
 ·
  rcases (h.own d b hd).2.2 with hx | hx
  · omega
  exact hx
 simp [hi] at hb
theorem RelD.adopt {D : List Nat} {id : Nat} {G' : Gh} {o : O} {χ : Nat → Prop} (h : RelD F σ a w S G φ D) (hφ : ∀ b, ¬ φ id b) (hG : G.le G') (hdom : ∀ i, G'.dom i → G.dom i ∨ i = id) (hdid : G'.dom id)
  (hkd : ∀ i v x, G'.κ i v = some x → G.κ i v = some x ∨ i = id) (hkd' : ∀ v x ver e sz rows, G'.κ id v = some x → o = .row ver e sz rows → v ≤ ver)
  (hχ : Loose F w S φ χ) (ho : OR F.P w F.K S G' χ id o) :
  RelD F ⟨σ.n, σ.nx, σ.env, (id, o) :: σ.objs⟩ a w S G' (fun i b => if i = id then χ b else φ i b) (D.filter (· ≠ id)) := by
 have hlk : ∀ i, look O.dead ((id, o) :: σ.objs) i = if i = id then o else look .dead σ.objs i := fun i => qL _ _ _ _ _
 refine ⟨fun i hi => ?_, fun i j x hx => ?_, h.n, h.KS, h.Slt, fun t => (h.env t).move (fun _ _ => rfl) (fun _ _ => rfl) hG, fun i hi => ?_, fun i j hij b hb hb' => ?_, fun i b hb => ?_, h.kept, h.defs, fun i v hi => ⟨hG.dom _ (h.anc i v hi).1, (hG.β _ (h.anc i v hi).1).trans (h.anc i v hi).2⟩, fun i hi => ?_, fun i hi b hb => ?_⟩
 ·
  rcases hdom i hi with hi | rfl
  · exact (h.nx i hi).imp (fun h => h) (fun hi => (qY _ _ _ _).2 (.inr hi))
  · exact .inr ((qY _ _ _ _).2 (.inl rfl))
 ·
  by_cases hi : i = id
  ·
   subst hi
   refine ⟨hdid, fun ver e sz rows hl => ?_⟩
   rw [hlk, if_pos rfl] at hl
   exact hkd' j x ver e sz rows hx hl
  ·
   obtain ⟨h1, h2⟩ := h.kd i j x ((hkd i j x hx).resolve_right hi)
   refine ⟨hG.dom _ h1, fun ver e sz rows hl => ?_⟩
   rw [hlk, if_neg hi] at hl
   exact h2 _ _ _ _ hl
 ·
  rw [hlk]
  by_cases hid : i = id
  ·
   subst hid
   simpa using ho
  ·
   rw [if_neg hid]
   have e : (fun b => if i = id then χ b else φ i b) = φ i := by funext b; rw [if_neg hid]
   rw [e]
   exact (h.obj i (fun hm => hi (List.mem_filter.2 ⟨hm, by simpa using hid⟩))).move (fun _ _ => rfl) (fun _ _ => rfl) (fun _ _ => rfl) hG
 ·
  split at hb
  ·
   rw [if_neg (by rename_i e; exact fun e' => hij (e.trans e'.symm))] at hb'
   exact (hχ b hb).2.2.2 j hb'
  ·
   split at hb'
   · exact (hχ b hb').2.2.2 i hb
   exact h.dj i j hij b hb hb'
 ·
  split at hb
  · exact ⟨(hχ b hb).1, (hχ b hb).2.1, (hχ b hb).2.2.1⟩
  · exact h.own i b hb
 ·
  have := List.mem_filter.1 hi
  exact hG.dom _ (h.dom i this.1)
 ·
  have := List.mem_filter.1 hi
  rw [if_neg (by simpa using this.2)] at hb
  exact h.away i this.1 b hb
theorem Loose.less {χ χ' : Nat → Prop} (h : Loose F w S φ χ) (hs : Sub χ' χ) : Loose F w S φ χ' := fun b hb => h b (hs b hb)
theorem Loose.past {χ χ' : Nat → Prop} {id : Nat} (h : Loose F w S φ χ) (hd : Dj χ' χ) : Loose F w S (fun i b => if i = id then χ' b else φ i b) χ := by
 intro b hb
 obtain ⟨h1, h2, h3, h4⟩ := h b hb
 refine ⟨h1, h2, h3, fun i hi => ?_⟩
 have hi : if i = id then χ' b else φ i b := hi
 split at hi
 · exact hd b hi hb
 exact h4 i hi
theorem qtD {P : Program} {K : Nat → Prop} : ∀ {cs : List T} {vs : List V} {us : List Value} {φ : Nat → Prop}, plainV cs = some vs → CR P w K K cs us φ → Sub K S → VRs P w K S G vs us
 | [], vs, us, φ, h, hc, _ => by
  simp only [plainV, Option.some.injEq] at h
  subst h
  cases hc
  exact .nil
 | c :: cs, vs, us, φ, h, hc, hK => by
  simp only [plainV] at h
  split at h
  · simp at h
  rename_i vs' hvs
  obtain ⟨u1, u2, φ1, φ2, rfl, h1, h2, _, _, _⟩ := CR.split (a := [c]) hc
  have ih := qtD hvs h2 hK
  cases c with
  | s v =>
   simp only [Option.some.injEq] at h
   subst h
   cases h1 with
   | s h1 h => cases h; exact .t (.s h1 .nil) ih
  | im k r =>
   cases k with
   | false => simp at h
   | true =>
    simp only [Option.some.injEq] at h
    subst h
    cases h1 with
    | im1 hn hcc sz hs vs hA hr h => cases h; exact .t (.im1 hn hcc sz hs vs hA hr .nil) ih
  | _ => simp at h
theorem CR.uncons {P : Program} {K S : Nat → Prop} {t : T} {ts : List T} {us : List Value} {φ : Nat → Prop} (h : CR P w K S (t :: ts) us φ) : ∃ u us' φ1 φ2, us = u :: us' ∧ CR P w K S [t] [u] φ1 ∧ CR P w K S ts us' φ2 ∧ Dj φ1 φ2 ∧ Sub φ1 φ ∧ Sub φ2 φ := by
 obtain ⟨u1, u2, φ1, φ2, rfl, h1, h2, hd, s1, s2⟩ := CR.split (a := [t]) h
 have hl := h1.len
 match u1, hl with
 | [u], _ => exact ⟨u, u2, φ1, φ2, rfl, h1, h2, hd, s1, s2⟩
def AlignB (G : Gh) : List (Option Nat) → List Value → Prop
 | [], [] => True
 | none :: ds, _ :: us => AlignB G ds us
 | some id :: ds, u :: us => u = G.β id ∧ G.dom id ∧ AlignB G ds us
 | _, _ => False
theorem AlignB.le {G G' : Gh} (hG : G.le G') : ∀ {ds us}, AlignB G ds us → AlignB G' ds us
 | [], [], _ => trivial
 | none :: ds, _ :: us, h => AlignB.le hG (ds := ds) (us := us) h
 | some id :: ds, u :: us, h => ⟨by rw [hG.β _ h.2.1]; exact h.1, hG.dom _ h.2.1, AlignB.le hG h.2.2⟩
theorem AlignB.len {G : Gh} : ∀ {ds us}, AlignB G ds us → us.length = ds.length
 | [], [], _ => rfl
 | none :: ds, _ :: us, h => by simp [AlignB.len (ds := ds) (us := us) h]
 | some id :: ds, u :: us, h => by simp [AlignB.len h.2.2]
theorem qIU {D : List Nat} (h : RelD F σ a w S G φ D) {id ver e sz rows} (ho : look .dead σ.objs id = .row ver e sz rows) : G.κ id (ver + 1) = none := by
 cases hx : G.κ id (ver + 1) with
 | none => rfl
 | some x =>
  have := (h.kd id (ver + 1) x hx).2 _ _ _ _ ho
  omega
theorem qdJ (id : Nat) (ds : List (Option Nat)) : idsOf (some id :: ds) = id :: idsOf ds := rfl
theorem quG : ∀ {ds : List (Option Nat)} {ts rest : List T} {us us' : List Value} {objs objs' : List (Nat × O)} {G : Gh} {φ : Nat → Nat → Prop} {χ : Nat → Prop}, back objs ds ts = some objs' → RelD F ⟨σ.n, σ.nx, σ.env, objs⟩ a w S G φ (idsOf ds) → (idsOf ds).Nodup → AlignB G ds us → ts.length = ds.length →
  (∀ i ∈ idsOf ds, ∀ ver e sz rows, look .dead objs i = .row ver e sz rows → sz = F.P.cellsOf e ∧ G.sz i = sz) → CR F.P w F.K F.K (ts ++ rest) (us ++ us') χ → Loose F w S φ χ →
  ∃ G' φ' χ', G.le G' ∧ RelD F ⟨σ.n, σ.nx, σ.env, objs'⟩ a w S G' φ' [] ∧ CR F.P w F.K F.K rest us' χ' ∧ Loose F w S φ' χ'
 | [], ts, rest, us, us', objs, objs', G, φ, χ, h, hr, _, hal, hl, _, hc, hx => by
  simp only [back, Option.some.injEq] at h
  subst h
  have hus : us = [] := List.eq_nil_of_length_eq_zero hal.len
  have hts : ts = [] := List.eq_nil_of_length_eq_zero hl
  subst hus hts
  exact ⟨G, φ, χ, Gh.le.refl G, hr, hc, hx⟩
 | none :: ds, [], rest, us, us', objs, objs', G, φ, χ, h, hr, hn, hal, hl, hsz, hc, hx => by simp at hl
 | none :: ds, t :: ts, rest, us, us', objs, objs', G, φ, χ, h, hr, hn, hal, hl, hsz, hc, hx => by
  match us, hal with
  | u :: us, hal =>
   simp only [back] at h
   rw [List.cons_append, List.cons_append] at hc
   obtain ⟨u', us2, φ1, φ2, he, _, h2, _, _, s2⟩ := hc.uncons
   simp only [List.cons.injEq] at he
   obtain ⟨rfl, rfl⟩ := he
   exact quG h hr hn hal (by simpa using hl) hsz h2 (hx.less s2)
 | some id :: ds, [], rest, us, us', objs, objs', G, φ, χ, h, hr, hn, hal, hl, hsz, hc, hx => by simp at hl
 | some id :: ds, t :: ts, rest, us, us', objs, objs', G, φ, χ, h, hr, hn, hal, hl, hsz, hc, hx => by
  match us, hal with
  | u :: us, hal =>
   obtain ⟨hu, hdid, hal⟩ := hal
   rw [qdJ] at hr hn hsz
   obtain ⟨hnid, hn'⟩ := List.nodup_cons.1 hn
   rw [List.cons_append, List.cons_append] at hc
   obtain ⟨u', us2, φ1, φ2, he, h1, h2, hd12, s1, s2⟩ := hc.uncons
   simp only [List.cons.injEq] at he
   obtain ⟨rfl, rfl⟩ := he
   have hfil : (id :: idsOf ds).filter (· ≠ id) = idsOf ds := by
    rw [List.filter_cons]
    simp only [ne_eq, not_true_eq_false, decide_false, Bool.false_eq_true, if_false]
    refine List.filter_eq_self.2 (fun x hx => ?_)
    have : x ≠ id := by rintro rfl; exact hnid hx
    simpa using this
   have hφ : ∀ b, ¬ φ id b := hr.away id (by simp)
   have go : ∀ {o : O} {G' : Gh} {χ1 : Nat → Prop}, back ((id, o) :: objs) ds ts = some objs' → G.le G' → (∀ i, G'.dom i → G.dom i ∨ i = id) → (∀ i v x, G'.κ i v = some x → G.κ i v = some x ∨ i = id) → (∀ v x ver e sz rows, G'.κ id v = some x → o = .row ver e sz rows → v ≤ ver) → Sub χ1 χ → Dj χ1 φ2 → (∀ i, G'.sz i = G.sz i) → OR F.P w F.K S G' χ1 id o →
     ∃ G' φ' χ', G.le G' ∧ RelD F ⟨σ.n, σ.nx, σ.env, objs'⟩ a w S G' φ' [] ∧ CR F.P w F.K F.K rest us' χ' ∧ Loose F w S φ' χ' := by
    intro o G' χ1 hb hG hdom hkd hkd' hs hd hsz' ho
    have hr' := hr.adopt hφ hG hdom (hG.dom _ hdid) hkd hkd' (hx.less hs) ho
    rw [hfil] at hr'
    obtain ⟨G2, φ2', χ2, hG2, a1, a2, a3⟩ := quG hb hr' hn' (hal.le hG) (by simpa using hl) (fun i hi ver e sz rows hl => by
     have hne : i ≠ id := by rintro rfl; exact hnid hi
     rw [qL, if_neg hne] at hl
     rw [hsz']
     exact hsz i (by simp [hi]) ver e sz rows hl) h2 ((hx.less s2).past hd)
    exact ⟨G2, φ2', χ2, ⟨fun i h => hG2.dom i (hG.dom i h), fun i h => (hG2.β i (hG.dom i h)).trans (hG.β i h), fun i h => (hG2.sz i (hG.dom i h)).trans (hG.sz i h), fun i v x h => hG2.κ i v x (hG.κ i v x h)⟩, a1, a2, a3⟩
   simp only [back] at h
   split at h
   ·
    rename_i e' rows' ver e sz rows ho
    split at h
    ·
     rename_i hb
     obtain rfl := qGB hb
     obtain ⟨hsz1, hsz2⟩ := hsz id (by simp) _ _ _ _ ho
     cases h1 with
     | ow hs vs hown ψ hbb hψ hcr hnil hd0 s3 s4 =>
      have hkn := qIU hr ho
      have hkd : ∀ v x, (G.ver id (ver + 1) (rows', vs)).κ id v = some x → v ≤ ver + 1 := by
       intro v x hx'
       simp only [Gh.ver] at hx'
       split at hx'
       · rename_i h; omega
       have := (hr.kd id v x hx').2 _ _ _ _ ho
       omega
      refine go (G' := G.ver id (ver + 1) (rows', vs)) h (Gh.le_ver hkn) (fun _ h => .inl h) (fun i v x hx' => ?_) (fun v x ver' e' sz' rows'' hx' hoo => ?_) (χ1 := φ1) s1 hd12 (fun _ => rfl) ?_
      ·
       simp only [Gh.ver] at hx'
       split at hx'
       · rename_i h; exact .inr h.1
       exact .inl hx'
      ·
       simp only [O.row.injEq] at hoo
       obtain ⟨rfl, _⟩ := hoo
       exact hkd v x hx'
      refine ⟨hdid, hsz1, hsz2, vs, by simp [Gh.ver], by rw [hsz1]; exact hs, ?_, ψ, fun b hb => ?_, fun b hb => s3 b (hψ b hb), hcr⟩
      ·
       rw [hsz1]
       show w.ownsRow 0 _ _ (G.β id) _ _
       rw [← hu]
       exact hown
      have hb : (G.β id).ownBlock = some b := hb
      rw [← hu] at hb
      exact ⟨s3 b (hbb b hb).1, (hbb b hb).2⟩
    simp at h
   ·
    refine go h (Gh.le.refl G) (fun _ h => .inl h) (fun _ _ _ h => .inl h) (by simp) (χ1 := no) (fun _ h => h.elim) (fun _ h => h.elim) (fun _ => rfl) ?_
    trivial
   ·
    rename_i e' cs e cs0 ho
    split at h
    ·
     rename_i vs hb hpl
     obtain rfl := qGB hb
     cases h1 with
     | bx vs' hg ψ hbb hψ hcr hnil hd0 s3 s4 =>
      refine go h (Gh.le.refl G) (fun _ h => .inl h) (fun _ _ _ h => .inl h) (by simp) (χ1 := φ1) s1 hd12 (fun _ => rfl) ?_
      exact ⟨hdid, _, vs', hu.symm, hg, s3 _ hbb.1, qtD hpl hcr hr.KS⟩
    simp at h
   simp at h
theorem Gh.le.trans {A B C : Gh} (h : A.le B) (k : B.le C) : A.le C := ⟨fun i x => k.dom i (h.dom i x), fun i x => (k.β i (h.dom i x)).trans (h.β i x), fun i x => (k.sz i (h.dom i x)).trans (h.sz i x), fun i v x y => k.κ i v x (h.κ i v x y)⟩
theorem qBP {D : List Nat} (hr : RelD F σ a w S G φ D) {id : Nat} (h : freshB σ.nx σ.objs id = true) : ¬ G.dom id := by
 intro hd
 unfold freshB at h
 cases hb : nl σ.nx id with
 | false => simp [hb] at h
 | true =>
  have hle := qNC hb
  rcases hr.nx id hd with h1 | h1
  · omega
  simp [hb, h1] at h
theorem RelD.come (hr : RelD F σ a w S G φ []) {id : Nat} (hf : freshB σ.nx σ.objs id = true) {v : Value} {sz : Nat} {k : Option (Rws × List Value)} {o : O} {χ χ1 : Nat → Prop} (hx : Loose F w S φ χ) (hs : Sub χ1 χ) {χ2 : Nat → Prop} (hd : Dj χ1 χ2) (hs2 : Sub χ2 χ) (ho : OR F.P w F.K S (G.add id v sz k) χ1 id o) :
  ∃ φ', G.le (G.add id v sz k) ∧ RelD F ⟨σ.n, σ.nx, σ.env, (id, o) :: σ.objs⟩ a w S (G.add id v sz k) φ' [] ∧ Loose F w S φ' χ2 := by
 have hid := qBP hr hf
 have hle := Gh.le_add hid (fun v x hx => (hr.kd id v x hx).1) v sz k
 have hr0 : RelD F σ a w S G (fun i b => if i = id then False else φ i b) [] := by
  refine ⟨hr.nx, hr.kd, hr.n, hr.KS, hr.Slt, hr.env, fun i hi => ?_, fun i j hij b hb hb' => ?_, fun i b hb => ?_, hr.kept, hr.defs, hr.anc, by simp, by simp⟩
  ·
   by_cases hii : i = id
   ·
    subst hii
    have := hr.obj i hi
    cases hlk : look O.dead σ.objs i with
    | dead => trivial
    | row ver e sz rows => rw [hlk] at this; exact (hid this.1).elim
    | box e cs => rw [hlk] at this; exact (hid this.1).elim
   have e : (fun b => if i = id then False else φ i b) = φ i := by funext b; rw [if_neg hii]
   rw [e]
   exact hr.obj i hi
  ·
   have hb : if i = id then False else φ i b := hb
   have hb' : if j = id then False else φ j b := hb'
   split at hb
   · exact hb
   split at hb'
   · exact hb'
   exact hr.dj i j hij b hb hb'
  ·
   have hb : if i = id then False else φ i b := hb
   split at hb
   · exact hb.elim
   exact hr.own i b hb
 have hx0 : Loose F w S (fun i b => if i = id then False else φ i b) χ := fun b hb => by
  obtain ⟨h1, h2, h3, h4⟩ := hx b hb
  refine ⟨h1, h2, h3, fun i hi => ?_⟩
  have hi : if i = id then False else φ i b := hi
  split at hi
  · exact hi
  · exact h4 i hi
 have hkd : ∀ v' x, (G.add id v sz k).κ id v' = some x → v' = 0 := by
  intro v' x hx'
  simp only [Gh.add, if_true] at hx'
  split at hx'
  · assumption
  · simp at hx'
 have h := hr0.adopt (id := id) (G' := G.add id v sz k) (o := o) (χ := χ1) (fun b hb => by simp at hb) hle (fun i h => h) (.inr rfl) (fun i v' x hx' => by
  by_cases hi : i = id
  · exact .inr hi
  ·
   simp only [Gh.add, if_neg hi] at hx'
   exact .inl hx') (fun v' x ver e sz' rows hx' _ => by have := hkd v' x hx'; omega) (hx0.less hs) ho
 exact ⟨_, hle, h, (hx0.less hs2).past hd⟩
theorem qOC (ht : TabOk F.P tab) : ∀ {cs rest : List T} {objs objs' : List (Nat × O)} {id id' : Nat} {vs : List V} {us us' : List Value} {G : Gh} {φ : Nat → Nat → Prop} {χ : Nat → Prop}, openCells tab σ.nx objs id cs = some (vs, objs', id') → RelD F ⟨σ.n, σ.nx, σ.env, objs⟩ a w S G φ [] → us.length = cs.length →
  CR F.P w F.K F.K (cs ++ rest) (us ++ us') χ → Loose F w S φ χ →
  ∃ G' φ' χ', G.le G' ∧ RelD F ⟨σ.n, σ.nx, σ.env, objs'⟩ a w S G' φ' [] ∧ VRs F.P w F.K S G' vs us ∧ CR F.P w F.K F.K rest us' χ' ∧ Loose F w S φ' χ'
 | [], rest, objs, objs', id, id', vs, us, us', G, φ, χ, h, hr, hl, hc, hx => by
  simp only [openCells, Option.some.injEq, Prod.mk.injEq] at h
  obtain ⟨rfl, rfl, _⟩ := h
  obtain rfl : us = [] := List.eq_nil_of_length_eq_zero hl
  exact ⟨G, φ, χ, Gh.le.refl G, hr, .nil, hc, hx⟩
 | c :: cs, rest, objs, objs', id, id', vs, [], us', G, φ, χ, h, hr, hl, hc, hx => by simp at hl
 | c :: cs, rest, objs, objs', id, id', vs, u :: us, us', G, φ, χ, h, hr, hl, hc, hx => by
  rw [List.cons_append, List.cons_append] at hc
  obtain ⟨u', us2, φ1, φ2, he, h1, h2, hd12, s1, s2⟩ := hc.uncons
  simp only [List.cons.injEq] at he
  obtain ⟨rfl, rfl⟩ := he
  have hl' : us.length = cs.length := by simpa using hl
  have plain : ∀ {v : V} {vs' : List V}, openCells tab σ.nx objs id cs = some (vs', objs', id') → (∀ G', VR F.P w F.K S G' v u) → vs = v :: vs' → ∃ G' φ' χ', G.le G' ∧ RelD F ⟨σ.n, σ.nx, σ.env, objs'⟩ a w S G' φ' [] ∧ VRs F.P w F.K S G' vs (u :: us) ∧ CR F.P w F.K F.K rest us' χ' ∧ Loose F w S φ' χ' := by
   intro v vs' hrec hv hvs
   obtain ⟨G', φ', χ', a1, a2, a3, a4, a5⟩ := qOC ht hrec hr hl' h2 (hx.less s2)
   exact ⟨G', φ', χ', a1, a2, by rw [hvs]; exact .cons (hv G') a3, a4, a5⟩
  simp only [openCells] at h
  cases c with
  | s v =>
   simp only at h
   split at h
   ·
    rename_i vs' os i' hrec
    simp only [Option.some.injEq, Prod.mk.injEq] at h
    obtain ⟨rfl, rfl, rfl⟩ := h
    refine plain hrec (fun G' => ?_) rfl
    cases h1 with
    | s h1 _ => exact VR.s h1
   simp at h
  | er =>
   simp only at h
   split at h
   ·
    rename_i vs' os i' hrec
    simp only [Option.some.injEq, Prod.mk.injEq] at h
    obtain ⟨rfl, rfl, rfl⟩ := h
    refine plain hrec (fun G' => ?_) rfl
    cases h1 with
    | er _ => exact .t (.er .nil) .nil
   simp at h
  | im k r =>
   cases k with
   | false => simp at h
   | true =>
    simp only at h
    split at h
    ·
     rename_i vs' os i' hrec
     simp only [Option.some.injEq, Prod.mk.injEq] at h
     obtain ⟨rfl, rfl, rfl⟩ := h
     refine plain hrec (fun G' => ?_) rfl
     cases h1 with
     | im1 hn hcc sz hs vs hA hr' _ => exact .t (.im1 hn hcc sz hs vs hA hr' .nil) .nil
    simp at h
  | ow e rows =>
   simp only at h
   split at h
   ·
    rename_i ty hty hf
    split at h
    ·
     rename_i vs' os i' hrec
     simp only [Option.some.injEq, Prod.mk.injEq] at h
     obtain ⟨rfl, rfl, rfl⟩ := h
     have hce := qyC (ht _ _ hty)
     cases h1 with
     | ow hs vs hown ψ hbb hψ hcr hnil hd0 s3 s4 =>
      have h1v : u.oneCell' = true := by rcases hown.2 with ⟨rfl, _⟩ | ⟨g, cap, cur, rfl, _⟩ <;> rfl
      obtain ⟨φ', hle, hr', hx'⟩ := hr.come (id := id) hf (v := u) (sz := ty.size) (k := some (rows, vs)) (o := .row 0 e ty.size rows) hx s1 hd12 s2 ⟨.inr rfl, hce.symm, by simp [Gh.add], vs, by simp [Gh.add], by rw [← hce]; exact hs, by rw [← hce]; simpa [Gh.add] using hown, ψ, fun b hb => by
       have hb : u.ownBlock = some b := by simpa [Gh.add] using hb
       exact ⟨s3 b (hbb b hb).1, (hbb b hb).2⟩, fun b hb => s3 b (hψ b hb), hcr⟩
      obtain ⟨G', φ'', χ', a1, a2, a3, a4, a5⟩ := qOC ht hrec hr' hl' h2 hx'
      refine ⟨G', φ'', χ', hle.trans a1, a2, .cons (.rf (a1.dom _ (.inr rfl)) ?_ h1v .nil) a3, a4, a5⟩
      rw [a1.β id (.inr rfl)]
      simp [Gh.add]
    simp at h
   simp at h
  | bx e xs =>
   simp only at h
   split at h
   ·
    rename_i us0 hpl hf
    split at h
    ·
     rename_i vs' os i' hrec
     simp only [Option.some.injEq, Prod.mk.injEq] at h
     obtain ⟨rfl, rfl, rfl⟩ := h
     cases h1 with
     | @bx _ _ _ _ _ _ g _ _ vs hg ψ hbb hψ hcr hnil hd0 s3 s4 =>
      obtain ⟨φ', hle, hr', hx'⟩ := hr.come (id := id) hf (v := .pointer (some ⟨g, 0, none⟩)) (sz := 0) (k := none) (o := .box e us0) hx s1 hd12 s2 ⟨.inr rfl, g, vs, by simp [Gh.add], hg, s3 _ hbb.1, qtD hpl hcr hr.KS⟩
      obtain ⟨G', φ'', χ', a1, a2, a3, a4, a5⟩ := qOC ht hrec hr' hl' h2 hx'
      refine ⟨G', φ'', χ', hle.trans a1, a2, .cons ?_ a3, a4, a5⟩
      have hp : VR F.P w F.K S G' (.pt id 0 0) (.pointer (some ⟨g, (0 : Int).toNat * G'.sz id + 0, none⟩)) := .pt (a1.dom _ (.inr rfl)) (Int.le_refl _) (by rw [a1.β id (.inr rfl)]; simp [Gh.add, blk]) .nil
      simpa using hp
    simp at h
   simp at h
  | _ => simp at h
theorem qSE (ht : TabOk F.P tab) : ∀ {res : List A} {rs us : List Value} {objs objs' : List (Nat × O)} {id : Nat} {vs : List V} {G : Gh} {φ : Nat → Nat → Prop} {χ : Nat → Prop}, openRes tab σ.nx objs id res = some (vs, objs') → RelD F ⟨σ.n, σ.nx, σ.env, objs⟩ a w S G φ [] → AS res rs us →
  CR F.P w F.K F.K (acells res) us χ → Loose F w S φ χ →
  ∃ G' φ', G.le G' ∧ RelD F ⟨σ.n, σ.nx, σ.env, objs'⟩ a w S G' φ' [] ∧ VRs F.P w F.K S G' vs rs
 | [], rs, us, objs, objs', id, vs, G, φ, χ, h, hr, has, hc, hx => by
  simp only [openRes, Option.some.injEq, Prod.mk.injEq] at h
  obtain ⟨rfl, rfl⟩ := h
  cases has
  exact ⟨G, φ, Gh.le.refl G, hr, .nil⟩
 | .v x :: r, rs, us, objs, objs', id, vs, G, φ, χ, h, hr, has, hc, hx => by
  simp only [openRes] at h
  cases has with
  | v has =>
   rename_i u as us
   split at h
   ·
    rename_i v os i' hcs
    split at h
    ·
     rename_i vs' os' hrec
     simp only [Option.some.injEq, Prod.mk.injEq] at h
     obtain ⟨rfl, rfl⟩ := h
     obtain ⟨G', φ', χ', a1, a2, a3, a4, a5⟩ := qOC ht (us := [u]) hcs hr rfl hc hx
     obtain ⟨G2, φ2, b1, b2, b3⟩ := qSE ht hrec a2 has a4 a5
     exact ⟨G2, φ2, a1.trans b1, b2, .cons (a3.move (fun _ _ => rfl) (fun _ _ => rfl) b1) b3⟩
    simp at h
   simp at h
 | .ag xs :: r, rs, us, objs, objs', id, vs, G, φ, χ, h, hr, has, hc, hx => by
  simp only [openRes] at h
  cases has with
  | ag hl has =>
   rename_i us0 as us
   split at h
   ·
    rename_i cs os i' hcs
    split at h
    ·
     rename_i vs' os' hrec
     simp only [Option.some.injEq, Prod.mk.injEq] at h
     obtain ⟨rfl, rfl⟩ := h
     obtain ⟨G', φ', χ', a1, a2, a3, a4, a5⟩ := qOC ht (us := us0) hcs hr hl hc hx
     obtain ⟨G2, φ2, b1, b2, b3⟩ := qSE ht hrec a2 has a4 a5
     exact ⟨G2, φ2, a1.trans b1, b2, .cons (.ag (a3.move (fun _ _ => rfl) (fun _ _ => rfl) b1) .nil) b3⟩
    simp at h
   simp at h
end Go.Proofs.YtcpekllcbimpmaaGreatDoor.L
namespace Go.Proofs.YtcpekllcbimpmaaGreatDoor.L
set_option linter.unusedVariables false
set_option linter.unusedSimpArgs false
open Go
variable {F : Fr} {σ : St} {a : Act} {w : World} {S : Nat → Prop} {G : Gh} {φ : Nat → Nat → Prop} {tab : List (Nat × Ty)}
def Sx (S : Nat → Prop) (φ : Nat → Nat → Prop) (ids : List Nat) : Nat → Prop := fun b => S b ∨ ∃ i, i ∉ ids ∧ φ i b
def Borrowable (σ : St) (objsB : List (Nat × O)) (ids : List Nat) : Prop := ∀ i, look O.dead objsB i ≠ .dead → look .dead objsB i = look .dead σ.objs i ∧ i ∉ ids
theorem qaT (hr : Rel0 F σ a w S G φ) {ids : List Nat} {id ver e sz rows} (ho : look .dead σ.objs id = .row ver e sz rows) (hid : id ∉ ids) {u : Value} (hv : VR F.P w F.K S G (.rf id) u) : CR F.P w F.K (Sx S φ ids) [.im false (Ls.fr rows)] [u] no := by
 cases hv with
 | rf _ hu _ _ =>
  subst hu
  have := (qcJ hr ho).lend (S' := Sx S φ ids) (fun b hb => .inl (hr.KS b hb)) (fun b hb => .inl (hr.KS b hb)) (fun b hb => .inr ⟨id, hid, hb⟩)
  simpa [fzL, T.fz, Ls] using this
theorem qbT (hr : Rel0 F σ a w S G φ) {ids : List Nat} {id ver e sz rows lo hi} (ho : look .dead σ.objs id = .row ver e sz rows) (hid : id ∉ ids) {u : Value} (hv : VR F.P w F.K S G (.sb id lo hi) u) : CR F.P w F.K (Sx S φ ids) [.im false (Ls.fr (Ls.sr rows lo hi))] [u] no := by
 obtain ⟨hdid, hsz, hGs, us, hk, hrs, hown, ψ, hψb, hψ, hcr⟩ := hr.row ho
 cases hv with
 | sb hid' h0 h1 hn hm hc hA hb _ =>
  rename_i A n c _
  obtain ⟨A', m, c', hβ', hm'⟩ := hb
  have hh : hi ≤ (rows.length : Int) := by
   rcases hown.2 with ⟨hβ, hl0⟩ | ⟨g', cap, cur, hβ, _⟩
   · rw [hβ'] at hβ; simp only [Value.slice.injEq] at hβ; omega
   rw [hβ'] at hβ; simp only [Value.slice.injEq] at hβ; omega
  have hlen : (Ls.sr rows lo hi).length = n := by
   simp only [Ls, List.length_drop, List.length_take]
   omega
  have hcr' : CR F.P w F.K F.K (Ls.sr rows lo hi).flatten ((us.take (hi.toNat * sz)).drop (lo.toNat * sz)) ψ := by
   have := (hcr.take (hi.toNat * sz)).drop (lo.toNat * sz)
   rwa [← qrD rows hi.toNat hrs, ← qsD _ lo.toNat (fun r hr => hrs r (List.mem_of_mem_take hr))] at this
  have hl := hcr'.lend (S' := Sx S φ ids) (fun b hb => .inl (hr.KS b hb)) (fun b hb => .inl (hr.KS b hb)) (fun b hb => .inr ⟨id, hid, hψ b hb⟩)
  refine .im0 (by simp only [Ls, qjP]; exact hlen.symm) hc sz ?_ _ ?_ (by show CR _ _ _ _ (fzR (Ls.sr rows lo hi)).flatten _ _; rw [quH]; exact hl) .nil
  ·
   intro r hr'
   simp only [Ls, qtH] at hr'
   obtain ⟨q, hq, rfl⟩ := List.mem_map.1 hr'
   rw [qiP]
   exact hrs q (List.mem_of_mem_take (List.mem_of_mem_drop hq))
  intro hp
  obtain ⟨g, hg, rfl⟩ := hA (by omega)
  refine ⟨g, _, rfl, .inr ⟨id, hid, ?_⟩, fun j x hj => ?_⟩
  ·
   refine (hψb g ?_).1
   rcases hown.2 with ⟨hβ, _⟩ | ⟨g', cap, cur, hβ, _⟩
   · rw [hβ] at hg; simp [blk] at hg
   rw [hβ] at hg ⊢
   simpa [blk, Value.ownBlock] using hg
  rw [List.getElem?_drop, List.getElem?_take] at hj
  split at hj
  ·
   rw [hGs]
   exact qqD hown hg hj
  cases hj
theorem CR.cell {P : Program} {K S : Nat → Prop} {ts : List T} {us : List Value} {φ : Nat → Prop} (h : CR P w K S ts us φ) : ∀ {i : Nat} {t : T} {u : Value}, ts[i]? = some t → us[i]? = some u → CR P w K S [t] [u] φ := by
 intro i t u h1 h2
 have hlt := (List.getElem?_eq_some_iff.1 h1).1
 have e1 : (ts.drop i).take 1 = [t] := by
  rw [List.drop_eq_getElem_cons hlt]
  simp [(List.getElem?_eq_some_iff.1 h1).2]
 have hlt2 := (List.getElem?_eq_some_iff.1 h2).1
 have e2 : (us.drop i).take 1 = [u] := by
  rw [List.drop_eq_getElem_cons hlt2]
  simp [(List.getElem?_eq_some_iff.1 h2).2]
 have := (h.drop i).take 1
 rwa [e1, e2] at this
theorem quP {sz : Nat} {rows : Rws} (hs : ∀ r ∈ rows, r.length = sz) {i j : Nat} {t : T} (hi : i < rows.length) (hj : j < sz) (h : (rows.getD i [])[j]? = some t) : rows.flatten[i * sz + j]? = some t := by
 rw [← qeD rows i hs hi, List.getElem?_take, if_pos hj, List.getElem?_drop] at h
 exact h
theorem qcT (hr : Rel0 F σ a w S G φ) {ids : List Nat} {id ver i j e rows} {e0 sz : Nat} {rows0 : Rws} (ho : look .dead σ.objs id = .row ver e0 sz rows0) (hid : id ∉ ids) {u : Value} (hv : VR F.P w F.K S G (.np id ver i j e rows) u) : CR F.P w F.K (Sx S φ ids) [.im false (Ls.fr rows)] [u] no := by
 obtain ⟨hdid, hsz, hGs, us, hk, hrs, hown, ψ, hψb, hψ, hcr⟩ := hr.row ho
 cases hv with
 | np hid' hi r0 u0 hk' hj hrw hl hu hsl _ =>
  rw [hk] at hk'
  simp only [Option.some.injEq, Prod.mk.injEq] at hk'
  obtain ⟨rfl, rfl⟩ := hk'
  rw [hGs] at hj hu
  have h1 := hcr.cell (quP hrs hl hj hrw) hu
  have := h1.lend (S' := Sx S φ ids) (fun b hb => .inl (hr.KS b hb)) (fun b hb => .inl (hr.KS b hb)) (fun b hb => .inr ⟨id, hid, hψ b hb⟩)
  simpa [fzL, T.fz, Ls] using this
mutual
theorem qpF (hr : Rel0 F σ a w S G φ) {ids : List Nat} {objsB : List (Nat × O)} (hB : Borrowable σ objsB ids) :
  ∀ (n : Nat) {v : V} {u : Value} {t : T}, VR F.P w F.K S G v u → lendCell Ls objsB n v = some t → CR F.P w F.K (Sx S φ ids) [t] [u] no
 | n, v, u, t, hv, h => by
  have hmore : Sub S (Sx S φ ids) := fun b hb => .inl hb
  unfold lendCell at h
  split at h
  · simp only [Option.some.injEq] at h; subst h; cases hv with | t hx _ => exact hx.more hmore
  · simp only [Option.some.injEq] at h; subst h; cases hv with | t hx _ => exact hx.more hmore
  ·
   simp only [Option.some.injEq] at h
   subst h
   cases hv with
   | t hx _ =>
    have := hx.lend (S' := Sx S φ ids) (fun b hb => .inl (hr.KS b hb)) hmore (fun _ h => h.elim)
    simpa [fzL, T.fz] using this
  ·
   split at h
   ·
    rename_i ho
    simp only [Option.some.injEq] at h
    subst h
    obtain ⟨e1, e2⟩ := hB _ (by rw [ho]; simp)
    exact qaT hr (e1 ▸ ho) e2 hv
   simp at h
  ·
   split at h
   ·
    rename_i ho
    simp only [Option.some.injEq] at h
    subst h
    obtain ⟨e1, e2⟩ := hB _ (by rw [ho]; simp)
    exact qbT hr (e1 ▸ ho) e2 hv
   simp at h
  ·
   split at h
   ·
    rename_i ho
    split at h
    ·
     rename_i hb
     obtain rfl := qGB hb
     simp only [Option.some.injEq] at h
     subst h
     obtain ⟨e1, e2⟩ := hB _ (by rw [ho]; simp)
     exact qcT hr (e1 ▸ ho) e2 hv
    simp at h
   simp at h
  · simp only [Option.some.injEq] at h; subst h; cases hv with | t hx _ => exact hx.more hmore
  ·
   split at h
   ·
    rename_i id j _ e cs ho
    split at h
    ·
     rename_i ts hts
     simp only [Option.some.injEq] at h
     subst h
     obtain ⟨e1, e2⟩ := hB _ (by rw [ho]; simp)
     rw [ho] at e1
     obtain ⟨g, us, hβ, hg, hus, hφ⟩ := hr.blk_lt e1.symm
     cases hv with
     | pt hid' hi hg' _ =>
      rw [hβ] at hg'
      obtain rfl : g = _ := by simpa [blk] using hg'
      rw [qXD] at hts
      have := qYD hr hB _ (hus.drop j) hts
      refine .ip _ (fun _ => .inr ⟨id, e2, hφ⟩) (fun k x hk => ?_) this .nil
      rw [Int.toNat_zero, Nat.zero_mul, Nat.zero_add, cell_of_row w g (j + k) us.toArray e (0, 0) hg]
      rw [List.getElem?_drop] at hk
      simpa using hk
    simp at h
   simp at h
  ·
   split at h
   ·
    rename_i ts hts
    simp only [Option.some.injEq] at h
    subst h
    cases hv with
    | fn hc _ => exact .fn _ (qYD hr hB _ hc hts) .nil
   simp at h
  simp at h
theorem qYD (hr : Rel0 F σ a w S G φ) {ids : List Nat} {objsB : List (Nat × O)} (hB : Borrowable σ objsB ids) :
  ∀ (n : Nat) {vs : List V} {us : List Value} {ts : List T}, VRs F.P w F.K S G vs us → lendCell.lendAll Ls objsB n vs = some ts → CR F.P w F.K (Sx S φ ids) ts us no
 | n, [], us, ts, hv, h => by
  simp only [lendCell.lendAll, Option.some.injEq] at h
  subst h
  cases hv
  exact .nil
 | 0, c :: cs, us, ts, hv, h => by simp [lendCell.lendAll] at h
 | n + 1, c :: cs, us, ts, hv, h => by
  simp only [lendCell.lendAll] at h
  split at h
  · simp at h
  rename_i x hx
  split at h
  · simp at h
  rename_i xs hxs
  simp only [Option.some.injEq] at h
  subst h
  obtain ⟨u, us, rfl, h1, h2⟩ := hv.uncons
  have := (qpF hr hB n h1 hx).join (qYD hr hB n h2 hxs) (fun _ h => h.elim) (fun _ h => h) (fun _ h => h)
  simpa using this
end
end Go.Proofs.YtcpekllcbimpmaaGreatDoor.L