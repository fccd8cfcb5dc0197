/- What cells hold trees: the relation between trees and memory. -/
import Derived.Test.YtgicjbeaomjdgaaSl0
namespace Go.Proofs.Ytgicjbeaomjdgaa.L
set_option linter.unusedVariables false
set_option linter.unusedSimpArgs false
open Go

/-- No set meets the other. -/
def Dj (a b : Nat → Prop) : Prop := ∀ x, a x → b x → False
def Sub (a b : Nat → Prop) : Prop := ∀ x, a x → b x
def no : Nat → Prop := fun _ => False

/-- Cells that hold trees. K: the blocks that may be kept; S (an index): those that nobody writes; the last set: the blocks that the trees own are among it. -/
inductive CR (P : Program) (w : World) (K : Nat → Prop) : (Nat → Prop) → List T → List Value → (Nat → Prop) → Prop
  | nil {S φ} : CR P w K S [] [] φ
  | s {S φ v ts us} (h1 : v.oneCell' = true) (h : CR P w K S ts us φ) : CR P w K S (.s v :: ts) (v :: us) φ
  | jk {S φ v ts us} (h1 : v.oneCell' = true) (h : CR P w K S ts us φ) : CR P w K S (.jk :: ts) (v :: us) φ
  | er {S φ t x ts us} (h : CR P w K S ts us φ) : CR P w K S (.er :: ts) (.iface t x :: us) φ
  | im0 {S φ rows A n c ts us} (hn : n = rows.length) (hc : n ≤ c) (sz : Nat) (hs : ∀ r ∈ rows, r.length = sz) (vs : List Value)
      (hA : 0 < n → ∃ b o, A = some ⟨b, o, none⟩ ∧ S b ∧ ∀ j u, vs[j]? = some u → w.cell? ⟨b, o + j, none⟩ = some u)
      (hr : CR P w K S rows.flatten vs no) (h : CR P w K S ts us φ) : CR P w K S (.im false rows :: ts) (.slice A n c :: us) φ
  | im1 {S φ rows A n c ts us} (hn : n = rows.length) (hc : n ≤ c) (sz : Nat) (hs : ∀ r ∈ rows, r.length = sz) (vs : List Value)
      (hA : 0 < n → ∃ b o, A = some ⟨b, o, none⟩ ∧ K b ∧ ∀ j u, vs[j]? = some u → w.cell? ⟨b, o + j, none⟩ = some u)
      (hr : CR P w K K rows.flatten vs no) (h : CR P w K S ts us φ) : CR P w K S (.im true rows :: ts) (.slice A n c :: us) φ
  | ow {S φ φ1 φ2 e rows v ts us} (hs : ∀ r ∈ rows, r.length = P.cellsOf e) (vs : List Value)
      (ho : w.ownsRow 0 e (P.cellsOf e) v rows.length vs) (ψ : Nat → Prop) (hb : ∀ b, v.ownBlock = some b → φ1 b ∧ ¬ ψ b) (hψ : Sub ψ φ1)
      (hr : CR P w K K rows.flatten vs ψ) (h : CR P w K S ts us φ2) (hd : Dj φ1 φ2) (h1 : Sub φ1 φ) (h2 : Sub φ2 φ) : CR P w K S (.ow e rows :: ts) (v :: us) φ
  | ip {S φ cs b o ts us} (vs : List Value) (hS : 0 < cs.length → S b) (hA : ∀ j u, vs[j]? = some u → w.cell? ⟨b, o + j, none⟩ = some u)
      (hr : CR P w K S cs vs no) (h : CR P w K S ts us φ) : CR P w K S (.ip cs :: ts) (.pointer (some ⟨b, o, none⟩) :: us) φ
  | bx {S φ φ1 φ2 e cs g ts us} (vs : List Value) (hg : w.heap[g]? = some (.cells vs.toArray e (0, 0))) (ψ : Nat → Prop) (hb : φ1 g ∧ ¬ ψ g) (hψ : Sub ψ φ1)
      (hr : CR P w K K cs vs ψ) (h : CR P w K S ts us φ2) (hd : Dj φ1 φ2) (h1 : Sub φ1 φ) (h2 : Sub φ2 φ) : CR P w K S (.bx e cs :: ts) (.pointer (some ⟨g, 0, none⟩) :: us) φ
  | fn {S φ f cs ts us} (vs : List Value) (hr : CR P w K S cs vs no) (h : CR P w K S ts us φ) : CR P w K S (.fn f cs :: ts) (.func (.func f) #[] vs.toArray :: us) φ

variable {P : Program} {w w' : World} {K K' S S' φ φ' : Nat → Prop} {ts : List T} {us : List Value}

theorem CR.mono (h : CR P w K S ts us φ) : ∀ {φ'}, Sub φ φ' → CR P w K S ts us φ' := by
  induction h with
  | nil => intro φ' _; exact .nil
  | s h1 _ ih => intro φ' hs; exact .s h1 (ih hs)
  | jk h1 _ ih => intro φ' hs; exact .jk h1 (ih hs)
  | er _ ih => intro φ' hs; exact .er (ih hs)
  | im0 hn hc sz hss vs hA hr _ _ ih => intro φ' hs; exact .im0 hn hc sz hss vs hA hr (ih hs)
  | im1 hn hc sz hss vs hA hr _ _ ih => intro φ' hs; exact .im1 hn hc sz hss vs hA hr (ih hs)
  | ow hs vs ho ψ hb hψ hr h hd h1 h2 _ _ => intro φ' hs'; exact .ow hs vs ho ψ hb hψ hr h hd (fun x hx => hs' x (h1 x hx)) (fun x hx => hs' x (h2 x hx))
  | ip vs hS hA hr _ _ ih => intro φ' hs; exact .ip vs hS hA hr (ih hs)
  | bx vs hg ψ hb hψ hr h hd h1 h2 _ _ => intro φ' hs'; exact .bx vs hg ψ hb hψ hr h hd (fun x hx => hs' x (h1 x hx)) (fun x hx => hs' x (h2 x hx))
  | fn vs hr _ _ ih => intro φ' hs; exact .fn vs hr (ih hs)

/-- More blocks that nobody writes. -/
theorem CR.more (h : CR P w K S ts us φ) : ∀ {S'}, Sub S S' → CR P w K S' ts us φ := by
  induction h with
  | nil => intro S' _; exact .nil
  | s h1 _ ih => intro S' hs; exact .s h1 (ih hs)
  | jk h1 _ ih => intro S' hs; exact .jk h1 (ih hs)
  | er _ ih => intro S' hs; exact .er (ih hs)
  | im0 hn hc sz hss vs hA hr _ ihr ih =>
    intro S' hs
    exact .im0 hn hc sz hss vs (fun hp => let ⟨b, o, e, hb, hx⟩ := hA hp; ⟨b, o, e, hs b hb, hx⟩) (ihr hs) (ih hs)
  | im1 hn hc sz hss vs hA hr _ _ ih => intro S' hs; exact .im1 hn hc sz hss vs hA hr (ih hs)
  | ow hs vs ho ψ hb hψ hr h hd h1 h2 _ ih => intro S' hs'; exact .ow hs vs ho ψ hb hψ hr (ih hs') hd h1 h2
  | ip vs hS hA hr _ ihr ih => intro S' hs; exact .ip vs (fun hp => hs _ (hS hp)) hA (ihr hs) (ih hs)
  | bx vs hg ψ hb hψ hr h hd h1 h2 _ ih => intro S' hs'; exact .bx vs hg ψ hb hψ hr (ih hs') hd h1 h2
  | fn vs hr _ ihr ih => intro S' hs; exact .fn vs (ihr hs) (ih hs)

/-- More blocks that may be kept. -/
theorem CR.moreK (hk : Sub K K') (h : CR P w K S ts us φ) : ∀ {S'}, Sub S S' → CR P w K' S' ts us φ := by
  induction h with
  | nil => intro S' _; exact .nil
  | s h1 _ ih => intro S' hs; exact .s h1 (ih hs)
  | jk h1 _ ih => intro S' hs; exact .jk h1 (ih hs)
  | er _ ih => intro S' hs; exact .er (ih hs)
  | im0 hn hc sz hss vs hA hr _ ihr ih =>
    intro S' hs
    exact .im0 hn hc sz hss vs (fun hp => let ⟨b, o, e, hb, hx⟩ := hA hp; ⟨b, o, e, hs b hb, hx⟩) (ihr hs) (ih hs)
  | im1 hn hc sz hss vs hA hr _ ihr ih =>
    intro S' hs
    exact .im1 hn hc sz hss vs (fun hp => let ⟨b, o, e, hb, hx⟩ := hA hp; ⟨b, o, e, hk b hb, hx⟩) (ihr hk) (ih hs)
  | ow hs vs ho ψ hb hψ hr h hd h1 h2 ihr ih => intro S' hs'; exact .ow hs vs ho ψ hb hψ (ihr hk) (ih hs') hd h1 h2
  | ip vs hS hA hr _ ihr ih => intro S' hs; exact .ip vs (fun hp => hs _ (hS hp)) hA (ihr hs) (ih hs)
  | bx vs hg ψ hb hψ hr h hd h1 h2 ihr ih => intro S' hs'; exact .bx vs hg ψ hb hψ (ihr hk) (ih hs') hd h1 h2
  | fn vs hr _ ihr ih => intro S' hs; exact .fn vs (ihr hs) (ih hs)

theorem CR.len (h : CR P w K S ts us φ) : us.length = ts.length := by
  induction h <;> simp_all

theorem CR.one (h : CR P w K S ts us φ) : ∀ u ∈ us, u.oneCell' = true := by
  induction h with
  | nil => intro u hu; simp at hu
  | s h1 _ ih => intro u hu; rcases List.mem_cons.1 hu with rfl | hu; exact h1; exact ih u hu
  | jk h1 _ ih => intro u hu; rcases List.mem_cons.1 hu with rfl | hu; exact h1; exact ih u hu
  | er _ ih => intro u hu; rcases List.mem_cons.1 hu with rfl | hu; rfl; exact ih u hu
  | im0 _ _ _ _ _ _ _ _ _ ih => intro u hu; rcases List.mem_cons.1 hu with rfl | hu; rfl; exact ih u hu
  | im1 _ _ _ _ _ _ _ _ _ ih => intro u hu; rcases List.mem_cons.1 hu with rfl | hu; rfl; exact ih u hu
  | ow hs vs ho ψ hb hψ hr h hd h1 h2 _ ih =>
    intro u hu
    rcases List.mem_cons.1 hu with rfl | hu
    · rcases ho.2 with ⟨rfl, _⟩ | ⟨g, cap, cur, rfl, _⟩ <;> rfl
    · exact ih u hu
  | ip _ _ _ _ _ _ ih => intro u hu; rcases List.mem_cons.1 hu with rfl | hu; rfl; exact ih u hu
  | bx vs hg ψ hb hψ hr h hd h1 h2 _ ih => intro u hu; rcases List.mem_cons.1 hu with rfl | hu; rfl; exact ih u hu
  | fn _ _ _ _ ih => intro u hu; rcases List.mem_cons.1 hu with rfl | hu; rfl; exact ih u hu

/-- The blocks in question are as they were. -/
theorem CR.move (h : CR P w K S ts us φ) (hK : ∀ b, K b → w'.heap[b]? = w.heap[b]?) (hS : ∀ b, S b → w'.heap[b]? = w.heap[b]?) (hφ : ∀ b, φ b → w'.heap[b]? = w.heap[b]?) : CR P w' K S ts us φ := by
  have cell : ∀ {b o u}, w'.heap[b]? = w.heap[b]? → w.cell? ⟨b, o, none⟩ = some u → w'.cell? ⟨b, o, none⟩ = some u := by
    intro b o u hb hu
    rw [World.cell?_of_block (w := w) (a := ⟨b, o, none⟩) hb]; exact hu
  induction h with
  | nil => exact .nil
  | s h1 _ ih => exact .s h1 (ih hS hφ)
  | jk h1 _ ih => exact .jk h1 (ih hS hφ)
  | er _ ih => exact .er (ih hS hφ)
  | im0 hn hc sz hss vs hA hr _ ihr ih =>
    exact .im0 hn hc sz hss vs (fun hp => let ⟨b, o, e, hb, hx⟩ := hA hp; ⟨b, o, e, hb, fun j u hu => cell (hS b hb) (hx j u hu)⟩) (ihr hS (fun _ h => h.elim)) (ih hS hφ)
  | im1 hn hc sz hss vs hA hr _ ihr ih =>
    exact .im1 hn hc sz hss vs (fun hp => let ⟨b, o, e, hb, hx⟩ := hA hp; ⟨b, o, e, hb, fun j u hu => cell (hK b hb) (hx j u hu)⟩) (ihr hK (fun _ h => h.elim)) (ih hS hφ)
  | ow hs vs ho ψ hb hψ hr h hd h1 h2 ihr ih =>
    refine .ow hs vs ?_ ψ hb hψ (ihr hK (fun b hb' => hφ b (h1 b (hψ b hb')))) (ih hS (fun b hb' => hφ b (h2 b hb'))) hd h1 h2
    obtain ⟨hl, ho⟩ := ho
    refine ⟨hl, ?_⟩
    rcases ho with hn | ⟨g, cap, cur, rfl, h0, hg, r⟩
    · exact .inl hn
    · exact .inr ⟨g, cap, cur, rfl, h0, by rw [hφ g (h1 g (hb g (by simp [Value.ownBlock])).1)]; exact hg, r⟩
  | ip vs hSb hA hr _ ihr ih =>
    refine .ip vs hSb (fun j u hu => ?_) (ihr hS (fun _ h => h.elim)) (ih hS hφ)
    have hl := hr.len
    have : 0 < vs.length := Nat.lt_of_le_of_lt (Nat.zero_le _) (List.getElem?_eq_some_iff.1 hu).1
    exact cell (hS _ (hSb (by omega))) (hA j u hu)
  | bx vs hg ψ hb hψ hr h hd h1 h2 ihr ih =>
    exact .bx vs (by rw [hφ _ (h1 _ hb.1)]; exact hg) ψ hb hψ (ihr hK (fun b hb' => hφ b (h1 b (hψ b hb')))) (ih hS (fun b hb' => hφ b (h2 b hb'))) hd h1 h2
  | fn vs hr _ ihr ih => exact .fn vs (ihr hS (fun _ h => h.elim)) (ih hS hφ)

/-- Only blocks that are there count. -/
theorem CR.bound (h : CR P w K S ts us φ) : CR P w K S ts us (fun b => φ b ∧ b < w.heap.size) := by
  induction h with
  | nil => exact .nil
  | s h1 _ ih => exact .s h1 ih
  | jk h1 _ ih => exact .jk h1 ih
  | er _ ih => exact .er ih
  | im0 hn hc sz hss vs hA hr _ _ ih => exact .im0 hn hc sz hss vs hA hr ih
  | im1 hn hc sz hss vs hA hr _ _ ih => exact .im1 hn hc sz hss vs hA hr ih
  | ow hs vs ho ψ hb hψ hr h hd h1 h2 ihr ih =>
    refine .ow (φ1 := fun b => _ ∧ b < w.heap.size) (φ2 := fun b => _ ∧ b < w.heap.size) hs vs ho (fun b => ψ b ∧ b < w.heap.size) (fun b hb' => ⟨⟨(hb b hb').1, (ho.lt b hb').2⟩, fun h => (hb b hb').2 h.1⟩) (fun b hb' => ⟨hψ b hb'.1, hb'.2⟩) ihr ih ?_ (fun b hb' => ⟨h1 b hb'.1, hb'.2⟩) (fun b hb' => ⟨h2 b hb'.1, hb'.2⟩)
    exact fun x a b => hd x a.1 b.1
  | ip vs hSb hA hr _ _ ih => exact .ip vs hSb hA hr ih
  | bx vs hg ψ hb hψ hr h hd h1 h2 ihr ih =>
    refine .bx (φ1 := fun b => _ ∧ b < w.heap.size) (φ2 := fun b => _ ∧ b < w.heap.size) vs hg (fun b => ψ b ∧ b < w.heap.size) ⟨⟨hb.1, (Array.getElem?_eq_some_iff.1 hg).1⟩, fun h => hb.2 h.1⟩ (fun b hb' => ⟨hψ b hb'.1, hb'.2⟩) ihr ih ?_ (fun b hb' => ⟨h1 b hb'.1, hb'.2⟩) (fun b hb' => ⟨h2 b hb'.1, hb'.2⟩)
    exact fun x a b => hd x a.1 b.1
  | fn vs hr _ _ ih => exact .fn vs hr ih

/-- Two in line, taken apart and joined. -/
theorem CR.split : ∀ {a b : List T} {us φ}, CR P w K S (a ++ b) us φ → ∃ u1 u2 φ1 φ2, us = u1 ++ u2 ∧ CR P w K S a u1 φ1 ∧ CR P w K S b u2 φ2 ∧ Dj φ1 φ2 ∧ Sub φ1 φ ∧ Sub φ2 φ
  | [], b, us, φ, h => ⟨[], us, no, φ, rfl, .nil, h, fun _ h => h.elim, fun _ h => h.elim, fun _ h => h⟩
  | t :: a, b, us, φ, h => by
    rw [List.cons_append] at h
    cases h with
    | s h1 h => obtain ⟨u1, u2, φ1, φ2, rfl, ha, hb, hd, s1, s2⟩ := CR.split h; exact ⟨_ :: u1, u2, φ1, φ2, rfl, .s h1 ha, hb, hd, s1, s2⟩
    | jk h1 h => obtain ⟨u1, u2, φ1, φ2, rfl, ha, hb, hd, s1, s2⟩ := CR.split h; exact ⟨_ :: u1, u2, φ1, φ2, rfl, .jk h1 ha, hb, hd, s1, s2⟩
    | er h => obtain ⟨u1, u2, φ1, φ2, rfl, ha, hb, hd, s1, s2⟩ := CR.split h; exact ⟨_ :: u1, u2, φ1, φ2, rfl, .er ha, hb, hd, s1, s2⟩
    | im0 hn hc sz hs vs hA hr h => obtain ⟨u1, u2, φ1, φ2, rfl, ha, hb, hd, s1, s2⟩ := CR.split h; exact ⟨_ :: u1, u2, φ1, φ2, rfl, .im0 hn hc sz hs vs hA hr ha, hb, hd, s1, s2⟩
    | im1 hn hc sz hs vs hA hr h => obtain ⟨u1, u2, φ1, φ2, rfl, ha, hb, hd, s1, s2⟩ := CR.split h; exact ⟨_ :: u1, u2, φ1, φ2, rfl, .im1 hn hc sz hs vs hA hr ha, hb, hd, s1, s2⟩
    | ip vs hS hA hr h => obtain ⟨u1, u2, φ1, φ2, rfl, ha, hb, hd, s1, s2⟩ := CR.split h; exact ⟨_ :: u1, u2, φ1, φ2, rfl, .ip vs hS hA hr ha, hb, hd, s1, s2⟩
    | fn vs hr h => obtain ⟨u1, u2, φ1, φ2, rfl, ha, hb, hd, s1, s2⟩ := CR.split h; exact ⟨_ :: u1, u2, φ1, φ2, rfl, .fn vs hr ha, hb, hd, s1, s2⟩
    | ow hs vs ho ψ hbb hψ hr h hd0 h1 h2 =>
      obtain ⟨u1, u2, φ1, φ2, rfl, ha, hb, hd, s1, s2⟩ := CR.split h
      refine ⟨_ :: u1, u2, fun b => _ ∨ φ1 b, φ2, rfl, .ow hs vs ho ψ hbb hψ hr ha (fun x hx hy => hd0 x hx (s1 x hy)) (fun x hx => .inl hx) (fun x hx => .inr hx), hb, ?_, ?_, fun x hx => h2 x (s2 x hx)⟩
      · rintro x (hx | hx) hy
        · exact hd0 x hx (s2 x hy)
        · exact hd x hx hy
      · rintro x (hx | hx)
        · exact h1 x hx
        · exact h2 x (s1 x hx)
    | bx vs hg ψ hbb hψ hr h hd0 h1 h2 =>
      obtain ⟨u1, u2, φ1, φ2, rfl, ha, hb, hd, s1, s2⟩ := CR.split h
      refine ⟨_ :: u1, u2, fun b => _ ∨ φ1 b, φ2, rfl, .bx vs hg ψ hbb hψ hr ha (fun x hx hy => hd0 x hx (s1 x hy)) (fun x hx => .inl hx) (fun x hx => .inr hx), hb, ?_, ?_, fun x hx => h2 x (s2 x hx)⟩
      · rintro x (hx | hx) hy
        · exact hd0 x hx (s2 x hy)
        · exact hd x hx hy
      · rintro x (hx | hx)
        · exact h1 x hx
        · exact h2 x (s1 x hx)

theorem CR.join {a b : List T} {u1 u2 : List Value} {φ1 : Nat → Prop} (ha : CR P w K S a u1 φ1) : ∀ {φ2 φ : Nat → Prop}, CR P w K S b u2 φ2 → Dj φ1 φ2 → Sub φ1 φ → Sub φ2 φ → CR P w K S (a ++ b) (u1 ++ u2) φ := by
  induction ha with
  | nil => intro φ2 φ hb _ _ h2; exact hb.mono h2
  | s h1 _ ih => intro φ2 φ hb hd s1 s2; exact .s h1 (ih hb hd s1 s2)
  | jk h1 _ ih => intro φ2 φ hb hd s1 s2; exact .jk h1 (ih hb hd s1 s2)
  | er _ ih => intro φ2 φ hb hd s1 s2; exact .er (ih hb hd s1 s2)
  | im0 hn hc sz hss vs hA hr _ _ ih => intro φ2 φ hb hd s1 s2; exact .im0 hn hc sz hss vs hA hr (ih hb hd s1 s2)
  | im1 hn hc sz hss vs hA hr _ _ ih => intro φ2 φ hb hd s1 s2; exact .im1 hn hc sz hss vs hA hr (ih hb hd s1 s2)
  | ip vs hS hA hr _ _ ih => intro φ2 φ hb hd s1 s2; exact .ip vs hS hA hr (ih hb hd s1 s2)
  | fn vs hr _ _ ih => intro φ2 φ hb hd s1 s2; exact .fn vs hr (ih hb hd s1 s2)
  | @ow S φ0 φ1 φ2' e rows v ts us hs vs ho ψ hbb hψ hr h hd0 h1 h2 _ ih =>
    intro φ2 φ hb hd s1 s2
    refine .ow (φ1 := φ1) (φ2 := fun b => φ2' b ∨ φ2 b) hs vs ho ψ hbb hψ hr (ih (φ := fun b => φ2' b ∨ φ2 b) hb (fun x hx hy => hd x (h2 x hx) hy) (fun x hx => .inl hx) (fun x hx => .inr hx)) ?_ (fun x hx => s1 x (h1 x hx)) ?_
    · rintro x hx (hy | hy)
      · exact hd0 x hx hy
      · exact hd x (h1 x hx) hy
    · rintro x (hx | hx)
      · exact s1 x (h2 x hx)
      · exact s2 x hx
  | @bx S φ0 φ1 φ2' e cs g ts us vs hg ψ hbb hψ hr h hd0 h1 h2 _ ih =>
    intro φ2 φ hb hd s1 s2
    refine .bx (φ1 := φ1) (φ2 := fun b => φ2' b ∨ φ2 b) vs hg ψ hbb hψ hr (ih (φ := fun b => φ2' b ∨ φ2 b) hb (fun x hx hy => hd x (h2 x hx) hy) (fun x hx => .inl hx) (fun x hx => .inr hx)) ?_ (fun x hx => s1 x (h1 x hx)) ?_
    · rintro x hx (hy | hy)
      · exact hd0 x hx hy
      · exact hd x (h1 x hx) hy
    · rintro x (hx | hx)
      · exact s1 x (h2 x hx)
      · exact s2 x hx

mutual
/-- As it is seen by whoever only reads. -/
def T.fz : T → T
  | .ow _ rows => .im false (fzR rows)
  | .im _ r => .im false r
  | .bx _ cs => .ip (fzL cs)
  | .s v => .s v
  | .jk => .jk
  | .er => .er
  | .ip cs => .ip cs
  | .fn f cs => .fn f cs
def fzL : List T → List T
  | [] => []
  | t :: ts => t.fz :: fzL ts
def fzR : List (List T) → List (List T)
  | [] => []
  | r :: rs => fzL r :: fzR rs
end

theorem fzL_map : ∀ l : List T, fzL l = l.map T.fz
  | [] => by simp [fzL]
  | t :: ts => by simp [fzL, fzL_map ts]
theorem fzR_map : ∀ l : List (List T), fzR l = l.map fzL
  | [] => by simp [fzR]
  | t :: ts => by simp [fzR, fzR_map ts]
theorem fzL_len (l : List T) : (fzL l).length = l.length := by rw [fzL_map, List.length_map]
theorem fzR_len (l : List (List T)) : (fzR l).length = l.length := by rw [fzR_map, List.length_map]
theorem fzL_append (a b : List T) : fzL (a ++ b) = fzL a ++ fzL b := by simp [fzL_map]
theorem fzR_flatten (l : List (List T)) : (fzR l).flatten = fzL l.flatten := by
  induction l with
  | nil => rfl
  | cons r rs ih => simp [fzR, fzL_append, ih]

/-- What one owns one may lend. -/
theorem CR.lend (h : CR P w K S ts us φ) : ∀ {S'}, Sub K S' → Sub S S' → Sub φ S' → CR P w K S' (fzL ts) us no := by
  induction h with
  | nil => intro S' _ _ _; exact .nil
  | s h1 _ ih => intro S' a b c; exact .s h1 (ih a b c)
  | jk h1 _ ih => intro S' a b c; exact .jk h1 (ih a b c)
  | er _ ih => intro S' a b c; exact .er (ih a b c)
  | im0 hn hc sz hss vs hA hr _ ihr ih =>
    intro S' a b c
    exact .im0 hn hc sz hss vs (fun hp => let ⟨x, o, e, hb, hx⟩ := hA hp; ⟨x, o, e, b x hb, hx⟩) (hr.more b) (ih a b c)
  | im1 hn hc sz hss vs hA hr _ ihr ih =>
    intro S' a b c
    exact .im0 hn hc sz hss vs (fun hp => let ⟨x, o, e, hb, hx⟩ := hA hp; ⟨x, o, e, a x hb, hx⟩) (hr.more a) (ih a b c)
  | ip vs hS hA hr _ _ ih => intro S' a b c; exact .ip vs (fun hp => b _ (hS hp)) hA (hr.more b) (ih a b c)
  | fn vs hr _ _ ih => intro S' a b c; exact .fn vs (hr.more b) (ih a b c)
  | @ow S φ φ1 φ2 e rows v ts us hs vs ho ψ hbb hψ hr h hd0 h1 h2 ihr ih =>
    intro S' a b c
    have hr' := ihr (S' := S') a a (fun x hx => c x (h1 x (hψ x hx)))
    have ht := ih a b (fun x hx => c x (h2 x hx))
    rw [← fzR_flatten] at hr'
    have hss : ∀ r ∈ fzR rows, r.length = P.cellsOf e := by
      intro r hr0
      rw [fzR_map] at hr0
      obtain ⟨q, hq, rfl⟩ := List.mem_map.1 hr0
      rw [fzL_len]; exact hs q hq
    obtain ⟨hl, ho⟩ := ho
    rcases ho with ⟨rfl, h0⟩ | ⟨g, cap, cur, rfl, _, hg, hnc, hcm, hcs, htk⟩
    · have : rows = [] := List.eq_nil_of_length_eq_zero h0
      subst this
      exact .im0 (by simp [fzR]) (Nat.le_refl _) _ hss vs (fun hp => absurd hp (by omega)) hr' ht
    · refine .im0 (by rw [fzR_len]) hnc _ hss vs (fun _ => ⟨g, 0, rfl, c g (h1 g (hbb g (by simp [Value.ownBlock])).1), fun j u hu => ?_⟩) hr' ht
      rw [Nat.zero_add, cell_of_row w g j cur e (0, 0) hg]
      rw [← htk, List.getElem?_take] at hu
      split at hu
      · simpa using hu
      · cases hu
  | @bx S φ φ1 φ2 e cs g ts us vs hg ψ hbb hψ hr h hd0 h1 h2 ihr ih =>
    intro S' a b c
    have hr' := ihr (S' := S') a a (fun x hx => c x (h1 x (hψ x hx)))
    refine .ip vs (fun _ => c g (h1 g hbb.1)) (fun j u hu => ?_) hr' (ih a b (fun x hx => c x (h2 x hx)))
    rw [Nat.zero_add, cell_of_row w g j vs.toArray e (0, 0) hg]
    simpa using hu

end Go.Proofs.Ytgicjbeaomjdgaa.L
