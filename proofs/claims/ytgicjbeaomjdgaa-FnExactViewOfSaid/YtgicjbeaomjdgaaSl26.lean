/- The row of a law: out of the contract of the law's function. -/
import Derived.Test.YtgicjbeaomjdgaaSl25
import Derived.ProofKit
import Derived.Carry
namespace Go.Proofs.Ytgicjbeaomjdgaa.L
set_option linter.unusedVariables false
set_option linter.unusedSimpArgs false
open Go Go.ChangeShapes Go.RowKit

variable {H : Type} {enc : TypeId × Value → H} {P : Program}

def parSh (P : Program) (d : Nat) : List Nat → Option (List (Bool × List Sh))
  | [] => some []
  | t :: r => match shOf P d t, P.underlying t, parSh P d r with
    | some ss, some (.struct _), some l => some ((true, ss) :: l)
    | some ss, some _, some l => some ((false, ss) :: l)
    | _, _, _ => none

inductive AWf : List (Bool × List Sh) → List A → Prop
  | nil : AWf [] []
  | ag {ss ts r as} (h : Wf ss ts) (h' : AWf r as) : AWf ((true, ss) :: r) (.ag ts :: as)
  | v {ss t r as} (h : Wf ss [t]) (h' : AWf r as) : AWf ((false, ss) :: r) (.v t :: as)

theorem plain_cells {w : World} {base : Nat} {d t : Nat} {ss : List Sh} {ty : TypeDesc} {v : Value} (hs : shOf P d t = some ss) (hu : P.underlying t = some ty) (hne : ∀ fs, ty ≠ .struct fs) (hv : Value.okWide P w .any base t v) : v.cells.toList = [v] := by
  cases d with
  | zero => simp [shOf] at hs
  | succ d =>
    simp only [shOf, hu] at hs
    unfold Value.okWide at hv
    rw [hu] at hv
    cases v <;> first | rfl | skip
    rename_i cs
    exfalso
    cases ty <;> first | exact hne _ rfl | (simp only [reduceCtorEq] at hs; done) | skip
    all_goals first
      | (simp [Cell.okWide, Cell.ok, hu] at hv; done)
      | simp at hs

theorem args_open {W : World} {base d : Nat} : ∀ {params : List Nat} {shs : List (Bool × List Sh)} {vs : List Value} {ds : List (DataW H)} {ps : List MemPlace}, parSh P d params = some shs → DataW.TrodAll enc P W 0 (fun _ => true) true params vs ds ps → (∀ (j : Nat) t v, params[j]? = some t → vs[j]? = some v → Value.okWide P W .any base t v) →
    ∃ as us, AWf shs as ∧ AS as vs us ∧ CR P W (old W) (old W) (acells as) us no
  | [], shs, vs, ds, ps, hp, ht, hv => by
    simp only [parSh, Option.some.injEq] at hp
    subst hp
    match vs, ds, ht with
    | [], [], _ => exact ⟨[], [], .nil, .nil, .nil⟩
  | t :: r, shs, vs, ds, ps, hp, ht, hv => by
    match vs, ds, ht with
    | v :: vs, x :: ds, ht =>
      obtain ⟨p, q, ⟨fuel, h1⟩, h2, rfl⟩ := ht
      have hv0 := hv 0 t v rfl rfl
      simp only [parSh] at hp
      split at hp
      · rename_i ss fs l hs hu hr
        simp only [Option.some.injEq] at hp
        subst hp
        obtain ⟨as, us, a1, a2, a3⟩ := args_open hr h2 (fun j t v h h' => hv (j + 1) t v (by simpa using h) (by simpa using h'))
        obtain ⟨ts, b1, b2⟩ := trod_CR d t hs h1
        unfold Value.okWide at hv0
        rw [hu] at hv0
        obtain ⟨cs, rfl, _⟩ := hv0
        have e : (Value.agg cs).cells.toList = cs.toList := rfl
        rw [e] at b2
        have ec : Value.agg cs = .agg cs.toList.toArray := by simp
        rw [ec]
        refine ⟨.ag ts :: as, cs.toList ++ us, .ag b1 a1, .ag b2.len a2, ?_⟩
        exact b2.join a3 (fun _ h => h.elim) (fun _ h => h) (fun _ h => h)
      · rename_i ss ty l hne hs hu hr
        simp only [Option.some.injEq] at hp
        subst hp
        obtain ⟨as, us, a1, a2, a3⟩ := args_open hr h2 (fun j t v h h' => hv (j + 1) t v (by simpa using h) (by simpa using h'))
        obtain ⟨ts, b1, b2⟩ := trod_CR d t hs h1
        rw [plain_cells hs hu (fun fs e => hne fs e) hv0] at b2
        have hl := b2.len
        match ts, hl with
        | [x], _ =>
          refine ⟨.v x :: as, v :: us, .v b1 a1, .v a2, ?_⟩
          exact b2.join (a := [x]) (u1 := [v]) a3 (fun _ h => h.elim) (fun _ h => h) (fun _ h => h)
      · simp at hp

theorem trodAll_stays (hl : laidOutB P = true) {W W' : World} (hb : Below W.heap.size W W') : ∀ {params : List Nat} {vs : List Value} {ds : List (DataW H)} {ps : List MemPlace}, (∀ t ∈ params, P.readableRec t = true ∧ t < P.types.size) → (∀ x ∈ ps, x.block < W.heap.size) →
    DataW.TrodAll enc P W 0 (fun _ => true) true params vs ds ps → DataW.TrodAll enc P W' 0 (fun b => decide (b < W.heap.size)) true params vs ds ps
  | [], vs, ds, ps, _, _, h => by
    match vs, ds, h with
    | [], [], h => exact h
  | t :: r, vs, ds, ps, hr, hlt, h => by
    match vs, ds, h with
    | v :: vs, x :: ds, h =>
      obtain ⟨p, q, h1, h2, rfl⟩ := h
      exact ⟨p, q, Below.trod hl (hr t (by simp)).1 (hr t (by simp)).2 h1 hb (fun x hx => hlt x (List.mem_append.2 (.inl hx))), trodAll_stays hl hb (fun t ht => hr t (List.mem_cons_of_mem _ ht)) (fun x hx => hlt x (List.mem_append.2 (.inr hx))) h2, rfl⟩

theorem TrodAll_len {W : World} {base : Nat} {sp : Nat → Bool} {held : Bool} : ∀ {params : List Nat} {vs : List Value} {ds : List (DataW H)} {ps : List MemPlace}, DataW.TrodAll enc P W base sp held params vs ds ps → ds.length = params.length
  | [], vs, ds, ps, h => by
    match vs, ds, h with
    | [], [], _ => rfl
  | t :: r, vs, ds, ps, h => by
    match vs, ds, h with
    | v :: vs, x :: ds, h =>
      obtain ⟨_, _, _, h2, _⟩ := h
      simp [TrodAll_len h2]

/-- THE LAW'S CALLS. -/
theorem law_calls {f : FuncId} {fn : Func} {s : ChangeSpec} {d tb : Nat} {shs : List (Bool × List Sh)} (hl : laidOutB P = true) (hpar : parSh P d fn.params.toList = some shs) (hread : ∀ t ∈ fn.params.toList, P.readableRec t = true ∧ t < P.types.size) (hres : fn.resultTypes = #[tb]) (htb : P.underlying tb = some .bool)
    (hvars : s.vars = []) (hspec : ∀ ds : List (DataW H), ds.length = fn.params.toList.length → s.fn H ds = { results := [.lit (.bool true)], args := ds })
    (hAC : ∀ as, AWf shs as → ∃ outs, AC P f as outs [.v (.s (.bool true))]) {W : World} {base : Nat} {args : Array Value} {ds gs : List (DataW H)} {before : List MemPlace}
    (hval : ∀ (j : Nat) t v, fn.params[j]? = some t → args[j]? = some v → Value.okWide P W .any base t v) (hW : DataW.Whole enc P fn.params.toList s.vars false W args.toList ds gs before) :
    Calls P f args W fun e W' => ∃ v, e = .returned v ∧ s.post enc P fn false true false false W args v W' := by
  have hW' := hW
  obtain ⟨p, q, hA, hV, rfl, hfz, hnd⟩ := hW
  rw [hvars] at hV
  obtain ⟨as, us, a1, a2, a3⟩ := args_open hpar hA (fun j t v h h' => hval j t v (by simpa using h) (by simpa using h'))
  obtain ⟨outs, hac⟩ := hAC as a1
  have hcall := hac.2 W (old W) (old W) no _ us (fun _ h => h) (fun _ h => h) (fun _ h => h.elim) a2 a3
  rw [show args.toList.toArray = args by simp] at hcall
  refine Calls.mono hcall fun e W' he => ?_
  obtain ⟨rs, us', φ', K', rfl, h1, h2, _, hk, _⟩ := he
  have hrs : rs = [.bool true] := by
    cases h1 with
    | v h1 =>
      cases h1
      obtain ⟨u1, u2, φ1, φ2, hu, _, c2, _⟩ := CR.split h2
      simp only [acells, A.cells, List.append_nil] at c2
      cases c2 with
      | s _ c3 =>
        cases c3
        have := List.append_inj_right' hu rfl
        simp only [List.cons.injEq, and_true] at this
        rw [this]
  subst hrs
  have hbel : Below W.heap.size W W' := ⟨hk.os, hk.tape, hk.output, hk.size, fun k hk' => hk.block k hk' (fun h => h.elim)⟩
  have hgs : gs = [] ∧ q = [] := by
    match gs, hV with
    | [], hV => exact ⟨rfl, hV⟩
  obtain ⟨rfl, rfl⟩ := hgs
  have hsp := hspec ds (TrodAll_len hA)
  refine ⟨.bool true, rfl, ds, [], p ++ [], [], p, [], hW', ?_, ?_, ?_, hbel.frame _, fun h => by simp at h⟩
  · rw [hres, List.append_nil, hsp]
    exact ⟨[], [], ⟨1, by simp [DataW.trod, htb, Value.cells]⟩, rfl, rfl⟩
  · rw [List.append_nil, hsp]
    exact trodAll_stays hl hbel hread (fun x hx => hW'.lt x (by simpa using hx)) hA
  · rw [List.append_nil, hsp, hvars]
    rfl

end Go.Proofs.Ytgicjbeaomjdgaa.L
