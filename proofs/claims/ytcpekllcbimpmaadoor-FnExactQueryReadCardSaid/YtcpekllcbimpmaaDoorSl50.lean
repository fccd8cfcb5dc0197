/- The contracts of strconv.Atoi and of strings.Split at a separator of one byte, out of the shelf's. -/
import Derived.Test.YtcpekllcbimpmaaDoorSl49
import Derived.Lib.AtoiAllCases
import Derived.Lib.AtoiErrMem
import Derived.Lib.SplitLaws
import Derived.Shelf.Strconv.AtoiAll
import Derived.Shelf.Strings.SplitCore
import Derived.Shelf.Strings.Search3
import Derived.Shelf.Strings.Count
namespace Go.Proofs.YtcpekllcbimpmaaDoor.L
set_option linter.unusedVariables false
set_option linter.unusedSimpArgs false
open Go Go.RowKit
variable {P : Program}

/-- The number, and whether there is one. -/
def atoiO (s : ByteArray) : Option (Int × Bool) :=
  if s.size ≤ 281474976710656 then
    match Lib.atoiAll s.data.toList with
    | .ok v => some (v, true)
    | .range => some (Lib.atoiSat s.data.toList, false)
    | _ => some (0, false)
  else none
/-- Neither a number nor too great a one. -/
def isSyn (r : Lib.NumEnd Int) : Prop := r ≠ .range ∧ ∀ v, r ≠ .ok v
theorem AC.of_atoi1 {f : FuncId} {ty : TypeId} (hx : ∃ fn, P.funcs[f]? = some fn ∧ (fn.name == "runtime.NumGoroutine") = false ∧ fn.body.isNone = false)
    (hc : ∀ (s : ByteArray), s.size ≤ 9223372036854775806 → ∀ v : Int, Lib.atoiAll s.data.toList = .ok v → ∀ w, Calls P f #[.string s] w fun e w' => e = .returned (.tuple #[.int .i64 v, .nilIface]) ∧ (w' = w ∨ ∃ t, w' = Lib.bytesWorld w ty t))
    {a0 : ByteArray} {v : Int} {b : Bool} (h : atoiO a0 = some (v, b)) (hk : b = true) : AC P f [.v (.s (.string a0))] [.v .jk] [.v (.s (.int .i64 v)), .v (.s .nilIface)] := by
  subst hk
  unfold atoiO at h
  split at h
  · rename_i hb
    split at h
    · rename_i v' hv
      simp only [Option.some.injEq, Prod.mk.injEq, and_true] at h
      subst h
      refine AC.of0 hx fun w K S φ vs us hKS hS hφ htb has hcr => ?_
      cases has with
      | v has =>
      cases has
      simp only [acells, A.cells, List.singleton_append, List.append_nil] at hcr
      cases hcr with
      | s h1 h =>
      cases h
      refine (hc a0 (by omega) v' hv w).mono ?_
      rintro e w' ⟨rfl, hw⟩
      have hbl : Below w.heap.size w w' := by
        rcases hw with rfl | ⟨t, rfl⟩
        · exact Below.refl _ _
        · exact Lib.bytesWorld_below _ _ _
      refine ⟨[.int .i64 v', .nilIface], [.int .i64 v', .nilIface], no, rfl, .v (.v .nil), ?_, fun b hb => hb.elim, kept_below hbl⟩
      simp only [acells, A.cells, List.append_nil, List.cons_append, List.nil_append]
      exact .jk rfl (.s rfl (.s rfl .nil))
    · simp at h
    · simp at h
  · cases h
theorem tb_err {w : World} {φ : Nat → Prop} {n : String} (ht : TbN P w φ n isErr) {g : Nat} (hg : P.globalNamed n = some g) : ∃ ev, w.cell? ⟨g, 0, none⟩ = some ev ∧ (ev = .nilIface ∨ ∃ te pe, ev = .iface te pe) := by
  obtain ⟨_, _, cs, hv, tp, p, rfl⟩ := ht g hg
  refine ⟨.iface tp (.pointer (some p)), ?_, .inr ⟨tp, _, rfl⟩⟩
  unfold World.var? at hv
  rw [hg, Option.bind_some] at hv
  cases hh : w.heap[g]? with
  | none => rw [hh] at hv; cases hv
  | some o =>
    rw [hh] at hv
    cases o with
    | cells cs t z =>
      simp only [Option.some.injEq] at hv
      subst hv
      simp [World.cell?, hh]
    | _ => cases hv
theorem AC.of_atoi0 {f : FuncId} {ty : TypeId} {g15 g16 : Nat} (hx : ∃ fn, P.funcs[f]? = some fn ∧ (fn.name == "runtime.NumGoroutine") = false ∧ fn.body.isNone = false) (hg15 : P.globalNamed "strconv.ErrSyntax" = some g15) (hg16 : P.globalNamed "strconv.ErrRange" = some g16)
    (hc : ∀ (s : ByteArray), s.size ≤ 281474976710656 → isSyn (Lib.atoiAll s.data.toList) → ∀ ev w, w.cell? ⟨g15, 0, none⟩ = some ev → (ev = .nilIface ∨ ∃ te pe, ev = .iface te pe) → Calls P f #[.string s] w fun e w' => ∃ N, e = .returned (.tuple #[.int .i64 0, .iface ty (.pointer (some ⟨N, 0, none⟩))]) ∧ Below w.heap.size w w')
    (hd : ∀ (s : ByteArray), s.size ≤ 281474976710656 → Lib.atoiAll s.data.toList = .range → ∀ ev w, w.cell? ⟨g16, 0, none⟩ = some ev → (ev = .nilIface ∨ ∃ te pe, ev = .iface te pe) → Calls P f #[.string s] w fun e w' => ∃ N, e = .returned (.tuple #[.int .i64 (Lib.atoiSat s.data.toList), .iface ty (.pointer (some ⟨N, 0, none⟩))]) ∧ Below w.heap.size w w')
    {a0 : ByteArray} {v : Int} {b : Bool} (h : atoiO a0 = some (v, b)) (hk : b = false) : AC P f [.v (.s (.string a0))] [.v .jk] [.v (.s (.int .i64 v)), .v .er] := by
  subst hk
  unfold atoiO at h
  split at h
  · rename_i hb
    refine AC.of0 hx fun w K S φ vs us hKS hS hφ htb has hcr => ?_
    cases has with
    | v has =>
    cases has
    simp only [acells, A.cells, List.singleton_append, List.append_nil] at hcr
    cases hcr with
    | s h1 h' =>
    cases h'
    obtain ⟨ev1, c1, d1⟩ := tb_err htb.2.1 hg15
    obtain ⟨ev2, c2, d2⟩ := tb_err htb.2.2 hg16
    have fin : ∀ (z : Int) e w', (∃ N, e = Ending.returned (.tuple #[.int .i64 z, .iface ty (.pointer (some ⟨N, 0, none⟩))]) ∧ Below w.heap.size w w') → z = v → ∃ rs us' φ', e = .returned (tup rs) ∧ AS [.v (.s (.int .i64 v)), .v .er] rs us' ∧ CR P w' K K (acells [.v .jk] ++ acells [.v (.s (.int .i64 v)), .v .er]) ([Value.string a0] ++ us') φ' ∧ (∀ b, φ' b → b < w'.heap.size ∧ (φ b ∨ w.heap.size ≤ b)) ∧ Kept w w' φ := by
      rintro z e w' ⟨N, rfl, hw⟩ rfl
      refine ⟨[.int .i64 z, .iface ty (.pointer (some ⟨N, 0, none⟩))], [.int .i64 z, .iface ty (.pointer (some ⟨N, 0, none⟩))], no, rfl, .v (.v .nil), ?_, fun b hb => hb.elim, kept_below hw⟩
      simp only [acells, A.cells, List.append_nil, List.cons_append, List.nil_append]
      exact .jk rfl (.s rfl (.er .nil))
    split at h
    · simp at h
    · rename_i hv
      simp only [Option.some.injEq, Prod.mk.injEq, and_true] at h
      exact (hd a0 hb hv ev2 w c2 d2).mono fun e w' hh => fin _ e w' hh h
    · rename_i hv1 hv2
      simp only [Option.some.injEq, Prod.mk.injEq, and_true] at h
      exact (hc a0 hb ⟨hv2, hv1⟩ ev1 w c1 d1).mono fun e w' hh => fin 0 e w' hh h
  · cases h

/-! ### strings.Split at one byte -/
def splitO (s sep : ByteArray) : Option (List ByteArray) :=
  if sep.size = 1 ∧ s.size < 4294967281 then some (Lib.splitB sep 0 (Lib.countB s sep) s) else none
open Go.Shelf in
set_option maxHeartbeats 1000000 in
theorem split_one {ρ : Ren} (L : Lays.n146 P ρ) (hi9 : (P.info? (ρ.t 9)).map (fun i => (i.zero, i.size, i.bytes)) = some (some (.string ByteArray.empty), 1, 16)) (s : ByteArray) (c : UInt8) (w : World) (hs : s.size < 4294967281) :
    Calls P (ρ.f 146) #[.string s, .string ⟨#[c]⟩] w fun e w' =>
      e = .returned (.slice (some ⟨w.heap.size, 0, none⟩) (Lib.countB s ⟨#[c]⟩ + 1) (Lib.countB s ⟨#[c]⟩ + 1)) ∧ w' = w.alloc (.cells ((Lib.splitB ⟨#[c]⟩ 0 (Lib.countB s ⟨#[c]⟩) s).map Value.string).toArray (ρ.t 9)) := by
  have h1 : 1 ≤ (⟨#[c]⟩ : ByteArray).size := Nat.le_refl _
  have hle := Lib.countB_le ⟨#[c]⟩ h1 s.size s (Nat.le_refl _)
  have hlen := Lib.splitB_all ⟨#[c]⟩ h1 0 _ s rfl
  have hI : ∀ (x : ByteArray) (cs : Array Value), x.size ≤ s.size → Calls P (ρ.f 143) #[.string x, .string ⟨#[c]⟩] (w.alloc (.cells cs (ρ.t 9))) fun e w' => e = .returned (.int .i64 (Lib.indexB x ⟨#[c]⟩)) ∧ w' = w.alloc (.cells cs (ρ.t 9)) := fun x cs _ => by
    have := Any.strings_Index_one { L with } x c (w.alloc (.cells cs (ρ.t 9)))
    rw [← Lib.index_one] at this
    exact this
  have hC : Calls P (ρ.f 138) #[.string s, .string ⟨#[c]⟩] w fun e w' => e = .returned (.int .i64 (Lib.countB s ⟨#[c]⟩)) ∧ w' = w := by
    refine (Any.strings_Count_one { L with } s c w).mono fun e w' ⟨he, hw⟩ => ⟨?_, hw⟩
    rw [he]
    show _ = Ending.returned (Value.int .i64 ((Lib.count s.data.toList [c] : Nat) : Int))
    rw [Lib.count_one]
    rfl
  have k := Any.strings_genSplit_core { L with } hi9 s ⟨#[c]⟩ 0 (-1) (Lib.countB s ⟨#[c]⟩ + 1) w hs h1 (Nat.zero_le _) hI hC (by decide) (by decide) (by rw [if_pos (by decide)]; omega)
  rw [Nat.add_sub_cancel, hlen] at k
  have e2 : Lib.cellsOf (Lib.splitB ⟨#[c]⟩ 0 (Lib.countB s ⟨#[c]⟩) s) (Lib.countB s ⟨#[c]⟩ + 1) = ((Lib.splitB ⟨#[c]⟩ 0 (Lib.countB s ⟨#[c]⟩) s).map Value.string).toArray := by rw [← hlen]; exact Lib.cellsOf_full _
  rw [e2] at k
  have t3 := L.t3; have t9 := L.t9; have t31 := L.t31
  have a3 := L.a3; have a9 := L.a9; have a31 := L.a31
  have z3 := L.z3; have v3 := L.v3; have z9 := L.z9; have v9 := L.v9; have z31 := L.z31; have v31 := L.v31
  have e221 : ∀ args w, (callFunc (ρ.f 221) args).run P w = .ok (.enter (ρ.f 221) args) w := enters_of L.f221 (by kernel_rfl) rfl
  go_enter L.f146, Body.n146_ntmps ρ
  go_wp2_with (go_at_fn (ρ.f 221); refine k.mono ?_; rintro e w' ⟨rfl, hw⟩; rw [hw])
  go_ret
  exact ⟨rfl, rfl⟩
theorem CR.strs {w : World} {K S : Nat → Prop} : ∀ (l : List ByteArray) (ψ : Nat → Prop), CR P w K S (l.map fun x => T.s (.string x)) (l.map Value.string) ψ
  | [], _ => .nil
  | x :: l, ψ => .s rfl (CR.strs l ψ)
theorem AC.of_split {f : FuncId} {ty : Nat} {E : ByteArray → List T} (hE : ∀ x, E x = [.s (.string x)]) (hx : ∃ fn, P.funcs[f]? = some fn ∧ (fn.name == "runtime.NumGoroutine") = false ∧ fn.body.isNone = false) (hty : P.cellsOf ty = 1)
    (hc : ∀ (s : ByteArray) (c : UInt8) (w : World), s.size < 4294967281 → Calls P f #[.string s, .string ⟨#[c]⟩] w fun e w' => e = .returned (.slice (some ⟨w.heap.size, 0, none⟩) (Lib.countB s ⟨#[c]⟩ + 1) (Lib.countB s ⟨#[c]⟩ + 1)) ∧ w' = w.alloc (.cells ((Lib.splitB ⟨#[c]⟩ 0 (Lib.countB s ⟨#[c]⟩) s).map Value.string).toArray ty))
    {a0 a1 : ByteArray} {r : List ByteArray} (h : splitO a0 a1 = some r) : AC P f [.v (.s (.string a0)), .v (.s (.string a1))] [.v .jk, .v .jk] [.v (.ow ty (rowsOf E r))] := by
  unfold splitO at h
  split at h
  · rename_i hb
    cases h
    obtain ⟨c, rfl⟩ := Lib.one_byte a1 hb.1
    refine AC.of0 hx fun w K S φ vs us hKS hS hφ htb has hcr => ?_
    cases has with
    | v has =>
    cases has with
    | v has =>
    cases has
    simp only [acells, A.cells, List.singleton_append, List.append_nil] at hcr
    cases hcr with
    | s h1 h =>
    cases h with
    | s h2 h =>
    cases h
    have hlen := Lib.splitB_all ⟨#[c]⟩ (Nat.le_refl _) 0 _ a0 rfl
    have hcl := Lib.countB_le ⟨#[c]⟩ (Nat.le_refl _) a0.size a0 (Nat.le_refl _)
    refine (hc a0 c w hb.2).mono ?_
    rintro e w' ⟨rfl, rfl⟩
    obtain ⟨l, hl⟩ : ∃ l, l = Lib.splitB ⟨#[c]⟩ 0 (Lib.countB a0 ⟨#[c]⟩) a0 := ⟨_, rfl⟩
    rw [← hl] at hlen ⊢
    rw [← hlen]
    refine ⟨[.slice (some ⟨w.heap.size, 0, none⟩) l.length l.length], [.slice (some ⟨w.heap.size, 0, none⟩) l.length l.length], fun b => b = w.heap.size, rfl, .v .nil, ?_, ?_, ?_⟩
    · simp only [acells, A.cells, List.append_nil, List.cons_append, List.nil_append]
      refine .jk rfl (.jk rfl ?_)
      refine .ow (φ1 := fun b => b = w.heap.size) (φ2 := no) (ψ := no) (fun r hr => ?_) (l.map Value.string) ?_ (fun b hb => ?_) (fun _ h => h.elim) ?_ .nil (fun _ _ h => h) (fun _ h => h) (fun _ h => h.elim)
      · rw [hty]
        obtain ⟨x, _, rfl⟩ := List.mem_map.1 hr
        rw [hE]; rfl
      · rw [hty, rowsOf_len]
        refine ⟨by simp, .inr ⟨w.heap.size, l.length, (l.map Value.string).toArray, rfl, Nat.zero_le _, heap_alloc_new w _, Nat.le_refl _, ?_, by simp, ?_⟩⟩
        · unfold maxLen
          omega
        · show ((l.map Value.string).toArray.toList).take (l.length * 1) = _
          rw [Nat.mul_one]
          exact List.take_of_length_le (by simp)
      · simp only [Value.ownBlock, Option.some.injEq] at hb
        exact ⟨hb.symm, fun h => h⟩
      · rw [strs_flat hE]; exact CR.strs l _
    · rintro b rfl
      refine ⟨?_, .inr (Nat.le_refl _)⟩
      show w.heap.size < (w.heap.push _).size
      simp
    · exact ⟨rfl, rfl, rfl, by show w.heap.size ≤ (w.heap.push _).size; simp, fun b hb _ => by show (w.heap.push _)[b]? = _; rw [Array.getElem?_push_lt hb]; exact (Array.getElem?_eq_getElem hb).symm⟩
  · cases h
end Go.Proofs.YtcpekllcbimpmaaDoor.L
