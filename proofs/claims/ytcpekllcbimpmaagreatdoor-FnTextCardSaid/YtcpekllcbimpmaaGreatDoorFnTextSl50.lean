/- The contracts of strconv.Atoi and of strings.Split at a separator of one byte, out of the shelf's. -/
import Derived.Test.YtcpekllcbimpmaaGreatDoorFnTextSl49
import Derived.Lib.AtoiAllCases
import Derived.Lib.AtoiErrMem
import Derived.Lib.SplitLaws
import Derived.Shelf.Strconv.AtoiAll
import Derived.Shelf.Strings.SplitCore
import Derived.Shelf.Strings.Search3
import Derived.Shelf.Strings.Count
namespace Go.Proofs.YtcpekllcbimpmaaGreatDoor.L
set_option linter.unusedVariables false
set_option linter.unusedSimpArgs false
open Go Go.RowKit
variable {P : Program}
def atoiO (s : ByteArray) : Option (Int × Bool) :=
 if s.size ≤ 281474976710656 then
  match Lib.atoiAll s.data.toList with
  | .ok v => some (v, true)
  | .range => some (Lib.atoiSat s.data.toList, false)
  | _ => some (0, false)
 else none
def isSyn (r : Lib.NumEnd Int) : Prop := r ≠ .range ∧ ∀ v, r ≠ .ok v
theorem AC.of_atoi1 {f : FuncId} {ty : TypeId} (hx : ∃ fn, P.funcs[f]? = some fn ∧ (fn.name == "runtime.NumGoroutine") = false ∧ fn.body.isNone = false)
  (hc : ∀ (s : ByteArray), s.size ≤ 9223372036854775806 → ∀ v : Int, Lib.atoiAll s.data.toList = .ok v → ∀ w, Calls P f #[.string s] w fun e w' => e = .returned (.tuple #[.int .i64 v, .nilIface]) ∧ (w' = w ∨ ∃ t, w' = Lib.bytesWorld w ty t))
  {a0 : ByteArray} {v : Int} {b : Bool} (h : atoiO a0 = some (v, b)) (hk : b = true) : AC P f [.v (.s (.string a0))] [.v .jk] [.v (.s (.int .i64 v)), .v (.s .nilIface)] := by
 subst hk
 unfold atoiO at h
 split at h
 ·
  rename_i hb
  split at h
  ·
   rename_i v' hv
   simp only [Option.some.injEq, Prod.mk.injEq, and_true] at h
   subst h
   refine AC.of0 hx fun w K S φ vs us hKS hS hφ htb has hcr => ?_
   cases has with
   | v has =>
   cases has
   simp only [acells, A.cells, List.singleton_append, List.append_nil] at hcr
   cases hcr with
   | s h1 h =>
   cases h
   refine (hc a0 (by omega) v' hv w).mono ?_
   rintro e w' ⟨rfl, hw⟩
   have hbl : Below w.heap.size w w' := by
    rcases hw with rfl | ⟨t, rfl⟩
    · exact Below.refl _ _
    exact Lib.bytesWorld_below _ _ _
   refine ⟨[.int .i64 v', .nilIface], [.int .i64 v', .nilIface], no, rfl, .v (.v .nil), ?_, fun b hb => hb.elim, qwG hbl⟩
   simp only [acells, A.cells, List.append_nil, List.cons_append, List.nil_append]
   exact .jk rfl (.s rfl (.s rfl .nil))
  · simp at h
  · simp at h
 · cases h
theorem qAT {w : World} {φ : Nat → Prop} {n : String} (ht : TbN P w φ n isErr) {g : Nat} (hg : P.globalNamed n = some g) : ∃ ev, w.cell? ⟨g, 0, none⟩ = some ev ∧ (ev = .nilIface ∨ ∃ te pe, ev = .iface te pe) := by
 obtain ⟨_, _, cs, hv, tp, p, rfl⟩ := ht g hg
 refine ⟨.iface tp (.pointer (some p)), ?_, .inr ⟨tp, _, rfl⟩⟩
 unfold World.var? at hv
 rw [hg, Option.bind_some] at hv
 cases hh : w.heap[g]? with
 | none => rw [hh] at hv; cases hv
 | some o =>
  rw [hh] at hv
  cases o with
  | cells cs t z =>
   simp only [Option.some.injEq] at hv
   subst hv
   simp [World.cell?, hh]
  | _ => cases hv
theorem AC.of_atoi0 {f : FuncId} {ty : TypeId} {g15 g16 : Nat} (hx : ∃ fn, P.funcs[f]? = some fn ∧ (fn.name == "runtime.NumGoroutine") = false ∧ fn.body.isNone = false) (hg15 : P.globalNamed "strconv.ErrSyntax" = some g15) (hg16 : P.globalNamed "strconv.ErrRange" = some g16)
  (hc : ∀ (s : ByteArray), s.size ≤ 281474976710656 → isSyn (Lib.atoiAll s.data.toList) → ∀ ev w, w.cell? ⟨g15, 0, none⟩ = some ev → (ev = .nilIface ∨ ∃ te pe, ev = .iface te pe) → Calls P f #[.string s] w fun e w' => ∃ N, e = .returned (.tuple #[.int .i64 0, .iface ty (.pointer (some ⟨N, 0, none⟩))]) ∧ Below w.heap.size w w')
  (hd : ∀ (s : ByteArray), s.size ≤ 281474976710656 → Lib.atoiAll s.data.toList = .range → ∀ ev w, w.cell? ⟨g16, 0, none⟩ = some ev → (ev = .nilIface ∨ ∃ te pe, ev = .iface te pe) → Calls P f #[.string s] w fun e w' => ∃ N, e = .returned (.tuple #[.int .i64 (Lib.atoiSat s.data.toList), .iface ty (.pointer (some ⟨N, 0, none⟩))]) ∧ Below w.heap.size w w')
  {a0 : ByteArray} {v : Int} {b : Bool} (h : atoiO a0 = some (v, b)) (hk : b = false) : AC P f [.v (.s (.string a0))] [.v .jk] [.v (.s (.int .i64 v)), .v .er] := by
 subst hk
 unfold atoiO at h
 split at h
 ·
  rename_i hb
  refine AC.of0 hx fun w K S φ vs us hKS hS hφ htb has hcr => ?_
  cases has with
  | v has =>
  cases has
  simp only [acells, A.cells, List.singleton_append, List.append_nil] at hcr
  cases hcr with
  | s h1 h' =>
  cases h'
  obtain ⟨ev1, c1, d1⟩ := qAT htb.2.1 hg15
  obtain ⟨ev2, c2, d2⟩ := qAT htb.2.2 hg16
  have fin : ∀ (z : Int) e w', (∃ N, e = Ending.returned (.tuple #[.int .i64 z, .iface ty (.pointer (some ⟨N, 0, none⟩))]) ∧ Below w.heap.size w w') → z = v → ∃ rs us' φ', e = .returned (tup rs) ∧ AS [.v (.s (.int .i64 v)), .v .er] rs us' ∧ CR P w' K K (acells [.v .jk] ++ acells [.v (.s (.int .i64 v)), .v .er]) ([Value.string a0] ++ us') φ' ∧ (∀ b, φ' b → b < w'.heap.size ∧ (φ b ∨ w.heap.size ≤ b)) ∧ Kept w w' φ := by
   rintro z e w' ⟨N, rfl, hw⟩ rfl
   refine ⟨[.int .i64 z, .iface ty (.pointer (some ⟨N, 0, none⟩))], [.int .i64 z, .iface ty (.pointer (some ⟨N, 0, none⟩))], no, rfl, .v (.v .nil), ?_, fun b hb => hb.elim, qwG hw⟩
   simp only [acells, A.cells, List.append_nil, List.cons_append, List.nil_append]
   exact .jk rfl (.s rfl (.er .nil))
  split at h
  · simp at h
  ·
   rename_i hv
   simp only [Option.some.injEq, Prod.mk.injEq, and_true] at h
   exact (hd a0 hb hv ev2 w c2 d2).mono fun e w' hh => fin _ e w' hh h
  ·
   rename_i hv1 hv2
   simp only [Option.some.injEq, Prod.mk.injEq, and_true] at h
   exact (hc a0 hb ⟨hv2, hv1⟩ ev1 w c1 d1).mono fun e w' hh => fin 0 e w' hh h
 · cases h
def splitO (s sep : ByteArray) : Option (List ByteArray) :=
 if sep.size = 1 ∧ s.size < 4294967281 then some (Lib.splitB sep 0 (Lib.countB s sep) s) else none
end Go.Proofs.YtcpekllcbimpmaaGreatDoor.L