/- strconv.Itoa's contract, out of the shelf's. -/
import Derived.Test.YtcpekllcbimpmaaGreatDoorFnTextLib7
import Derived.Lib.LaidTab
import Derived.Shelf.Strconv.Itoa3
namespace Go.Proofs.YtcpekllcbimpmaaGreatDoor.L
set_option linter.unusedVariables false
set_option linter.unusedSimpArgs false
open Go
variable {P : Program}
def itoaO (n : Int) : Option ByteArray := if -9223372036854775808 ≤ n ∧ n ≤ 9223372036854775807 then some ⟨(Lib.itoa n).toArray⟩ else none
theorem qKP : ∀ (k : Nat) (w : World), (w.drewN k).heap = w.heap ∧ (w.drewN k).os = w.os ∧ (w.drewN k).tape = w.tape ∧ (w.drewN k).output = w.output := by
 intro k
 intro w
 exact ⟨rfl, rfl, rfl, rfl⟩
theorem AC.of_itoa {f : FuncId} (hx : ∃ fn, P.funcs[f]? = some fn ∧ (fn.name == "runtime.NumGoroutine") = false ∧ fn.body.isNone = false) {g : Nat} (hg : P.globalNamed "internal/strconv.uint64pow10" = some g)
  (hc : ∀ (n : Int), -9223372036854775808 ≤ n → n ≤ 9223372036854775807 → ∀ w, Lib.TabIs P w "internal/strconv.uint64pow10" .u64 Lib.pow10Tab → Calls P f #[.int .i64 n] w fun e w' => e = .returned (.string ⟨(Lib.itoa n).toArray⟩) ∧ ∃ k os, w' = Sort.grow (w.drewN k) os)
  {a0 : Int} {r : ByteArray} (h : itoaO a0 = some r) : AC P f [.v (.s (.int .i64 a0))] [.v .jk] [.v (.s (.string r))] := by
 unfold itoaO at h
 split at h
 ·
  rename_i hb
  cases h
  refine AC.of0 hx fun w K S φ vs us hKS hS hφ htb has hcr => ?_
  cases has with
  | v has =>
  cases has
  simp only [acells, A.cells, List.singleton_append, List.append_nil] at hcr
  cases hcr with
  | s h1 h =>
  cases h
  obtain ⟨_, _, cs, hv, rfl⟩ := htb.1 g hg
  refine (hc a0 hb.1 hb.2 w hv).mono ?_
  rintro e w' ⟨rfl, k, os, rfl⟩
  obtain ⟨d1, d2, d3, d4⟩ := qKP k w
  refine ⟨[.string ⟨(Lib.itoa a0).toArray⟩], [.string ⟨(Lib.itoa a0).toArray⟩], no, rfl, .v .nil, ?_, fun b hb => hb.elim, ?_⟩
  ·
   simp only [acells, A.cells, List.singleton_append, List.append_nil, List.cons_append, List.nil_append]
   exact .jk rfl (.s rfl .nil)
  ·
   refine ⟨d2, d3, d4, ?_, fun b hb _ => ?_⟩
   ·
    show w.heap.size ≤ ((w.drewN k).heap ++ os).size
    rw [d1, Array.size_append]; omega
   show ((w.drewN k).heap ++ os)[b]? = _
   rw [d1, Array.getElem?_append_left hb]
 · cases h
end Go.Proofs.YtcpekllcbimpmaaGreatDoor.L