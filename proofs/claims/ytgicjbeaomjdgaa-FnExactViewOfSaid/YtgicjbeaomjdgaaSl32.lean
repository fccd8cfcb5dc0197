/- slices.Insert, slices.Delete: what they compute. -/
import Derived.Test.YtgicjbeaomjdgaaSl31
namespace Go.Proofs.Ytgicjbeaomjdgaa.L
set_option linter.unusedVariables false
set_option linter.unusedSimpArgs false
open Go
def insO {α : Type} (b : Nat) (l : List α) (i : Int) (m : List α) : Option (List α) := if m.length = 1 ∧ 0 ≤ i ∧ i ≤ l.length ∧ ((l.length : Int) + m.length) * b ≤ 140737488355328 ∧ (l.length : Int) + m.length ≤ 140737488355328 then some (l.take i.toNat ++ m ++ l.drop i.toNat) else none
def delO {α : Type} (l : List α) (i j : Int) : Option (List α) := if 0 ≤ i ∧ i ≤ j ∧ j ≤ l.length then some (l.take i.toNat ++ l.drop j.toNat) else none
end Go.Proofs.Ytgicjbeaomjdgaa.L
