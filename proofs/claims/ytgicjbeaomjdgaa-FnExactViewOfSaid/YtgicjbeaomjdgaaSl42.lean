/- Rows whose first elements are gone. -/
import Derived.Test.YtgicjbeaomjdgaaSl41
namespace Go.Proofs.Ytgicjbeaomjdgaa.L
set_option linter.unusedVariables false
set_option linter.unusedSimpArgs false
open Go
variable {P : Program} {α : Type} {f : α → List T} {l : List α} {i z : Int} {x : α}

/-- The first z elements are nobody's. -/
def jpR (z : Int) (rows : Rws) : Rws := ((rows.take z.toNat).map fun r => r.map fun _ => T.jk) ++ rows.drop z.toNat
def ltO (z : Int) : Option Unit := if z < 9223372036854775807 then some () else none
theorem ltO_t {u : Unit} (h : ltO z = some u) : z < 9223372036854775807 := by unfold ltO at h; split at h; assumption; cases h

theorem jp_0 (rows : Rws) : jpR 0 rows = rows := by simp [jpR]
theorem jp_len (z : Int) (rows : Rws) : (jpR z rows).length = rows.length := by simp [jpR]; omega
theorem jp_ln (z : Int) (l : List α) : Ls.ln (jpR z (rowsOf f l)) = lenI l := ln_eq' (by rw [jp_len, rowsOf_len])
theorem jp_lt (h : getO l i = some x) : Ls.lt i (Ls.ln (jpR z (rowsOf f l))) := by
  rw [jp_ln, ← ln_eq f l]; exact get_lt h
theorem jp_get (h : getO l z = some x) : (jpR z (rowsOf f l))[z.toNat]? = some (f x) := by
  have h1 := rowsOf_at (f := f) (get_pos h).2
  have h2 := get_lt' f h
  have h3 := get_le' h
  have hl : (((rowsOf f l).take z.toNat).map fun r => r.map fun _ => T.jk).length = z.toNat := by rw [List.length_map, List.length_take]; omega
  unfold jpR
  rw [List.getElem?_append_right (by omega), hl, Nat.sub_self, List.getElem?_drop, Nat.add_zero]
  have h4 : (rowsOf f l)[z.toNat]? = some ((rowsOf f l).getD z.toNat []) := by
    rw [List.getD_eq_getElem?_getD, List.getElem?_eq_getElem (by omega)]; rfl
  rw [h4, h1]
theorem jp_ge (h : getO l z = some x) : Ls.ge (jpR z (rowsOf f l)) z = f x := by
  show (jpR z (rowsOf f l)).getD z.toNat [] = f x
  rw [List.getD_eq_getElem?_getD, jp_get h]; rfl
theorem jp_lt' (f : α → List T) (h : getO l z = some x) : z < ((jpR z (rowsOf f l)).length : Int) := jp_lt (f := f) h
theorem jpu_lt {j : Nat} {c : T} (f : α → List T) (h : getO l z = some x) : Ls.lt z (Ls.ln (Ls.up (jpR z (rowsOf f l)) z j [c])) := by
  show z < ((Ls.up (jpR z (rowsOf f l)) z j [c]).length : Int)
  rw [up_len']; exact jp_lt' f h
theorem jpu_ge {j : Nat} {c : T} (f : α → List T) (h : getO l z = some x) : Ls.ge (Ls.up (jpR z (rowsOf f l)) z j [c]) z = (f x).take j ++ [c] ++ (f x).drop (j + 1) := by
  have h2 := jp_lt' f h
  have h3 := get_le' h
  have e : (jpR z (rowsOf f l)).getD z.toNat [] = f x := jp_ge h
  show (List.set _ _ _).getD _ _ = _
  rw [e, List.getD_eq_getElem?_getD, List.getElem?_set_self (by omega)]
  rfl
theorem LLe.jks : ∀ (xs : List T), LLe P xs (xs.map fun _ => T.jk)
  | [] => .nil
  | _ :: xs => LLe.cons .jk (LLe.jks xs)
/-- The next element is taken out. -/
theorem jp_step {u : Unit} {j : Nat} (h : getO l z = some x) (hb : ltO z = some u) (hj : j < (f x).length) : RLe P (Ls.up (jpR z (rowsOf f l)) z j [.jk]) (jpR (Ls.ar .add .i64 z 1) (rowsOf f l)) := by
  have h2 := get_lt' f h
  have h3 := get_le' h
  have h4 := ltO_t hb
  have e : (jpR z (rowsOf f l)).getD z.toNat [] = f x := jp_ge h
  have hg := jp_get (f := f) h
  have hw : Ls.ar .add .i64 z 1 = z + 1 := by show IntKind.i64.wrap (z + 1) = _; rw [IntKind.wrap_i64]; omega
  have h1 := rowsOf_at (f := f) (get_pos h).2
  rw [hw]
  obtain ⟨k, rfl⟩ : ∃ k : Nat, z = k := ⟨z.toNat, by omega⟩
  have hk : k < (rowsOf f l).length := by omega
  have hx : (rowsOf f l)[k]? = some (f x) := by
    rw [List.getD_eq_getElem?_getD, Int.toNat_natCast, List.getElem?_eq_getElem hk, Option.getD_some] at h1
    rw [List.getElem?_eq_getElem hk, h1]
  have hlt : (((rowsOf f l).take k).map fun r => r.map fun _ => T.jk).length = k := by rw [List.length_map, List.length_take]; omega
  show RLe P ((jpR k (rowsOf f l)).set k (((jpR k (rowsOf f l)).getD k []).take j ++ [.jk] ++ ((jpR k (rowsOf f l)).getD k []).drop (j + 1))) (jpR ((k + 1 : Nat) : Int) (rowsOf f l))
  rw [Int.toNat_natCast] at e
  rw [e]
  unfold jpR
  rw [Int.toNat_natCast, Int.toNat_natCast, List.set_append_right _ _ (by omega), hlt, Nat.sub_self, List.drop_eq_getElem_cons hk, List.set_cons_zero, List.take_add_one, hx]
  simp only [Option.toList_some, List.map_append, List.map_cons, List.map_nil, List.append_assoc]
  refine RLe.app RLe.r (RLe.cons ?_ ?_ RLe.r)
  · simp only [List.length_append, List.length_take, List.length_cons, List.length_nil, List.length_drop, List.length_map]; omega
  · have := LLe.jks (P := P) ((f x).take j ++ [.jk] ++ (f x).drop (j + 1))
    have e2 : ((f x).take j ++ [T.jk] ++ (f x).drop (j + 1)).map (fun _ => T.jk) = (f x).map fun _ => T.jk := by
      rw [List.map_const', List.map_const']
      exact congrArg (fun n => List.replicate n T.jk) (by simp only [List.length_append, List.length_take, List.length_cons, List.length_nil, List.length_drop]; omega)
    rw [e2] at this
    simpa using this
theorem cut_srr {lo : Int} {r : List α} (f : α → List T) (h : cutO l lo (lenI l) = some r) : Ls.sr (rowsOf f l) lo (Ls.ln (rowsOf f l)) = rowsOf f r := by rw [ln_eq]; exact cut_sr f h
theorem fr_lit {raw rows : Rws} (h : Ls.fr raw = raw) (le : RLe P raw rows) : LLe P [.im false (Ls.fr raw)] [.im false rows] := by rw [h]; exact LLe.im le
def ci3 (c : Bool) (x y : Int) : Int := if c then x else y
end Go.Proofs.Ytgicjbeaomjdgaa.L
