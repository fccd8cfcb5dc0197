/- The table of types, out of a program. -/
import Derived.Test.YtgicjbeaomjdgaaSl17
import Derived.Laws.StructEq
namespace Go.Proofs.Ytgicjbeaomjdgaa.L
set_option linter.unusedVariables false
set_option linter.unusedSimpArgs false
open Go

def zeroOf (i : TypeInfo) : List Value :=
  match i.zero with
  | none => []
  | some z => match z.cells.toList.all (·.oneCell'), nq z.cells.toList.length i.size with
    | true, true => z.cells.toList
    | _, _ => []

def fieldsB (P : Program) (fs : List Field) : Bool := fs.all fun f => match P.info? f.type with
  | some i => nl 1 i.size
  | none => false

def elOf : TypeDesc → Nat
  | .slice e => e
  | _ => 0
def ikOf : TypeDesc → Option IntKind
  | .int k => some k
  | _ => none
def bB : TypeDesc → Bool
  | .bool => true
  | _ => false
def iB : TypeDesc → Bool
  | .interface _ => true
  | _ => false
def sB : TypeDesc → Bool
  | .slice _ => true
  | _ => false
def tB : TypeDesc → Bool
  | .string => true
  | _ => false

def eqKs (P : Program) : Nat → List Field → Option (List IntKind)
  | _, [] => some []
  | o, f :: r => match f.name == "_", nq f.offset o, P.underlying f.type, eqKs P (o + 1) r with
    | false, true, some (.int k), some ks => some (k :: ks)
    | _, _, _, _ => none

def eqOf (P : Program) (t : Nat) (fs : List Field) : Option (List IntKind) :=
  match P.stoodInHeld t, P.eqGuardType P.depth t with
  | false, false => eqKs P 0 fs
  | _, _ => none

theorem eqFields_run {P : Program} {d : Nat} {w : World} {X Y : Array Value} : ∀ {fs : List Field} {ks : List IntKind} {o : Nat} {xs ys : List Int}, eqKs P o fs = some ks → xs.length = ks.length → ys.length = ks.length →
    (∀ i, i < ks.length → X[o + i]? = (List.zipWith Value.int ks xs)[i]?) → (∀ i, i < ks.length → Y[o + i]? = (List.zipWith Value.int ks ys)[i]?) → (Op.eqFields (d + 1) X Y fs).run P w = .ok (decide (xs = ys)) w
  | [], ks, o, xs, ys, h, hx, hy, _, _ => by
    simp only [eqKs, Option.some.injEq] at h
    subst h
    obtain rfl := List.eq_nil_of_length_eq_zero hx
    obtain rfl := List.eq_nil_of_length_eq_zero hy
    simp [Op.eqFields]
  | f :: r, ks, o, xs, ys, h, hx, hy, h1, h2 => by
    simp only [eqKs] at h
    split at h
    · rename_i k ks' hn ho hu hrec
      simp only [Option.some.injEq] at h
      subst h
      match xs, ys, hx, hy with
      | x :: xs, y :: ys, hx, hy =>
        have hX := h1 0 (by simp)
        have hY := h2 0 (by simp)
        simp only [Nat.add_zero, List.zipWith_cons_cons, List.getElem?_cons_zero] at hX hY
        have hn' : f.name ≠ "_" := by simpa using hn
        have ho := nq_eq ho
        have hag : (isAgg f.type).run P w = .ok false w := by
          unfold isAgg
          rw [Sem.run_bind, run_underlying hu w]
          simp [Result.andThen]
        have hpx : (part f.type X f.offset).run P w = .ok (.int k x) w := by
          unfold part
          simp [hag, ho, hX]
        have hpy : (part f.type Y f.offset).run P w = .ok (.int k y) w := by
          unfold part
          simp [hag, ho, hY]
        have he : (Op.equalIn (d + 1) f.type (.int k x) (.int k y)).run P w = .ok (x == y) w := by
          unfold Op.equalIn
          rw [Sem.run_bind, run_underlying hu w]
          simp [Result.andThen]
        have hr := eqFields_run (X := X) (Y := Y) (d := d) (w := w) (xs := xs) (ys := ys) hrec (by simpa using hx) (by simpa using hy)
          (fun i hi => by have := h1 (i + 1) (by simpa using hi); rw [show o + (i + 1) = o + 1 + i by omega] at this; simpa using this)
          (fun i hi => by have := h2 (i + 1) (by simpa using hi); rw [show o + (i + 1) = o + 1 + i by omega] at this; simpa using this)
        rw [Op.eqFields]
        simp only [if_pos hn', Sem.run_bind, hpx, hpy, he, Result.andThen_ok]
        by_cases hxy : x = y
        · subst hxy
          simp [hr]
        · simp [hxy]
    · simp at h

theorem eqOf_sound {P : Program} {t : Nat} {fs : Array Field} {ks : List IntKind} (hu : P.underlying t = some (.struct fs)) (h : eqOf P t fs.toList = some ks) : P.eqGuardType P.depth t = false ∧ ∀ (w : World) (xs ys : List Int), xs.length = ks.length → ys.length = ks.length → (Op.equal t (.agg (List.zipWith Value.int ks xs).toArray) (.agg (List.zipWith Value.int ks ys).toArray)).run P w = .ok (decide (xs = ys)) w := by
  unfold eqOf at h
  split at h
  · rename_i hs hg
    refine ⟨hg, fun w xs ys hx hy => ?_⟩
    have hf : P.fieldsOf t = fs := by simp [Program.fieldsOf, hu]
    show (Op.equalIn (9999 + 1) t _ _).run P w = _
    rw [run_equalIn_struct (P := P) w 9999 t _ _ (by rw [hf]; exact hu) hs, hf]
    exact eqFields_run (d := 9998) h hx hy (fun i _ => by simp) (fun i _ => by simp)
  · simp at h

def plainTy (i : TypeInfo) (d : TypeDesc) : Option Ty :=
  match nq i.size 1 with
  | false => none
  | true => some ⟨false, 1, i.bytes, elOf d, [], zeroOf i, ikOf d, bB d, iB d, sB d, tB d, none⟩

def mkTy (P : Program) (q : Bool) (t : Nat) : Option Ty :=
  match P.info? t, P.underlying t with
  | some i, some d => match d with
    | .struct fs => match nl 1 i.size, fieldsB P fs.toList with
      | true, true => some ⟨true, i.size, i.bytes, 0, fs.toList.map (fun f => (f.offset, P.cellsOf f.type)), zeroOf i, none, false, false, false, false, match q with | true => eqOf P t fs.toList | false => none⟩
      | _, _ => none
    | .array _ _ => none
    | d => plainTy i d
  | _, _ => none

theorem zeroOf_ne {i : TypeInfo} (h : zeroOf i ≠ []) : ∃ z, i.zero = some z ∧ z.cells.toList = zeroOf i := by
  unfold zeroOf at h ⊢
  split at h
  · exact absurd rfl h
  · rename_i z hz
    split at h
    · rename_i h1 h2
      exact ⟨z, hz, rfl⟩
    · exact absurd rfl h

theorem zeroOf_one {i : TypeInfo} : ∀ z ∈ zeroOf i, z.oneCell' = true := by
  intro x hx
  unfold zeroOf at hx
  split at hx
  · simp at hx
  · split at hx
    · rename_i h1 h2
      exact List.all_eq_true.1 h1 x hx
    · simp at hx

theorem zeroOf_len {i : TypeInfo} (h : zeroOf i ≠ []) : (zeroOf i).length = i.size := by
  unfold zeroOf at h ⊢
  split at h
  · exact absurd rfl h
  · split at h
    · rename_i h1 h2
      exact beq_true h2
    · exact absurd rfl h

theorem plainTy_sound {P : Program} {t : Nat} {i : TypeInfo} {d : TypeDesc} {ty : Ty} (hi : P.info? t = some i) (hd : P.underlying t = some d) (hns : ∀ fs, d ≠ .struct fs) (hna : ∀ n e, d ≠ .array n e) (h : plainTy i d = some ty) : TyOk P t ty := by
  unfold plainTy at h
  split at h
  · simp at h
  · rename_i hsz
    simp only [Option.some.injEq] at h
    subst h
    have hsz := beq_true hsz
    refine ⟨⟨i, hi, hsz, rfl, fun hz => zeroOf_ne hz⟩, ⟨d, hd, ?_, ?_⟩, fun h => ?_, fun h => ?_, fun h => ?_, fun h => ?_, by simp, by simp, zeroOf_one, fun hz => by rw [zeroOf_len hz, hsz], by simp⟩
    · cases d <;> first | rfl | exact absurd rfl (hns _) | exact absurd rfl (hna _ _)
    · cases d <;> first | exact ⟨rfl, rfl⟩ | rfl | exact absurd rfl (hns _) | exact absurd rfl (hna _ _)
    · cases d <;> first | exact hd | simp [bB] at h
    · cases d <;> first | exact ⟨_, hd⟩ | simp [iB] at h
    · cases d <;> first | exact hd | simp [sB] at h
    · cases d <;> first | exact hd | simp [tB] at h

theorem mkTy_sound {P : Program} {q : Bool} {t : Nat} {ty : Ty} (h : mkTy P q t = some ty) : TyOk P t ty := by
  unfold mkTy at h
  split at h
  · rename_i i d hi hd
    split at h
    · rename_i fs
      split at h
      · rename_i hsz hfs
        simp only [Option.some.injEq] at h
        subst h
        refine ⟨⟨i, hi, rfl, rfl, fun hz => zeroOf_ne hz⟩, ⟨_, hd, rfl, rfl, rfl, fun f hf => ?_⟩, by simp, by simp, by simp, by simp, ble_true hsz, by simp, zeroOf_one, zeroOf_len, fun ks hk => by
          cases q with
          | true => exact eqOf_sound hd hk
          | false => simp at hk⟩
        have := List.all_eq_true.1 hfs f (by simpa using hf)
        split at this
        · rename_i i' hi'
          exact ⟨i', hi', by have := ble_true this; omega⟩
        · simp at this
      · simp at h
    · simp at h
    · rename_i hns hna
      exact plainTy_sound hi hd hns hna h
  · simp at h

def mkTab (P : Program) : List (Nat × Bool) → List (Nat × Ty)
  | [] => []
  | (t, q) :: r => match mkTy P q t with
    | some ty => (t, ty) :: mkTab P r
    | none => mkTab P r

theorem mkTab_sound {P : Program} : ∀ l, TabOk P (mkTab P l)
  | [], t, ty, h => by simp [mkTab, getTy] at h
  | (k, q) :: r, t, ty, h => by
    simp only [mkTab] at h
    split at h
    · rename_i ty' hty
      simp only [getTy] at h
      cases hb : nq t k with
      | true =>
        rw [hb] at h
        simp only [cond_true, Option.some.injEq] at h
        subst h
        rw [beq_true hb]
        exact mkTy_sound hty
      | false =>
        rw [hb] at h
        exact mkTab_sound r t ty h
    · exact mkTab_sound r t ty h

theorem TabOk.of {P : Program} {l : List (Nat × Bool)} {tab : List (Nat × Ty)} (h : mkTab P l = tab) : TabOk P tab := h ▸ mkTab_sound l

end Go.Proofs.Ytgicjbeaomjdgaa.L
