/- The table of types, out of a program. -/
import Derived.Test.YtcpekllcbimpmaaGreatDoorFnTextLib3
import Derived.Laws.StructEq
import Derived.Orders
import Derived.Deep.Slices
import Derived.ProofKit
import Derived.Carry
namespace Go.Proofs.YtcpekllcbimpmaaGreatDoor.L
set_option linter.unusedVariables false
set_option linter.unusedSimpArgs false
open Go
def zeroOf (i : TypeInfo) : List Value :=
 match i.zero with
 | none => []
 | some z => match z.cells.toList.all (·.oneCell'), nq z.cells.toList.length i.size with
  | true, true => z.cells.toList
  | _, _ => []
def fieldsB (P : Program) (fs : List Field) : Bool := fs.all fun f => match P.info? f.type with
 | some i => nl 1 i.size
 | none => false
def elOf : TypeDesc → Nat
 | .slice e => e
 | _ => 0
def ikOf : TypeDesc → Option IntKind
 | .int k => some k
 | _ => none
def bB : TypeDesc → Bool
 | .bool => true
 | _ => false
def iB : TypeDesc → Bool
 | .interface _ => true
 | _ => false
def sB : TypeDesc → Bool
 | .slice _ => true
 | _ => false
def tB : TypeDesc → Bool
 | .string => true
 | _ => false
def eqKs (P : Program) : Nat → List Field → Option (List IntKind)
 | _, [] => some []
 | o, f :: r => match f.name == "_", nq f.offset o, P.underlying f.type, eqKs P (o + 1) r with
  | false, true, some (.int k), some ks => some (k :: ks)
  | _, _, _, _ => none
def eqOf (P : Program) (t : Nat) (fs : List Field) : Option (List IntKind) :=
 match P.stoodInHeld t, P.eqGuardType P.depth t with
 | false, false => eqKs P 0 fs
 | _, _ => none
theorem qMH {P : Program} {d : Nat} {w : World} {X Y : Array Value} : ∀ {fs : List Field} {ks : List IntKind} {o : Nat} {xs ys : List Int}, eqKs P o fs = some ks → xs.length = ks.length → ys.length = ks.length →
  (∀ i, i < ks.length → X[o + i]? = (List.zipWith Value.int ks xs)[i]?) → (∀ i, i < ks.length → Y[o + i]? = (List.zipWith Value.int ks ys)[i]?) → (Op.eqFields (d + 1) X Y fs).run P w = .ok (decide (xs = ys)) w
 | [], ks, o, xs, ys, h, hx, hy, _, _ => by
  simp only [eqKs, Option.some.injEq] at h
  subst h
  obtain rfl := List.eq_nil_of_length_eq_zero hx
  obtain rfl := List.eq_nil_of_length_eq_zero hy
  simp [Op.eqFields]
 | f :: r, ks, o, xs, ys, h, hx, hy, h1, h2 => by
  simp only [eqKs] at h
  split at h
  ·
   rename_i k ks' hn ho hu hrec
   simp only [Option.some.injEq] at h
   subst h
   match xs, ys, hx, hy with
   | x :: xs, y :: ys, hx, hy =>
    have hX := h1 0 (by simp)
    have hY := h2 0 (by simp)
    simp only [Nat.add_zero, List.zipWith_cons_cons, List.getElem?_cons_zero] at hX hY
    have hn' : f.name ≠ "_" := by simpa using hn
    have ho := nq_eq ho
    have hag : (isAgg f.type).run P w = .ok false w := by
     unfold isAgg
     rw [Sem.run_bind, run_underlying hu w]
     simp [Result.andThen]
    have hpx : (part f.type X f.offset).run P w = .ok (.int k x) w := by
     unfold part
     simp [hag, ho, hX]
    have hpy : (part f.type Y f.offset).run P w = .ok (.int k y) w := by
     unfold part
     simp [hag, ho, hY]
    have he : (Op.equalIn (d + 1) f.type (.int k x) (.int k y)).run P w = .ok (x == y) w := by
     unfold Op.equalIn
     rw [Sem.run_bind, run_underlying hu w]
     simp [Result.andThen]
    have hr := qMH (X := X) (Y := Y) (d := d) (w := w) (xs := xs) (ys := ys) hrec (by simpa using hx) (by simpa using hy)
     (fun i hi => by have := h1 (i + 1) (by simpa using hi); rw [show o + (i + 1) = o + 1 + i by omega] at this; simpa using this)
     (fun i hi => by have := h2 (i + 1) (by simpa using hi); rw [show o + (i + 1) = o + 1 + i by omega] at this; simpa using this)
    rw [Op.eqFields]
    simp only [if_pos hn', Sem.run_bind, hpx, hpy, he, Result.andThen_ok]
    by_cases hxy : x = y
    ·
     subst hxy
     simp [hr]
    simp [hxy]
  simp at h
theorem qEP {P : Program} {t : Nat} {fs : Array Field} {ks : List IntKind} (hu : P.underlying t = some (.struct fs)) (h : eqOf P t fs.toList = some ks) : P.eqGuardType P.depth t = false ∧ ∀ (w : World) (xs ys : List Int), xs.length = ks.length → ys.length = ks.length → (Op.equal t (.agg (List.zipWith Value.int ks xs).toArray) (.agg (List.zipWith Value.int ks ys).toArray)).run P w = .ok (decide (xs = ys)) w := by
 unfold eqOf at h
 split at h
 ·
  rename_i hs hg
  refine ⟨hg, fun w xs ys hx hy => ?_⟩
  have hf : P.fieldsOf t = fs := by simp [Program.fieldsOf, hu]
  show (Op.equalIn (9999 + 1) t _ _).run P w = _
  rw [run_equalIn_struct (P := P) w 9999 t _ _ (by rw [hf]; exact hu) hs, hf]
  exact qMH (d := 9998) h hx hy (fun i _ => by simp) (fun i _ => by simp)
 simp at h
def plainTy (i : TypeInfo) (d : TypeDesc) : Option Ty :=
 match nq i.size 1 with
 | false => none
 | true => some ⟨false, 1, i.bytes, elOf d, [], zeroOf i, ikOf d, bB d, iB d, sB d, tB d, none⟩
def mkTy (P : Program) (q : Bool) (t : Nat) : Option Ty :=
 match P.info? t, P.underlying t with
 | some i, some d => match d with
  | .struct fs => match nl 1 i.size, fieldsB P fs.toList with
   | true, true => some ⟨true, i.size, i.bytes, 0, fs.toList.map (fun f => (f.offset, P.cellsOf f.type)), zeroOf i, none, false, false, false, false, match q with | true => eqOf P t fs.toList | false => none⟩
   | _, _ => none
  | .array _ _ => none
  | d => plainTy i d
 | _, _ => none
theorem qiL {i : TypeInfo} (h : zeroOf i ≠ []) : ∃ z, i.zero = some z ∧ z.cells.toList = zeroOf i := by
 unfold zeroOf at h ⊢
 split at h
 · exact absurd rfl h
 rename_i z hz
 split at h
 ·
  rename_i h1 h2
  exact ⟨z, hz, rfl⟩
 exact absurd rfl h
theorem qiJ {i : TypeInfo} : ∀ z ∈ zeroOf i, z.oneCell' = true := by
 intro x hx
 unfold zeroOf at hx
 split at hx
 · simp at hx
 split at hx
 ·
  rename_i h1 h2
  exact List.all_eq_true.1 h1 x hx
 simp at hx
theorem qjJ {i : TypeInfo} (h : zeroOf i ≠ []) : (zeroOf i).length = i.size := by
 unfold zeroOf at h ⊢
 split at h
 · exact absurd rfl h
 split at h
 ·
  rename_i h1 h2
  exact qGB h2
 exact absurd rfl h
theorem qKK {P : Program} {t : Nat} {i : TypeInfo} {d : TypeDesc} {ty : Ty} (hi : P.info? t = some i) (hd : P.underlying t = some d) (hns : ∀ fs, d ≠ .struct fs) (hna : ∀ n e, d ≠ .array n e) (h : plainTy i d = some ty) : TyOk P t ty := by
 unfold plainTy at h
 split at h
 · simp at h
 rename_i hsz
 simp only [Option.some.injEq] at h
 subst h
 have hsz := qGB hsz
 refine ⟨⟨i, hi, hsz, rfl, fun hz => qiL hz⟩, ⟨d, hd, ?_, ?_⟩, fun h => ?_, fun h => ?_, fun h => ?_, fun h => ?_, by simp, by simp, qiJ, fun hz => by rw [qjJ hz, hsz], by simp⟩
 · cases d <;> first | rfl | exact absurd rfl (hns _) | exact absurd rfl (hna _ _)
 · cases d <;> first | exact ⟨rfl, rfl⟩ | rfl | exact absurd rfl (hns _) | exact absurd rfl (hna _ _)
 · cases d <;> first | exact hd | simp [bB] at h
 · cases d <;> first | exact ⟨_, hd⟩ | simp [iB] at h
 · cases d <;> first | exact hd | simp [sB] at h
 cases d <;> first | exact hd | simp [tB] at h
theorem qFP {P : Program} {q : Bool} {t : Nat} {ty : Ty} (h : mkTy P q t = some ty) : TyOk P t ty := by
 unfold mkTy at h
 split at h
 ·
  rename_i i d hi hd
  split at h
  ·
   rename_i fs
   split at h
   ·
    rename_i hsz hfs
    simp only [Option.some.injEq] at h
    subst h
    refine ⟨⟨i, hi, rfl, rfl, fun hz => qiL hz⟩, ⟨_, hd, rfl, rfl, rfl, fun f hf => ?_⟩, by simp, by simp, by simp, by simp, qNC hsz, by simp, qiJ, qjJ, fun ks hk => by
     cases q with
     | true => exact qEP hd hk
     | false => simp at hk⟩
    have := List.all_eq_true.1 hfs f (by simpa using hf)
    split at this
    ·
     rename_i i' hi'
     exact ⟨i', hi', by have := qNC this; omega⟩
    simp at this
   simp at h
  · simp at h
  rename_i hns hna
  exact qKK hi hd hns hna h
 simp at h
def mkTab (P : Program) : List (Nat × Bool) → List (Nat × Ty)
 | [] => []
 | (t, q) :: r => match mkTy P q t with
  | some ty => (t, ty) :: mkTab P r
  | none => mkTab P r
theorem qKG {P : Program} : ∀ l, TabOk P (mkTab P l)
 | [], t, ty, h => by simp [mkTab, getTy] at h
 | (k, q) :: r, t, ty, h => by
  simp only [mkTab] at h
  split at h
  ·
   rename_i ty' hty
   simp only [getTy] at h
   cases hb : nq t k with
   | true =>
    rw [hb] at h
    simp only [cond_true, Option.some.injEq] at h
    subst h
    rw [qGB hb]
    exact qFP hty
   | false =>
    rw [hb] at h
    exact qKG r t ty h
  exact qKG r t ty h
theorem TabOk.of {P : Program} {l : List (Nat × Bool)} {tab : List (Nat × Ty)} (h : mkTab P l = tab) : TabOk P tab := h ▸ qKG l
end Go.Proofs.YtcpekllcbimpmaaGreatDoor.L
namespace Go.Proofs.YtcpekllcbimpmaaGreatDoor.L
set_option linter.unusedVariables false
set_option linter.unusedSimpArgs false
open Go
variable {tab : List (Nat × Ty)} {L : Lf} {e e' : List (Nat × V)} {o o' : List (Nat × O)} {σ σ' : St} {P : Program}
def ELe (e e' : List (Nat × V)) : Prop := ∀ t, look .u e t = .u ∨ look .u e' t = look .u e t
def OLe (o o' : List (Nat × O)) : Prop := (∀ i, look O.dead o i = .dead ∨ look O.dead o' i = look .dead o i) ∧ ∀ i, hasKey o' i = true → hasKey o i = true
theorem ev_le (h : ELe e e') (x : Operand) : ev e x = .u ∨ ev e' x = ev e x := by
 cases x with
 | tmp t => exact h t
 | _ => exact .inr rfl
theorem qpB (h : ELe e e') (x : Operand) : strip (ev e x) = ([], .u) ∨ strip (ev e' x) = strip (ev e x) := by
 rcases ev_le h x with h | h
 · exact .inl (by rw [h]; rfl)
 exact .inr (by rw [h])
theorem qGS (h : ELe e e') {c a b : Operand} {r} (hq : qPick L e c a b = some r) : qPick L e' c a b = some r := by
 unfold qPick at *
 rcases qpB h c with hc | hc
 · simp [hc] at hq
 rcases qpB h a with ha | ha
 · rw [ha] at hq; split at hq <;> simp [pickV] at hq
 rcases qpB h b with hb | hb
 ·
  rw [hb] at hq
  split at hq
  ·
   simp only at hq
   split at hq
   · rename_i h1; unfold pickV at h1; split at h1 <;> first | contradiction | simp at h1
   simp at hq
  simp at hq
 rw [hc, ha, hb]
 exact hq
theorem qKU (h : ELe e e') {op : UnOp} {x : Operand} {r} (hq : qUn L e op x = some r) : qUn L e' op x = some r := by
 unfold qUn at *
 rcases qpB h x with hc | hc
 · simp [hc] at hq
 rw [hc]
 exact hq
theorem qCQ (h : ELe e e') {t f : Nat} {x : Operand} {r} (hq : qField tab e t x f = some r) : qField tab e' t x f = some r := by
 unfold qField at *
 rcases qpB h x with hc | hc
 · rw [hc] at hq; split at hq <;> (try split at hq) <;> simp at hq
 rw [hc]
 exact hq
theorem qDQ (h : ELe e e') {t : Nat} {x i : Operand} {r} (hq : qIndex L tab e t x i = some r) : qIndex L tab e' t x i = some r := by
 unfold qIndex at *
 rcases qpB h x with hc | hc
 · rw [hc] at hq; split at hq <;> (try split at hq) <;> simp_all
 rcases qpB h i with hd | hd
 · rw [hd] at hq; split at hq <;> (try split at hq) <;> simp_all
 rw [hc, hd]
 exact hq
theorem qVN (h : ELe e e') {x : Operand} {k : Nat} {r} (hq : qExtract e x k = some r) : qExtract e' x k = some r := by
 unfold qExtract at *
 rcases qpB h x with hc | hc
 · simp [hc] at hq
 rw [hc]
 exact hq
theorem qeT (h : ELe e e') {x : Operand} {r} (hq : qNil e x = some r) : qNil e' x = some r := by
 unfold qNil at *
 rcases qpB h x with hc | hc
 · simp [hc] at hq
 rw [hc]
 exact hq
theorem qHS (h : ELe e e') {s d : Nat} {x : Operand} {r} (hq : qConv L tab e s d x = some r) : qConv L tab e' s d x = some r := by
 unfold qConv at *
 rcases qpB h x with hc | hc
 · rw [hc] at hq; split at hq <;> (try split at hq) <;> simp_all
 rw [hc]
 exact hq
theorem qIS (h : ELe σ.env σ'.env) (ho : OLe σ.objs σ'.objs) {t : Nat} {x : Operand} {sup : Option Sup} {r} (hq : qLoad L tab σ t x sup = some r) : qLoad L tab σ' t x sup = some r := by
 unfold qLoad at *
 rcases qpB h x with hc | hc
 · rw [hc] at hq; split at hq <;> simp at hq
 rw [hc]
 split at hq
 ·
  rename_i ty hty
  try simp only [hty]
  split at hq
  · exact hq
  ·
   rename_i px id i j hs
   try simp only
   rcases ho.1 id with hd | hd
   · rw [hd] at hq; simp at hq
   rw [hd]; exact hq
  simp at hq
 simp at hq
theorem qGP (h : ELe σ.env σ'.env) (ho : OLe σ.objs σ'.objs) {t : Nat} {x i : Operand} {sup : Option Sup} {r} (hq : qIndexA L tab σ t x i sup = some r) : qIndexA L tab σ' t x i sup = some r := by
 unfold qIndexA at *
 rcases qpB h i with hd | hd
 · rw [hd] at hq; split at hq <;> simp_all
 rcases qpB h x with hc | hc
 · rw [hc] at hq; split at hq <;> simp at hq
 rw [hc, hd]
 split at hq
 ·
  rename_i h1 h2
  try simp only [h1, h2]
  split at hq
  · exact hq
  ·
   rename_i px id hs
   try simp only
   rcases ho.1 id with hd | hd
   · rw [hd] at hq; simp at hq
   rw [hd]; exact hq
  simp at hq
 simp at hq
theorem qfT (ho : OLe o o') {v : V} {n : Int} (hq : lenV L o v = some n) : lenV L o' v = some n := by
 unfold lenV at *
 split at hq <;> try exact hq
 rename_i id
 try simp only
 rcases ho.1 id with hd | hd
 · rw [hd] at hq; simp at hq
 rw [hd]; exact hq
theorem qgT (h : ELe σ.env σ'.env) (ho : OLe σ.objs σ'.objs) {args : List Operand} {ts : List Nat} {r} (hq : qLen L tab σ args ts = some r) : qLen L tab σ' args ts = some r := by
 unfold qLen at *
 split at hq
 ·
  rename_i x t
  try simp only
  rcases qpB h x with hc | hc
  · rw [hc] at hq; cases hg : getTy tab t <;> simp [hg, lenV] at hq
  rw [hc]
  split at hq
  ·
   rename_i h1 h2
   try simp only [h1, h2]
   cases hl : lenV L σ.objs _ with
   | none => rw [hl] at hq; simp at hq
   | some n => rw [qfT ho hl]; rw [hl] at hq; exact hq
  simp at hq
 simp at hq
theorem qLU (h : ELe e e') {x : Option Operand} {r} (hq : lowOf e x = some r) : lowOf e' x = some r := by
 unfold lowOf at *
 split at hq
 · exact hq
 rename_i x
 try simp only
 rcases qpB h x with hc | hc
 · simp [hc] at hq
 rw [hc]; exact hq
theorem qhT (h : ELe e e') {x : Option Operand} {d : Int} {r} (hq : highOf e x d = some r) : highOf e' x d = some r := by
 unfold highOf at *
 split at hq
 · exact hq
 rename_i x
 try simp only
 rcases qpB h x with hc | hc
 · simp [hc] at hq
 rw [hc]; exact hq
theorem qEQ (h : ELe σ.env σ'.env) (ho : OLe σ.objs σ'.objs) {t : Nat} {x : Operand} {lo hi : Option Operand} {r} (hq : qSlice L tab σ t x lo hi = some r) : qSlice L tab σ' t x lo hi = some r := by
 unfold qSlice at *
 rcases qpB h x with hc | hc
 · rw [hc] at hq; cases hg : getTy tab t <;> cases hl : lowOf σ.env lo <;> simp [hg, hl] at hq
 rw [hc]
 cases hlo : lowOf σ.env lo with
 | none => rw [hlo] at hq; split at hq <;> simp_all
 | some pl =>
  rw [hlo] at hq
  rw [qLU h hlo]
  have hh : ∀ {d r}, highOf σ.env hi d = some r → highOf σ'.env hi d = some r := fun hx => qhT h hx
  split at hq
  ·
   rename_i h1 h2 h3
   try simp only [h1, h2, h3]
   split at hq
   ·
    try simp only
    cases hx : highOf σ.env hi _ with
    | none => rw [hx] at hq; split at hq <;> simp_all
    | some pr => rw [hx] at hq; rw [hh hx]; exact hq
   ·
    try simp only
    cases hx : highOf σ.env hi _ with
    | none => rw [hx] at hq; split at hq <;> simp_all
    | some pr => rw [hx] at hq; rw [hh hx]; exact hq
   ·
    rename_i id
    try simp only
    rcases ho.1 id with hd | hd
    · rw [hd] at hq; simp at hq
    rw [hd]
    split at hq
    ·
     try simp only
     cases hx : highOf σ.env hi _ with
     | none => rw [hx] at hq; split at hq <;> simp_all
     | some pr => rw [hx] at hq; rw [hh hx]; exact hq
    simp at hq
   simp at hq
  simp at hq
end Go.Proofs.YtcpekllcbimpmaaGreatDoor.L
namespace Go.Proofs.YtcpekllcbimpmaaGreatDoor.L
set_option linter.unusedVariables false
set_option linter.unusedSimpArgs false
open Go
variable {tab : List (Nat × Ty)} {L : Lf} {e e' : List (Nat × V)} {o o' : List (Nat × O)} {σ σ' : St} {P : Program}
theorem qFQ : ∀ {xs : List Operand}, (∀ x ∈ xs, ev e' x = ev e x) → evs e' xs = evs e xs
 | [], _ => rfl
 | x :: r, h => by simp only [evs, h x (by simp), qFQ (fun y hy => h y (List.mem_cons_of_mem _ hy))]
theorem qNH {offs : List (Nat × Nat)} : ∀ {ps : List (Nat × Operand)} {cs : List V}, (∀ p ∈ ps, ev e' p.2 = ev e p.2) → fillParts e' offs ps cs = fillParts e offs ps cs
 | [], _, _ => rfl
 | (i, x) :: r, cs, h => by
  simp only [fillParts, h (i, x) (by simp)]
  have hr : ∀ cs, fillParts e' offs r cs = fillParts e offs r cs := fun cs => qNH (fun p hp => h p (List.mem_cons_of_mem _ hp))
  simp only [hr]
theorem qWN (ho : OLe o o') {i : Nat} (h : look O.dead o i ≠ .dead) : look O.dead o' i = look .dead o i := (ho.1 i).resolve_left h
theorem qXN (ho : OLe o o') {c : V} {r} (h : sinkCell o c = some r) : sinkCell o' c = some r := by
 unfold sinkCell at *
 split at h <;> try exact h
 rename_i id
 rcases ho.1 id with hd | hd
 · rw [hd] at h; simp at h
 try simp only
 rw [hd]; exact h
theorem qsE (ho : OLe o o') : ∀ {cs : List V} {r}, sinkCells o cs = some r → sinkCells o' cs = some r
 | [], _, h => h
 | c :: cs, r, h => by
  simp only [sinkCells] at h ⊢
  split at h
  · simp at h
  rename_i x d hx
  rw [qXN ho hx]
  split at h
  · simp at h
  rename_i hxs
  simp only [qsE ho hxs]
  exact h
theorem qkJ (ho : OLe o o') {size : Nat} : ∀ {n : Nat} {ps : List (Nat × Operand)} {r}, (∀ p ∈ ps, ev e' p.2 = ev e p.2) → litRows o e size n ps = some r → litRows o' e' size n ps = some r
 | n, [], r, _, h => h
 | n, (i, x) :: ps, r, hx, h => by
  simp only [litRows] at h ⊢
  rw [hx (i, x) (by simp)]
  split at h
  · simp at h
  rename_i hn
  split at h
  · simp at h
  rename_i hc
  try simp only [hc]
  split at h
  · simp at h
  rename_i hl
  try simp only [hl]
  split at h
  · simp at h
  rename_i hs
  simp only [qsE ho hs]
  split at h
  · simp at h
  rename_i hrec
  simp only [qkJ ho (fun p hp => hx p (List.mem_cons_of_mem _ hp)) hrec]
  exact h
theorem qjL (ho : OLe o o') {t : Nat} {v : V} {r} (h : target o t v = some r) : target o' t v = some r := by
 unfold target at *
 split at h <;> try exact h
 rename_i id
 rcases ho.1 id with hd | hd
 · rw [hd] at h; simp at h
 try simp only
 rw [hd]; exact h
theorem qGQ (ho : OLe o o') {t : Nat} {v : V} {r} (h : source L o t v = some r) : source L o' t v = some r := by
 unfold source at *
 split at h <;> try exact h
 ·
  rename_i id
  rcases ho.1 id with hd | hd
  · rw [hd] at h; simp at h
  try simp only
  rw [hd]; exact h
 rename_i id _ _
 rcases ho.1 id with hd | hd
 · rw [hd] at h; simp at h
 try simp only
 rw [hd]; exact h
theorem qHP (ho : OLe o o') {t : Nat} {v : V} {r} (h : sourceM L o t v = some r) : sourceM L o' t v = some r := by
 unfold sourceM at *
 split at h <;> try exact h
 rename_i id _ _
 rcases ho.1 id with hd | hd
 · rw [hd] at h; simp at h
 try simp only
 rw [hd]; exact h
mutual
theorem qKI (ho : OLe o o') : ∀ (n : Nat) {v : V} {r}, lendCell L o n v = some r → lendCell L o' n v = some r
  | n, v, r, h => by
    unfold lendCell at h
    split at h
    all_goals first
      | (rename_i id
         rcases ho.1 id with hd | hd
         · rw [hd] at h; simp at h
         · unfold lendCell; (try simp only); rw [hd]; exact h)
      | (rename_i id _ _
         rcases ho.1 id with hd | hd
         · rw [hd] at h; simp at h
         · unfold lendCell; (try simp only); rw [hd]; exact h)
      | (rename_i id _ _ _ _ _
         rcases ho.1 id with hd | hd
         · rw [hd] at h; simp at h
         · unfold lendCell; (try simp only); rw [hd]; exact h)
      | (unfold lendCell; exact h)
      | (rename_i m id j
         rcases ho.1 id with hd | hd
         · rw [hd] at h; simp at h
         · unfold lendCell; (try simp only); rw [hd]
           split at h
           · (try simp only)
             split at h
             · rename_i hl
               rw [qXF ho _ hl]
               exact h
             · simp at h
           · simp at h)
      | (rename_i m f cs
         unfold lendCell; (try simp only)
         split at h
         · rename_i hl
           rw [qXF ho _ hl]
           exact h
         · simp at h)
      | (simp at h)
theorem qXF (ho : OLe o o') : ∀ (n : Nat) {vs : List V} {r}, lendCell.lendAll L o n vs = some r → lendCell.lendAll L o' n vs = some r
  | n, [], r, h => by simpa only [lendCell.lendAll] using h
  | 0, c :: cs, r, h => by simp [lendCell.lendAll] at h
  | n + 1, c :: cs, r, h => by
    simp only [lendCell.lendAll] at h ⊢
    split at h
    · simp at h
    · rename_i hx
      rw [qKI ho n hx]
      split at h
      · simp at h
      · rename_i hxs
        simp only [qXF ho n hxs]
        exact h
end
theorem qlJ (ho : OLe o o') {v : V} {r} (h : ownCell o v = some r) : ownCell o' v = some r := by
 unfold ownCell at *
 split at h <;> try exact h
 rename_i id
 rcases ho.1 id with hd | hd
 · rw [hd] at h; simp at h
 try simp only
 rw [hd]; exact h
theorem qLI (ho : OLe o o') : ∀ {vs : List V} {r}, ownCells o vs = some r → ownCells o' vs = some r
 | [], _, h => h
 | c :: cs, r, h => by
  simp only [ownCells] at h ⊢
  split at h
  · simp at h
  rename_i hx
  rw [qlJ ho hx]
  split at h
  · simp at h
  rename_i hxs
  simp only [qLI ho hxs]
  exact h
theorem qHQ {b b' : List (Nat × O)} (ho : OLe o o') (hb : OLe b b') {own : Bool} {v : V} {r} (h : argOne L o b own v = some r) : argOne L o' b' own v = some r := by
 unfold argOne at *
 cases own with
 | false =>
  simp only at h ⊢
  split at h
  ·
   try simp only
   split at h
   ·
    rename_i hl
    rw [qXF hb _ hl]; exact h
   simp at h
  rename_i hne
  split at h
  ·
   rename_i hl
   rw [qKI hb _ hl]; exact h
  simp at h
 | true =>
  simp only at h ⊢
  split at h
  ·
   try simp only
   split at h
   ·
    rename_i hl
    rw [qLI ho hl]; exact h
   simp at h
  ·
   rename_i id
   try simp only
   rcases ho.1 id with hd | hd
   · rw [hd] at h; simp at h
   rw [hd]; exact h
  rename_i hne1 hne2
  split at h
  ·
   rename_i hl
   rw [qlJ ho hl]; exact h
  simp at h
theorem qMI {b b' : List (Nat × O)} (ho : OLe o o') (hb : OLe b b') : ∀ {os : List Bool} {vs : List V} {r}, argAll L o b os vs = some r → argAll L o' b' os vs = some r
 | [], [], _, h => h
 | [], _ :: _, _, h => by simp [argAll] at h
 | _ :: _, [], _, h => by simp [argAll] at h
 | x :: os, v :: vs, r, h => by
  simp only [argAll] at h ⊢
  split at h
  · simp at h
  rename_i hx
  rw [qHQ ho hb hx]
  split at h
  · simp at h
  rename_i hxs
  simp only [qMI ho hb hxs]
  exact h
theorem OLe.app (ho : OLe o o') (δ : List (Nat × O)) : OLe (δ ++ o) (δ ++ o') := by
 refine ⟨fun i => ?_, fun i h => ?_⟩
 ·
  rw [qj, qj]
  split
  · exact .inr rfl
  exact ho.1 i
 rw [qZC] at *
 exact h.imp id (ho.2 i)
theorem OLe.cons (ho : OLe o o') (p : Nat × O) : OLe (p :: o) (p :: o') := ho.app [p]
theorem qYN : ∀ {ds : List (Option Nat)} {ts : List T} {o o' δ : List (Nat × O)}, OLe o o' → back o ds ts = some (δ ++ o) → back o' ds ts = some (δ ++ o')
 | [], ts, o, o', δ, ho, h => by
  simp only [back, Option.some.injEq] at h ⊢
  have : δ = [] := by
   have := congrArg List.length h
   simpa using this
  subst this
  rfl
 | none :: ds, [], o, o', δ, ho, h => by simp [back] at h
 | some _ :: ds, [], o, o', δ, ho, h => by simp [back] at h
 | none :: ds, t :: ts, o, o', δ, ho, h => by
  simp only [back] at h ⊢
  exact qYN (ds := ds) (ts := ts) ho h
 | some id :: ds, t :: ts, o, o', δ, ho, h => by
  have ext : ∀ {p : Nat × O}, back (p :: o) ds ts = some (δ ++ o) → back (p :: o') ds ts = some (δ ++ o') := by
   intro p hp
   obtain ⟨δ', hδ⟩ := qTE hp
   have e : δ = δ' ++ [p] := by
    have : δ ++ o = (δ' ++ [p]) ++ o := by rw [hδ]; simp
    exact List.append_cancel_right this
   subst e
   have := qYN (δ := δ') (ho.cons p) (by rw [hp]; simp)
   rw [this]; simp
  simp only [back] at h ⊢
  split at h
  ·
   rename_i e' rows' ver e sz rows hl
   have hl' := qWN ho (i := id) (by rw [hl]; simp)
   rw [hl', hl]
   try simp only
   split at h
   · exact ext h
   simp at h
  · exact ext h
  ·
   rename_i e' cs e cs' hl
   have hl' := qWN ho (i := id) (by rw [hl]; simp)
   rw [hl', hl]
   try simp only
   split at h
   · exact ext h
   simp at h
  simp at h
theorem qUG {nx : Nat} (ho : OLe o o') {id : Nat} (h : freshB nx o id = true) : freshB nx o' id = true := by
 unfold freshB at *
 cases hb : nl nx id with
 | false => simp [hb] at h
 | true =>
  rw [hb] at h
  simp only [cond_true] at h ⊢
  cases hk : hasKey o' id with
  | false => rfl
  | true => rw [ho.2 id hk] at h; simp at h
end Go.Proofs.YtcpekllcbimpmaaGreatDoor.L
namespace Go.Proofs.YtcpekllcbimpmaaGreatDoor.L
set_option linter.unusedVariables false
set_option linter.unusedSimpArgs false
open Go
variable {tab : List (Nat × Ty)} {L : Lf} {e e' : List (Nat × V)} {o o' : List (Nat × O)} {σ σ' : St} {P : Program}
theorem quD {nx : Nat} : ∀ {cs : List T} {o o' δ : List (Nat × O)} {id id' : Nat} {vs : List V}, OLe o o' → openCells tab nx o id cs = some (vs, δ ++ o, id') → openCells tab nx o' id cs = some (vs, δ ++ o', id')
 | [], o, o', δ, id, id', vs, ho, h => by
  simp only [openCells, Option.some.injEq, Prod.mk.injEq] at h ⊢
  obtain ⟨h1, h2, h3⟩ := h
  have : δ = [] := by
   have := congrArg List.length h2
   simpa using this
  subst this
  exact ⟨h1, rfl, h3⟩
 | c :: cs, o, o', δ, id, id', vs, ho, h => by
  have plain : ∀ {vs' : List V} {os : List (Nat × O)} {i'}, openCells tab nx o id cs = some (vs', os, i') → os = δ ++ o → openCells tab nx o' id cs = some (vs', δ ++ o', i') := by
   intro vs' os i' hrec e
   subst e
   exact quD ho hrec
  have ext : ∀ {p : Nat × O} {vs' : List V} {os : List (Nat × O)} {i' i2 : Nat}, openCells tab nx (p :: o) i2 cs = some (vs', os, i') → os = δ ++ o → openCells tab nx (p :: o') i2 cs = some (vs', δ ++ o', i') := by
   intro p vs' os i' i2 hrec e
   subst e
   obtain ⟨δ', hδ⟩ := qXB hrec
   have e : δ = δ' ++ [p] := by
    have : δ ++ o = (δ' ++ [p]) ++ o := by rw [hδ]; simp
    exact List.append_cancel_right this
   subst e
   have := quD (δ := δ') (vs := vs') (id' := i') (ho.cons p) (by rw [hrec]; simp)
   rw [this]; simp
  simp only [openCells] at h ⊢
  cases c with
  | s v =>
   try simp only at h ⊢
   split at h
   ·
    rename_i hrec
    simp only [Option.some.injEq, Prod.mk.injEq] at h
    rw [plain hrec h.2.1, ← h.1, ← h.2.2]
   simp at h
  | er =>
   try simp only at h ⊢
   split at h
   ·
    rename_i hrec
    simp only [Option.some.injEq, Prod.mk.injEq] at h
    rw [plain hrec h.2.1, ← h.1, ← h.2.2]
   simp at h
  | im k r =>
   cases k with
   | false => simp at h
   | true =>
    try simp only at h ⊢
    split at h
    ·
     rename_i hrec
     simp only [Option.some.injEq, Prod.mk.injEq] at h
     rw [plain hrec h.2.1, ← h.1, ← h.2.2]
    simp at h
  | ow e rows =>
   try simp only at h ⊢
   split at h
   ·
    rename_i ty hty hf
    rw [qUG ho hf]
    try simp only [hty]
    split at h
    ·
     rename_i hrec
     simp only [Option.some.injEq, Prod.mk.injEq] at h
     rw [ext hrec h.2.1, ← h.1, ← h.2.2]
    simp at h
   simp at h
  | bx e xs =>
   try simp only at h ⊢
   split at h
   ·
    rename_i us hpl hf
    rw [qUG ho hf]
    try simp only [hpl]
    split at h
    ·
     rename_i hrec
     simp only [Option.some.injEq, Prod.mk.injEq] at h
     rw [ext hrec h.2.1, ← h.1, ← h.2.2]
    simp at h
   simp at h
  | _ => simp at h
theorem qvG {nx : Nat} : ∀ {res : List A} {o o' δ : List (Nat × O)} {id : Nat} {vs : List V}, OLe o o' → openRes tab nx o id res = some (vs, δ ++ o) → openRes tab nx o' id res = some (vs, δ ++ o')
 | [], o, o', δ, id, vs, ho, h => by
  simp only [openRes, Option.some.injEq, Prod.mk.injEq] at h ⊢
  obtain ⟨h1, h2⟩ := h
  have : δ = [] := by
   have := congrArg List.length h2
   simpa using this
  subst this
  exact ⟨h1, rfl⟩
 | .v x :: r, o, o', δ, id, vs, ho, h => by
  simp only [openRes] at h ⊢
  split at h
  ·
   rename_i hc
   split at h
   ·
    rename_i hrec
    simp only [Option.some.injEq, Prod.mk.injEq] at h
    obtain ⟨h1, h2⟩ := h
    subst h2
    obtain ⟨δ1, hδ1⟩ := qXB hc
    subst hδ1
    obtain ⟨δ2, hδ2⟩ := qzC hrec
    have e : δ = δ2 ++ δ1 := by
     have : δ ++ o = (δ2 ++ δ1) ++ o := by rw [hδ2]; simp
     exact List.append_cancel_right this
    subst e
    rw [quD ho hc]
    try simp only
    rw [List.append_assoc] at hrec
    rw [qvG (δ := δ2) (ho.app δ1) hrec, ← h1]
    simp
   simp at h
  simp at h
 | .ag xs :: r, o, o', δ, id, vs, ho, h => by
  simp only [openRes] at h ⊢
  split at h
  ·
   rename_i hc
   split at h
   ·
    rename_i hrec
    simp only [Option.some.injEq, Prod.mk.injEq] at h
    obtain ⟨h1, h2⟩ := h
    subst h2
    obtain ⟨δ1, hδ1⟩ := qXB hc
    subst hδ1
    obtain ⟨δ2, hδ2⟩ := qzC hrec
    have e : δ = δ2 ++ δ1 := by
     have : δ ++ o = (δ2 ++ δ1) ++ o := by rw [hδ2]; simp
     exact List.append_cancel_right this
    subst e
    rw [quD ho hc]
    try simp only
    rw [List.append_assoc] at hrec
    rw [qvG (δ := δ2) (ho.app δ1) hrec, ← h1]
    simp
   simp at h
  simp at h
structure SLe (σ σ' : St) : Prop where
 n : σ'.n = σ.n
 nx : σ'.nx = σ.nx
 env : ELe σ.env σ'.env
 objs : OLe σ.objs σ'.objs
def Same (e e' : List (Nat × V)) (op : Op) : Prop := ∀ x ∈ op.operands, ev e' x = ev e x
theorem qJS (h : SLe σ σ') {op : Op} {sup : Option Sup} (hs : Same σ.env σ'.env op) {r} (hq : stepQ L tab σ op sup = some r) : stepQ L tab σ' op sup = some r := by
 cases op <;> simp only [stepQ, reduceCtorEq] at hq ⊢
 case move x => rw [hs x (by simp [Op.operands])]; exact hq
 case assign x => rw [hs x (by simp [Op.operands])]; exact hq
 case pick => exact qGS h.env hq
 case build t ps =>
  unfold qBuild at *
  have hfp : ∀ offs cs, fillParts σ'.env offs ps.toList cs = fillParts σ.env offs ps.toList cs := fun offs cs => qNH (fun p hp => hs p.2 (by simp only [Op.operands]; exact List.mem_toArray.2 (List.mem_map.2 ⟨p, hp, rfl⟩)))
  simp only [hfp]
  exact hq
 case load => exact qIS h.env h.objs hq
 case nilCheck => exact qeT h.env hq
 case binOp o xt x y yt =>
  have e1 := hs x (by simp [Op.operands])
  have e2 := hs y (by simp [Op.operands])
  have e3 : qBin L tab σ'.env o xt x y = qBin L tab σ.env o xt x y := by unfold qBin; rw [e1, e2]
  have e4 : qEqA L tab σ'.env o xt x y = qEqA L tab σ.env o xt x y := by unfold qEqA; rw [e1, e2]
  rw [e3, e4]
  exact hq
 case unOp => exact qKU h.env hq
 case convert => exact qHS h.env hq
 case makeFunc f first caps =>
  unfold qFunc at *
  split at hq
  ·
   try simp only
   rw [qFQ (e := σ.env) (fun x hx => hs x (by simp only [Op.operands]; exact Array.mem_append.2 (.inr (Array.mem_toList_iff.1 hx))))]
   exact hq
  simp at hq
 case slice t x lo hi mx =>
  cases mx with
  | none => exact qEQ h.env h.objs hq
  | some _ => simp at hq
 case fieldAddr => exact qCQ h.env hq
 case indexAddr => exact qGP h.env h.objs hq
 case index => exact qDQ h.env hq
 case extract => exact qVN h.env hq
 case call c =>
  split at hq
  ·
   rename_i b hb
   try simp only [hb]
   split at hq
   · exact qgT h.env h.objs hq
   simp at hq
  simp at hq
theorem qKS (h : SLe σ σ') {op : Op} {id : Nat} (hs : Same σ.env σ'.env op) {r} (hq : stepA L tab σ id op = some r) : stepA L tab σ' id op = some r := by
  cases op <;> simp only [stepA, reduceCtorEq] at hq ⊢
  case box e x => rw [hs x (by simp [Op.operands])]; exact hq
  case alloc e => exact hq
  case buildSlice t n ps =>
    split at hq
    · rename_i ty hty
      try simp only [hty]
      split at hq
      · rename_i te hsl hte
        try simp only [hsl, hte]
        split at hq
        · rename_i hl
          rw [qkJ (e := σ.env) h.objs (fun p hp => hs p.2 (by simp only [Op.operands]; exact List.mem_toArray.2 (List.mem_map.2 ⟨p, hp, rfl⟩))) hl]
          exact hq
        · simp at hq
      · simp at hq
    · simp at hq
  case makeSlice t l c => rw [hs l (by simp [Op.operands]), hs c (by simp [Op.operands])]; exact hq
  case call c =>
    split at hq
    · rename_i s x t t' hcal hargs hts
      have h1 := hs s (by simp only [Op.operands, Call.operands, hcal]; have : s ∈ c.args := by rw [← Array.mem_toList_iff, hargs]; simp
                          simp [this])
      have h2 := hs x (by simp only [Op.operands, Call.operands, hcal]; have : x ∈ c.args := by rw [← Array.mem_toList_iff, hargs]; simp
                          simp [this])
      try simp only [hcal, hargs, hts]
      rw [h1, h2]
      split at hq
      · rename_i ty htt hty
        try simp only [htt, hty]
        split at hq
        · rename_i te hsl hte
          try simp only [hsl, hte]
          split at hq
          · rename_i p1 v1 p2 v2 z zr e1 e2 e3
            try simp only [e1, e2, e3]
            split at hq
            · rename_i hmv
              try simp only [hmv]
              split at hq
              · rename_i r1 d1 p3 r2 sid o t1 s1
                rw [qjL h.objs t1, qHP h.objs s1]
                try simp only
                split at hq
                · rename_i hn hfc
                  rw [hn, show freshB σ'.nx σ'.objs (id + 1) = true from (by rw [h.nx]; exact qUG h.objs hfc)]
                  exact hq
                · simp at hq
              · simp at hq
            · rename_i hmv
              try simp only [hmv]
              split at hq
              · rename_i r1 d1 p3 r2 d2 t1 s1
                rw [qjL h.objs t1, qGQ h.objs s1]
                exact hq
              · simp at hq
          · simp at hq
        · simp at hq
      · simp at hq
    · simp at hq
theorem qLS (h : SLe σ σ') {op : Op} (hs : Same σ.env σ'.env op) {r} (hq : stepS L tab σ op = some r) : stepS L tab σ' op = some r := by
 cases op <;> simp only [stepS, reduceCtorEq] at hq ⊢
 case store t x y =>
  rw [hs x (by simp [Op.operands]), hs y (by simp [Op.operands])]
  split at hq
  ·
   rename_i ty px id i j py v hty hx hy
   try simp only [hty, hx, hy]
   split at hq
   ·
    rename_i vc hvc
    try simp only [hvc]
    rcases h.objs.1 id with hd | hd
    · rw [hd] at hq; split at hq <;> simp_all
    rw [hd]
    split at hq
    ·
     rename_i hb ho
     try simp only [hb, ho]
     exact hq
    ·
     rename_i hb ho
     try simp only [hb, ho]
     split at hq
     ·
      rename_i ts ds hsk hle
      rw [qsE h.objs hsk]
      try simp only [hle]
      exact hq
     simp at hq
    simp at hq
   simp at hq
  simp at hq
theorem qMS (h : SLe σ σ') {c : Call} {id : Nat} {sup : Option Sup} (hs : Same σ.env σ'.env (.call c)) {ps v δ} (hq : stepC P L tab σ id c sup = some (ps, v, δ ++ σ.objs)) : stepC P L tab σ' id c sup = some (ps, v, δ ++ σ'.objs) := by
 unfold stepC at *
 split at hq
 ·
  rename_i f own outs res hcal
  try simp only [hcal]
  rw [hs f (by simp [Op.operands, Call.operands, hcal]), qFQ (e := σ.env) (fun x hx => hs x (by simp [Op.operands, Call.operands, hcal, Array.mem_toList_iff.1 hx])), h.nx]
  split at hq
  ·
   rename_i e1 e2
   try simp only [e1, e2]
   split at hq
   ·
    rename_i as0 ds0 h0
    rw [qMI h.objs h.objs h0]
    try simp only
    split at hq
    ·
     rename_i as ds h1
     rw [qMI h.objs (h.objs.app _) h1]
     try simp only
     split at hq
     ·
      rename_i b1 b2 b3 b4
      obtain ⟨δ1, hδ1⟩ := qTE b4
      subst hδ1
      rw [qYN h.objs b4]
      try simp only [b1, b2, b3]
      split at hq
      ·
       rename_i rs objs2 hres
       obtain ⟨δ2, hδ2⟩ := qzC hres
       subst hδ2
       have := qvG (δ := δ2) (h.objs.app δ1) hres
       rw [this]
       try simp only
       split at hq
       ·
        simp only [Option.some.injEq, Prod.mk.injEq] at hq ⊢
        obtain ⟨q1, q2, q3⟩ := hq
        have e : δ = δ2 ++ δ1 := by
         have : δ ++ σ.objs = (δ2 ++ δ1) ++ σ.objs := by rw [← q3]; simp
         exact List.append_cancel_right this
        exact ⟨q1, q2, by rw [e]; simp⟩
       simp only [Option.some.injEq, Prod.mk.injEq] at hq ⊢
       obtain ⟨q1, q2, q3⟩ := hq
       have e : δ = δ2 ++ δ1 := by
        have : δ ++ σ.objs = (δ2 ++ δ1) ++ σ.objs := by rw [← q3]; simp
        exact List.append_cancel_right this
       exact ⟨q1, q2, by rw [e]; simp⟩
      simp at hq
     simp at hq
    simp at hq
   simp at hq
  simp at hq
 simp at hq
end Go.Proofs.YtcpekllcbimpmaaGreatDoor.L
namespace Go.Proofs.YtcpekllcbimpmaaGreatDoor.L
set_option linter.unusedVariables false
set_option linter.unusedSimpArgs false
open Go
variable {F : Fr} {σ σ' : St} {a : Act} {w : World} {S : Nat → Prop} {G : Gh} {φ : Nat → Nat → Prop} {tab : List (Nat × Ty)} {L : Lf} {P : Program}
def okU (e : List (Nat × V)) (op : Op) : Bool := op.operands.toList.all fun x => match ev e x with
 | .u => false
 | _ => true
theorem qiT {e e' : List (Nat × V)} (h : ELe e e') {t : Nat} {want b : Bool} (hq : gate L e t want = some b) : gate L e' t want = some b := by
 unfold gate at *
 rcases h t with h | h
 · rw [h] at hq; simp at hq
 rw [h]; exact hq
theorem qmJ {o o' : List (Nat × O)} (h : OLe o o') : ∀ {ids : List Nat} {obs}, handObs o ids = some obs → handObs o' ids = some obs
 | [], _, hq => hq
 | i :: r, obs, hq => by
  simp only [handObs] at hq ⊢
  split at hq
  · simp at hq
  rename_i q hr
  rw [qmJ h hr]
  rcases h.1 i with hd | hd
  · rw [hd] at hq; simp at hq
  try simp only
  rw [hd]; exact hq
theorem qLK {nx : Nat} {o o' : List (Nat × O)} (h : OLe o o') {ids : List Nat} : ∀ {os : List (Nat × O)}, keysB nx o ids os = true → keysB nx o' ids os = true
 | [], _ => rfl
 | (k, x) :: r, hq => by
  simp only [keysB] at hq ⊢
  split at hq
  · exact qLK h hq
  split at hq
  · rename_i hf; rw [qUG h hf]; exact qLK h hq
  simp at hq
theorem qSO {e e' : List (Nat × V)} : ∀ {xs : List Operand}, (∀ x ∈ xs, ev e' x = ev e x) → evs e' xs = evs e xs
 | [], _ => rfl
 | x :: r, h => by
  simp only [evs]
  rw [h x (by simp), qSO (fun y hy => h y (by simp [hy]))]
theorem qNS (h : SLe σ σ') {op : Op} {ids : List Nat} {v : V} {os : List (Nat × O)} (hs : Same σ.env σ'.env op) {r} (hq : stepH P σ op ids v os = some r) : stepH P σ' op ids v os = some r := by
 unfold stepH at *
 rw [qSO (e := σ.env) (fun x hx => hs x (Array.mem_toList_iff.1 hx))]
 split at hq
 ·
  rename_i h1 h2 h3
  rw [qmJ h.objs h1, h.nx, qLK h.objs h2, h3]
  exact hq
 simp at hq
theorem qnH (h : SLe σ σ') {op : Op} {id : Nat} {sup : Option Sup} (hs : Same σ.env σ'.env op) {r} (hq : stepW P L tab σ id op sup = some r) : stepW P L tab σ' id op sup = some r := by
 unfold stepW at *
 split at hq
 · exact qNS h hs hq
 split at hq
 ·
  split at hq
  ·
   rename_i h1
   rw [qJS h hs h1]; exact hq
  simp at hq
 ·
  split at hq
  ·
   rename_i hf
   rw [h.nx, qUG h.objs hf]
   exact qKS h hs hq
  simp at hq
 ·
  split at hq
  ·
   rename_i h1
   rw [qLS h hs h1]; exact hq
  simp at hq
 split at hq
 ·
  rename_i c
  split at hq
  ·
   rename_i ps v objs hc
   obtain ⟨δ, hδ⟩ := qfL hc
   subst hδ
   rw [qHK] at hq
   try simp only
   rw [qMS h hs hc]
   try simp only
   rw [qHK]
   exact hq
  simp at hq
 simp at hq
theorem qTO {e e' : List (Nat × V)} (h : ELe e e') {op : Op} (hk : okU e op = true) : Same e e' op := by
 intro x hx
 have := List.all_eq_true.1 hk x (Array.mem_toList_iff.2 hx)
 refine (ev_le h x).resolve_left fun hu => ?_
 rw [hu] at this
 simp at this
theorem qUO {o o' : List (Nat × O)} (h : OLe o o') {b : Bool} : ∀ {os : List (Nat × O)} {q}, condO L b o os = some q → condO L b o' os = some q
 | [], _, hq => hq
 | (id, x) :: r, q, hq => by
  simp only [condO] at hq ⊢
  split at hq
  ·
   rename_i ps1 os1 e cs e' cs0 h1 hlk
   rcases h.1 id with hd | hd
   · rw [hd] at hlk; simp at hlk
   rw [qUO h h1, hd, hlk]
   exact hq
  simp at hq
theorem qIQ (h : SLe σ σ') {o : Oper} {id : Nat} {b : Bool} {sup : Option Sup} (hs : Same σ.env σ'.env o.op) {r} (hq : stepGd P L tab σ id o b sup = some r) : stepGd P L tab σ' id o b sup = some r := by
 unfold stepGd at *
 split at hq
 · exact hq
 ·
  split at hq
  ·
   rename_i hw
   simp only [qnH h hs hw]
   exact hq
  simp at hq
 ·
  split at hq
  ·
   rename_i hw
   simp only [qnH h hs hw]
   exact hq
  simp at hq
 rename_i n1 n2 n3
 split at hq
 ·
  rename_i hw
  split at hq
  ·
   rename_i hco
   simp only [qnH h hs hw, qUO h.objs hco]
   exact hq
  simp at hq
 simp at hq
theorem qOS (h : SLe σ σ') {ops : List Oper} {o : Oper} {id : Nat} {sup : Option Sup} (hk : okU σ.env o.op = true) {r} (hq : stepO P L tab σ id ops o sup = some r) : stepO P L tab σ' id ops o sup = some r := by
 have hs := qTO h.env hk
 unfold stepO at *
 rw [h.n]
 split at hq
 ·
  rename_i h1 h2
  try simp only [h1, h2]
  split at hq
  · exact qnH h hs hq
  split at hq
  · simp at hq
  rename_i hog
  try simp only [hog]
  split at hq
  · simp at hq
  rename_i hd
  try simp only [hd]
  split at hq
  · simp at hq
  rename_i hg
  rw [qiT h.env hg]
  try simp only
  exact qIQ h hs hq
 simp at hq
theorem qOH {e e' : List (Nat × V)} (h : ELe e e') {id ver : Nat} {i : Int} : ∀ {cs : List T} {j : Nat} {ls : List (Nat × Nat)} {r}, linkCells e id ver i j cs ls = some r → linkCells e' id ver i j cs ls = some r
 | [], j, ls, r, hq => hq
 | c :: cs, j, ls, r, hq => by
  simp only [linkCells] at hq ⊢
  split at hq
  · simp at hq
  rename_i ps vs hrec
  rw [qOH h hrec]
  try simp only
  cases c with
  | jk =>
   simp only at hq ⊢
   rcases h (look 0 ls j) with hu | he
   · rw [hu] at hq; simp at hq
   rw [he]; exact hq
  | _ => exact hq
theorem qPS (h : SLe σ σ') {o : Oper} {es : List T} {ls : List (Nat × Nat)} (hk : okU σ.env o.op = true) {r} (hq : stepK L tab σ o es ls = some r) : stepK L tab σ' o es ls = some r := by
 have hs := qTO h.env hk
 unfold stepK at *
 rw [h.n]
 split at hq
 ·
  rename_i h1 h2 h3
  try simp only [h1, h2, h3]
  split at hq
  ·
   rename_i t x hop
   try simp only [hop]
   rw [hs x (by rw [hop]; simp [Op.operands])]
   split at hq
   ·
    rename_i ty px id i j hty hxs
    try simp only [hty, hxs]
    split at hq
    ·
     rename_i ver e sz rows ho
     have hl : look .dead σ'.objs id = look .dead σ.objs id := qWN h.objs (by rw [ho]; simp)
     rw [hl, ho]
     try simp only
     split at hq
     ·
      rename_i qs cs hle hcs
      simp only [hle, qOH h.env hcs]
      exact hq
     simp at hq
    simp at hq
   simp at hq
  simp at hq
 simp at hq
theorem qQS (h : SLe σ σ') {ops : List Oper} {o : Oper} {id : Nat} {sup : Option Sup} (hk : okU σ.env o.op = true) {r} (hq : stepR P L tab σ id ops o sup = some r) : stepR P L tab σ' id ops o sup = some r := by
 unfold stepR at *
 split at hq
 · exact qPS h hk hq
 exact qOS h hk hq
structure Ent where
 d : Option Nat
 ps : List Prop
 v : V
 os : List (Nat × O)
def Ent.env (en : Ent) : List (Nat × V) := match en.d with
 | some d => [(d, en.v)]
 | none => []
def cut {α : Type} (f : Ent → List (Nat × α)) (X : Nat → Bool) : Nat → List Ent → List (Nat × α)
 | _, [] => []
 | i, en :: r => cut f X (i + 1) r ++ (match X i with | true => f en | false => [])
def St.cut (σ : St) (X : Nat → Bool) (ents : List Ent) : St :=
 ⟨σ.n, σ.nx, Go.Proofs.YtcpekllcbimpmaaGreatDoor.L.cut Ent.env X 0 ents ++ σ.env, Go.Proofs.YtcpekllcbimpmaaGreatDoor.L.cut Ent.os X 0 ents ++ σ.objs⟩
def maskE (en : Ent) : List (Nat × V) := match en.d with
 | some d => [(d, .u)]
 | none => []
def deadK : List (Nat × O) → List (Nat × O)
 | [] => []
 | (k, _) :: r => (k, .dead) :: deadK r
def maskO (en : Ent) : List (Nat × O) := deadK en.os
def St.mask (σ : St) (X U : Nat → Bool) (ents : List Ent) : St :=
 ⟨σ.n, σ.nx, Go.Proofs.YtcpekllcbimpmaaGreatDoor.L.cut maskE U 0 ents ++ (Go.Proofs.YtcpekllcbimpmaaGreatDoor.L.cut Ent.env X 0 ents ++ σ.env), Go.Proofs.YtcpekllcbimpmaaGreatDoor.L.cut maskO U 0 ents ++ (Go.Proofs.YtcpekllcbimpmaaGreatDoor.L.cut Ent.os X 0 ents ++ σ.objs)⟩
theorem qND {α : Type} (d : α) (f : Ent → List (Nat × α)) {X Y : Nat → Bool} {t : Nat} : ∀ (i : Nat) (ents : List Ent), (∀ k en, ents[k]? = some en → hasKey (f en) t = true → X (i + k) = Y (i + k)) → look d (cut f X i ents) t = look d (cut f Y i ents) t ∧ hasKey (cut f X i ents) t = hasKey (cut f Y i ents) t
 | i, [], _ => ⟨rfl, rfl⟩
 | i, en :: r, h => by
  obtain ⟨h1, h2⟩ := qND d f (X := X) (Y := Y) (t := t) (i + 1) r (fun k e hk ht => by have := h (k + 1) e (by simpa using hk) ht; rwa [show i + (k + 1) = i + 1 + k by omega] at this)
  have hh : ∀ (l l' : List (Nat × α)), hasKey (l ++ l') t = (hasKey l t || hasKey l' t) := fun l l' => by
   rw [Bool.eq_iff_iff, qZC, Bool.or_eq_true]
  simp only [cut, qj, hh, h1, h2]
  cases hk : hasKey (f en) t with
  | true =>
   have := h 0 en rfl hk
   rw [Nat.add_zero] at this
   rw [this]
   exact ⟨rfl, rfl⟩
  | false =>
   have hn : ∀ b : Bool, look d (match b with | true => f en | false => []) t = d ∧ hasKey (match b with | true => f en | false => []) t = false := by
    intro b
    cases b with
    | false => exact ⟨rfl, rfl⟩
    | true =>
     refine ⟨?_, hk⟩
     have : ∀ l : List (Nat × α), hasKey l t = false → look d l t = d := by
      intro l
      induction l with
      | nil => intro _; rfl
      | cons p l ih =>
       obtain ⟨k, x⟩ := p
       intro hl
       rw [qL]
       have h1 : ¬ (t = k ∨ hasKey l t = true) := fun hx => by rw [(qY k x l t).2 hx] at hl; simp at hl
       rw [if_neg (fun e => h1 (.inl e))]
       exact ih (by cases hl' : hasKey l t with | false => rfl | true => exact absurd (.inr hl') h1)
     exact this _ hk
   rw [(hn (X i)).1, (hn (X i)).2, (hn (Y i)).1, (hn (Y i)).2]
   exact ⟨rfl, rfl⟩
theorem qkL {α : Type} (d : α) {t : Nat} : ∀ l : List (Nat × α), hasKey l t = false → look d l t = d
 | [], _ => rfl
 | (k, x) :: l, hl => by
  rw [qL]
  have h1 : ¬ (t = k ∨ hasKey l t = true) := fun hx => by rw [(qY k x l t).2 hx] at hl; simp at hl
  rw [if_neg (fun e => h1 (.inl e))]
  exact qkL d l (by cases hl' : hasKey l t with | false => rfl | true => exact absurd (.inr hl') h1)
theorem qJC {α : Type} (l l' : List (Nat × α)) (t : Nat) : hasKey (l ++ l') t = (hasKey l t || hasKey l' t) := by
 rw [Bool.eq_iff_iff, qZC, Bool.or_eq_true]
theorem qZN {α : Type} (d : α) (f : Ent → List (Nat × α)) {X : Nat → Bool} {m : Nat} {em : Ent} {t : Nat} (hm : X m = false) : ∀ (i : Nat) (ents : List Ent), i ≤ m → ents[m - i]? = some em → (∀ k en, ents[k]? = some en → m < i + k → X (i + k) = true → hasKey (f en) t = true → hasKey (f em) t = false) →
  look d (cut f (fun k => k == m || X k) i ents) t = (if hasKey (f em) t = true then look d (f em) t else look d (cut f X i ents) t) ∧ hasKey (cut f (fun k => k == m || X k) i ents) t = (hasKey (f em) t || hasKey (cut f X i ents) t)
 | i, [], _, h, _ => by simp at h
 | i, en :: r, hi, hem, h => by
  by_cases e : i = m
  ·
   subst e
   rw [Nat.sub_self] at hem
   simp only [List.getElem?_cons_zero, Option.some.injEq] at hem
   subst hem
   obtain ⟨h1, h2⟩ := qND d f (X := fun k => k == i || X k) (Y := X) (t := t) (i + 1) r (fun k e _ _ => by
    have : (i + 1 + k == i) = false := by rw [beq_eq_false_iff_ne]; omega
    simp [this])
   simp only [cut, qj, qJC, h1, h2, hm, BEq.rfl, Bool.true_or]
   have hk2 : hasKey (f en) t = true → hasKey (cut f X (i + 1) r) t = false := by
    intro hk
    have : ∀ (j : Nat) (r : List Ent), (∀ k e, r[k]? = some e → X (j + k) = true → hasKey (f e) t = false) → hasKey (cut f X j r) t = false := by
     intro j r
     induction r generalizing j with
     | nil => intro _; rfl
     | cons e r ih =>
      intro hr
      simp only [cut, qJC]
      rw [ih (j + 1) (fun k e' hk' hx => hr (k + 1) e' (by simpa using hk') (by rw [show j + (k + 1) = j + 1 + k by omega]; exact hx))]
      cases hx : X j with
      | false => rfl
      | true => simpa using hr 0 e rfl hx
    refine this _ _ fun k e hk' hx => ?_
    cases hke : hasKey (f e) t with
    | false => rfl
    | true =>
     have := h (k + 1) e (by simpa using hk') (by omega) (by rw [show i + (k + 1) = i + 1 + k by omega]; exact hx) hke
     rw [this] at hk
     simp at hk
   cases hk : hasKey (f en) t with
   | true => simp [hk2 hk]
   | false =>
    rw [qkL d _ hk]
    have : hasKey ([] : List (Nat × α)) t = false := rfl
    have h0 : look d ([] : List (Nat × α)) t = d := rfl
    simp [this, h0]
  have hi' : i + 1 ≤ m := by omega
  obtain ⟨h1, h2⟩ := qZN d f (t := t) hm (i + 1) r hi' (by rw [show m - i = (m - (i + 1)) + 1 by omega] at hem; simpa using hem) (fun k e hk hlt hx hke => h (k + 1) e (by simpa using hk) (by omega) (by rw [show i + (k + 1) = i + 1 + k by omega]; exact hx) hke)
  have hb : (i == m) = false := by simp [e]
  simp only [cut, qj, qJC, h1, h2, hb, Bool.false_or]
  cases hasKey (f em) t <;> simp
end Go.Proofs.YtcpekllcbimpmaaGreatDoor.L
namespace Go.Proofs.YtcpekllcbimpmaaGreatDoor.L
set_option linter.unusedVariables false
set_option linter.unusedSimpArgs false
open Go
variable {F : Fr} {σ σ' : St} {a : Act} {w : World} {S : Nat → Prop} {G : Gh} {φ : Nat → Nat → Prop} {tab : List (Nat × Ty)} {L : Lf} {P : Program}
def bindsB (e : Edge) : Bool := match e.ground with
 | .textOnly _ => false
 | .gcOnly _ => false
 | _ => true
theorem qlL (e : Edge) : Region.binds .any e = bindsB e := by
 unfold Region.binds bindsB
 cases e.ground <;> rfl
def nthD : List Nat → Nat → Nat
 | [], _ => 0
 | x :: _, 0 => x
 | _ :: r, n + 1 => nthD r n
def maskOf (pm : List Nat) : List Edge → Nat
 | [] => 0
 | e :: r => match bindsB e with
  | true => (2 ^ e.on) ||| nthD pm e.on ||| maskOf pm r
  | false => maskOf pm r
def clos : List Nat → List Oper → List Nat
 | acc, [] => acc
 | acc, o :: r => clos (acc ++ [maskOf acc o.after.toList]) r
def edgesB (i : Nat) : List Edge → Bool
 | [] => true
 | e :: r => match bindsB e, nl (e.on + 1) i with
  | true, false => false
  | _, _ => edgesB i r
def certB (pm : List Nat) : Nat → List Oper → Bool
 | _, [] => true
 | i, o :: r => match nq (nthD pm i) (maskOf pm o.after.toList), edgesB i o.after.toList with
  | true, true => certB pm (i + 1) r
  | _, _ => false
def apartB (pm : List Nat) (i j : Nat) : Bool :=
 match nq i j, Nat.testBit (nthD pm i) j, Nat.testBit (nthD pm j) i with
 | false, false, false => true
 | _, _, _ => false
def disjB {α β : Type} : List (Nat × α) → List (Nat × β) → Bool
 | [], _ => true
 | (k, _) :: r, l => match hasKey l k with
  | true => false
  | false => disjB r l
def pairRow (pm : List Nat) (i : Nat) (en : Ent) : Nat → List Ent → Bool
 | _, [] => true
 | j, e :: r => match apartB pm i j with
  | false => pairRow pm i en (j + 1) r
  | true => match disjB en.env e.env, disjB en.os e.os with
   | true, true => pairRow pm i en (j + 1) r
   | _, _ => false
def pairsB (pm : List Nat) (all : List Ent) : Nat → List Ent → Bool
 | _, [] => true
 | i, e :: r => match pairRow pm i e 0 all with
  | true => pairsB pm all (i + 1) r
  | false => false
def collect (P : Program) (L : Lf) (tab : List (Nat × Ty)) (ops : List Oper) (sups : List (Nat × Sup)) : Nat → List Oper → St → Option (List Ent)
 | _, [], _ => some []
 | i, o :: r, σ => match stepR P L tab σ (σ.nx + i) ops o (supOf sups i) with
  | none => none
  | some (ps, v, os) => match collect P L tab ops sups (i + 1) r (σ.upd o.dst v os) with
   | some l => some (⟨o.dst, ps, v, os⟩ :: l)
   | none => none
def maskAt (σ : St) (pm : List Nat) (ents : List Ent) (i : Nat) : St :=
 σ.mask (fun j => Nat.testBit (nthD pm i) j) (fun j => apartB pm i j) ents
def stepAt (P : Program) (L : Lf) (tab : List (Nat × Ty)) (ops : List Oper) (sups : List (Nat × Sup)) (σ : St) (pm : List Nat) (ents : List Ent) (i : Nat) (o : Oper) : Option Ent :=
 match okU (maskAt σ pm ents i).env o.op with
 | false => none
 | true => match stepR P L tab (maskAt σ pm ents i) (σ.nx + i) ops o (supOf sups i) with
  | none => none
  | some (ps, v, os) => some ⟨o.dst, ps, v, os⟩
def stepsAt (P : Program) (L : Lf) (tab : List (Nat × Ty)) (ops : List Oper) (sups : List (Nat × Sup)) (σ : St) (pm : List Nat) (ents : List Ent) : Nat → List Oper → List (Option Ent)
 | _, [] => []
 | i, o :: r => stepAt P L tab ops sups σ pm ents i o :: stepsAt P L tab ops sups σ pm ents (i + 1) r
def somes : List Ent → List (Option Ent)
 | [] => []
 | e :: r => some e :: somes r
def allPs : List Ent → List Prop
 | [] => []
 | e :: r => e.ps ++ allPs r
def finE {α : Type} (f : Ent → List (Nat × α)) : List Ent → List (Nat × α) → List (Nat × α)
 | [], l => l
 | e :: r, l => finE f r (f e ++ l)
def St.fin (σ : St) (ents : List Ent) : St := ⟨σ.n, σ.nx + 4096, finE Ent.env ents σ.env, finE Ent.os ents σ.objs⟩
theorem qYF {pm : List Nat} : ∀ {es : List Edge} {b : Nat}, Nat.testBit (maskOf pm es) b = true → ∃ e ∈ es, bindsB e = true ∧ (b = e.on ∨ Nat.testBit (nthD pm e.on) b = true)
 | [], b, h => by simp [maskOf] at h
 | e :: r, b, h => by
  simp only [maskOf] at h
  split at h
  ·
   rename_i hb
   simp only [Nat.testBit_or, Bool.or_eq_true, Nat.testBit_two_pow, decide_eq_true_eq] at h
   rcases h with (h | h) | h
   · exact ⟨e, by simp, hb, .inl h.symm⟩
   · exact ⟨e, by simp, hb, .inr h⟩
   obtain ⟨e', h1, h2⟩ := qYF h
   exact ⟨e', by simp [h1], h2⟩
  obtain ⟨e', h1, h2⟩ := qYF h
  exact ⟨e', by simp [h1], h2⟩
theorem qNI {i : Nat} : ∀ {es : List Edge}, edgesB i es = true → ∀ e ∈ es, bindsB e = true → e.on < i
 | [], _, e, h, _ => by simp at h
 | e0 :: r, hb, e, h, hbe => by
  simp only [edgesB] at hb
  split at hb
  · simp at hb
  rename_i hne
  rcases List.mem_cons.1 h with rfl | h
  ·
   cases hx : nl (e.on + 1) i with
   | true => exact nl_le hx
   | false => exact (hne hbe hx).elim
  exact qNI hb e h hbe
theorem qoH {pm : List Nat} : ∀ {i : Nat} {l : List Oper}, certB pm i l = true → ∀ k o, l[k]? = some o → nthD pm (i + k) = maskOf pm o.after.toList ∧ edgesB (i + k) o.after.toList = true
 | i, [], _, k, o, h => by simp at h
 | i, o0 :: r, hc, k, o, h => by
  simp only [certB] at hc
  split at hc
  ·
   rename_i h1 h2
   cases k with
   | zero =>
    simp only [List.getElem?_cons_zero, Option.some.injEq] at h
    subst h
    exact ⟨nq_eq h1, h2⟩
   | succ k =>
    have := qoH hc k o (by simpa using h)
    rwa [show i + 1 + k = i + (k + 1) by omega] at this
  simp at hc
theorem qMK {α β : Type} : ∀ {l : List (Nat × α)} {l' : List (Nat × β)}, disjB l l' = true → ∀ t, hasKey l t = true → hasKey l' t = false
 | [], l', _, t, h => by simp [hasKey] at h
 | (k, x) :: r, l', hd, t, h => by
  simp only [disjB] at hd
  split at hd
  · simp at hd
  rename_i hk
  rcases (qY k x r t).1 h with rfl | h
  · exact hk
  exact qMK hd t h
theorem qnJ {pm : List Nat} {i : Nat} {en : Ent} : ∀ {j : Nat} {l : List Ent}, pairRow pm i en j l = true → ∀ k e, l[k]? = some e → apartB pm i (j + k) = true → disjB en.env e.env = true ∧ disjB en.os e.os = true
 | j, [], _, k, e, h, _ => by simp at h
 | j, e0 :: r, hp, k, e, h, ha => by
  simp only [pairRow] at hp
  have rest : pairRow pm i en (j + 1) r = true → ∀ k e, r[k]? = some e → apartB pm i (j + 1 + k) = true → disjB en.env e.env = true ∧ disjB en.os e.os = true := fun h => qnJ h
  cases k with
  | zero =>
   simp only [List.getElem?_cons_zero, Option.some.injEq] at h
   subst h
   rw [Nat.add_zero] at ha
   rw [ha] at hp
   simp only at hp
   split at hp
   · rename_i h1 h2; exact ⟨h1, h2⟩
   simp at hp
  | succ k =>
   have hr : pairRow pm i en (j + 1) r = true := by
    split at hp
    · exact hp
    split at hp
    · exact hp
    simp at hp
   exact rest hr k e (by simpa using h) (by rwa [show j + 1 + k = j + (k + 1) by omega])
theorem qmL {pm : List Nat} {all : List Ent} : ∀ {i : Nat} {l : List Ent}, pairsB pm all i l = true → ∀ k e, l[k]? = some e → pairRow pm (i + k) e 0 all = true
 | i, [], _, k, e, h => by simp at h
 | i, e0 :: r, hp, k, e, h => by
  simp only [pairsB] at hp
  split at hp
  ·
   rename_i h1
   cases k with
   | zero =>
    simp only [List.getElem?_cons_zero, Option.some.injEq] at h
    subst h
    exact h1
   | succ k =>
    have := qmL hp k e (by simpa using h)
    rwa [show i + 1 + k = i + (k + 1) by omega] at this
  simp at hp
theorem qZF {ops : List Oper} {sups : List (Nat × Sup)} {pm : List Nat} {ents : List Ent} : ∀ {i : Nat} {l : List Oper} {r : List Ent}, stepsAt P L tab ops sups σ pm ents i l = somes r → (∀ k o, l[k]? = some o → ∃ e, r[k]? = some e ∧ stepAt P L tab ops sups σ pm ents (i + k) o = some e) ∧ r.length = l.length
 | i, [], [], _ => ⟨fun k o h => by simp at h, rfl⟩
 | i, [], _ :: _, h => by simp [stepsAt, somes] at h
 | i, _ :: _, [], h => by simp [stepsAt, somes] at h
 | i, o0 :: l, e0 :: r, h => by
  simp only [stepsAt, somes, List.cons.injEq] at h
  obtain ⟨h1, h2⟩ := qZF h.2
  refine ⟨fun k o hk => ?_, by simp [h2]⟩
  cases k with
  | zero =>
   simp only [List.getElem?_cons_zero, Option.some.injEq] at hk
   subst hk
   exact ⟨e0, rfl, h.1⟩
  | succ k =>
   obtain ⟨e, h3, h4⟩ := h1 k o (by simpa using hk)
   exact ⟨e, by simpa using h3, by rwa [show i + 1 + k = i + (k + 1) by omega] at h4⟩
theorem qVO : ∀ {l : List Ent}, AllP (allPs l) → ∀ (k : Nat) e, l[k]? = some e → AllP e.ps
 | [], _, k, e, h => by simp at h
 | e0 :: r, hp, k, e, h => by
  simp only [allPs] at hp
  rw [qI] at hp
  cases k with
  | zero =>
   simp only [List.getElem?_cons_zero, Option.some.injEq] at h
   subst h
   exact hp.1
  | succ k => exact qVO hp.2 k e (by simpa using h)
theorem qaN {α : Type} (f : Ent → List (Nat × α)) : ∀ (i : Nat) (ents : List Ent) (l : List (Nat × α)), finE f ents l = cut f (fun _ => true) i ents ++ l
 | _, [], l => rfl
 | i, e :: r, l => by
  simp only [finE, cut]
  rw [qaN f (i + 1) r]
  simp
theorem qnL : ∀ (U : Nat → Bool) (i : Nat) (ents : List Ent) (t : Nat), look V.u (cut maskE U i ents) t = .u
 | U, i, [], t => rfl
 | U, i, e :: r, t => by
  simp only [cut, qj]
  rw [qnL U (i + 1) r t]
  cases U i with
  | false => simp [look]
  | true =>
   have : look V.u (maskE e) t = .u := by
    unfold maskE
    split
    · rw [qL]; simp [look]
    rfl
   simp [this]
theorem qoJ : ∀ (l : List (Nat × O)) (t : Nat), look O.dead (deadK l) t = .dead
 | [], t => rfl
 | (k, _) :: r, t => by simp only [deadK]; rw [qL, qoJ r t]; simp
theorem qtE : ∀ (l : List (Nat × O)) (t : Nat), hasKey (deadK l) t = hasKey l t
 | [], t => rfl
 | (k, _) :: r, t => by simp only [deadK, hasKey, qtE r t]
theorem qpJ : ∀ (U : Nat → Bool) (i : Nat) (ents : List Ent) (t : Nat), look O.dead (cut maskO U i ents) t = .dead
 | U, i, [], t => rfl
 | U, i, e :: r, t => by
  simp only [cut, qj]
  rw [qpJ U (i + 1) r t]
  cases U i with
  | false => simp [look]
  | true => simp [maskO, qoJ]
theorem qaF {α β : Type} {f : Ent → List (Nat × α)} {g : Ent → List (Nat × β)} {t : Nat} (hfg : ∀ e, hasKey (g e) t = hasKey (f e) t) {U : Nat → Bool} : ∀ (i : Nat) (ents : List Ent), hasKey (cut g U i ents) t = false → ∀ k e, ents[k]? = some e → U (i + k) = true → hasKey (f e) t = false
 | i, [], _, k, e, h, _ => by simp at h
 | i, e0 :: r, hh, k, e, h, hu => by
  simp only [cut, qJC, Bool.or_eq_false_iff] at hh
  cases k with
  | zero =>
   simp only [List.getElem?_cons_zero, Option.some.injEq] at h
   subst h
   rw [Nat.add_zero] at hu
   rw [hu] at hh
   rw [← hfg]
   exact hh.2
  | succ k => exact qaF hfg (i + 1) r hh.1 k e (by simpa using h) (by rwa [show i + 1 + k = i + (k + 1) by omega])
theorem qoL (e : Ent) (t : Nat) : hasKey (maskE e) t = hasKey e.env t := by
 unfold maskE Ent.env
 split <;> rfl
theorem Rel.congr (h : Rel F σ a w) (hn : σ'.n = σ.n) (hx : σ'.nx = σ.nx) (he : ∀ t, look .u σ'.env t = look .u σ.env t) (ho : ∀ i, look .dead σ'.objs i = look .dead σ.objs i) (hk : ∀ i, hasKey σ.objs i = true → hasKey σ'.objs i = true) : Rel F σ' a w := by
 obtain ⟨K, hK, S, G, φ, h⟩ := h
 exact ⟨K, hK, S, G, φ, fun i hi => by rw [hx]; exact (h.nx i hi).imp id (hk i), fun i v x hv => ⟨(h.kd i v x hv).1, fun ver e sz rows hr => (h.kd i v x hv).2 ver e sz rows (by rw [← ho]; exact hr)⟩, by rw [hn]; exact h.n, h.KS, h.Slt, fun t => by rw [he]; exact h.env t, fun i => by rw [ho]; exact h.obj i, h.dj, h.own, h.kept, h.defs, h.anc⟩
end Go.Proofs.YtcpekllcbimpmaaGreatDoor.L
namespace Go.Proofs.YtcpekllcbimpmaaGreatDoor.L
set_option linter.unusedVariables false
set_option linter.unusedSimpArgs false
open Go
variable {F : Fr} {σ σ' : St} {a : Act} {w : World} {tab : List (Nat × Ty)} {P : Program}
structure Drawn (P : Program) (tab : List (Nat × Ty)) (ops : List Oper) (sups : List (Nat × Sup)) (σ : St) (pm : List Nat) (ents : List Ent) : Prop where
 cert : certB pm 0 ops = true
 pairs : pairsB pm ents 0 ents = true
 steps : stepsAt P Ls tab ops sups σ pm ents 0 ops = somes ents
 ps : AllP (allPs ents)
variable {ops : List Oper} {sups : List (Nat × Sup)} {pm : List Nat} {ents : List Ent}
theorem Drawn.lt (h : Drawn P tab ops sups σ pm ents) : ∀ (i : Nat) o, ops[i]? = some o → ∀ b, Nat.testBit (nthD pm i) b = true → b < i := by
 intro i
 induction i using Nat.strongRecOn with
 | _ i ih =>
  intro o ho b hb
  obtain ⟨h1, h2⟩ := qoH h.cert i o ho
  rw [Nat.zero_add] at h1 h2
  rw [h1] at hb
  obtain ⟨e, he, hbe, hor⟩ := qYF hb
  have hlt := qNI h2 e he hbe
  rcases hor with rfl | hor
  · exact hlt
  have hlen : e.on < ops.length := Nat.lt_trans hlt (List.getElem?_eq_some_iff.1 ho).1
  have := ih e.on hlt ops[e.on] (List.getElem?_eq_getElem hlen) b hor
  omega
def Closed (pm : List Nat) (X : Nat → Bool) : Prop := ∀ j, X j = true → ∀ p, Nat.testBit (nthD pm j) p = true → X p = true
theorem qpL {i j : Nat} (h1 : i ≠ j) (h2 : Nat.testBit (nthD pm i) j = false) (h3 : Nat.testBit (nthD pm j) i = false) : apartB pm i j = true := by
 unfold apartB
 have : nq i j = false := by
  cases hq : nq i j with
  | false => rfl
  | true => exact absurd (nq_eq hq) h1
 rw [this, h2, h3]
theorem qjT (h : Drawn P tab ops sups σ pm ents) {X : Nat → Bool} {i : Nat} {o : Oper} (ho : ops[i]? = some o) (hX : X i = false) (hc : Closed pm X) (hP : ∀ p, Nat.testBit (nthD pm i) p = true → X p = true) : SLe (maskAt σ pm ents i) (σ.cut X ents) := by
 have hlen := (qZF h.steps).2
 have agree : ∀ {f : Ent → List (Nat × V)} {α : Type} {g : Ent → List (Nat × α)} (t : Nat), (∀ k e, ents[k]? = some e → apartB pm i (0 + k) = true → hasKey (g e) t = false) → ∀ k e, ents[k]? = some e → hasKey (g e) t = true → Nat.testBit (nthD pm i) (0 + k) = X (0 + k) := by
  intro f α g t hU k e hk ht
  rw [Nat.zero_add]
  have hlt : k < ops.length := by rw [← hlen]; exact (List.getElem?_eq_some_iff.1 hk).1
  by_cases hki : k = i
  ·
   subst hki
   rw [hX]
   cases hb : Nat.testBit (nthD pm k) k with
   | false => rfl
   | true => exact absurd (h.lt k o ho k hb) (Nat.lt_irrefl _)
  cases h2 : Nat.testBit (nthD pm i) k with
  | true => exact (hP k h2).symm
  | false =>
   cases h3 : Nat.testBit (nthD pm k) i with
   | false =>
    have := hU k e hk (by rw [Nat.zero_add]; exact qpL (fun e => hki e.symm) h2 h3)
    rw [this] at ht
    simp at ht
   | true =>
    cases hx : X k with
    | false => rfl
    | true => have := hc k hx i h3; rw [hX] at this; simp at this
 refine ⟨rfl, rfl, fun t => ?_, fun t => ?_, fun t ht => ?_⟩
 ·
  show look .u (cut maskE _ 0 ents ++ _) t = .u ∨ look .u (cut Ent.env X 0 ents ++ σ.env) t = look .u (cut maskE _ 0 ents ++ _) t
  rw [qj (l := cut maskE _ 0 ents)]
  cases hk : hasKey (cut maskE (fun j => apartB pm i j) 0 ents) t with
  | true => exact .inl (by simp [qnL])
  | false =>
   refine .inr ?_
   have hU := qaF (f := Ent.env) (fun e => qoL e t) 0 ents hk
   have := qND V.u Ent.env (X := fun j => Nat.testBit (nthD pm i) j) (Y := X) (t := t) 0 ents (agree (f := Ent.env) t hU)
   simp only [qj, this.1, this.2, Bool.false_eq_true, if_false]
 ·
  show look .dead (cut maskO _ 0 ents ++ _) t = .dead ∨ look .dead (cut Ent.os X 0 ents ++ σ.objs) t = look .dead (cut maskO _ 0 ents ++ _) t
  rw [qj (l := cut maskO _ 0 ents)]
  cases hk : hasKey (cut maskO (fun j => apartB pm i j) 0 ents) t with
  | true => exact .inl (by simp [qpJ])
  | false =>
   refine .inr ?_
   have hU := qaF (f := Ent.os) (fun e => qtE e.os t) 0 ents hk
   have := qND O.dead Ent.os (X := fun j => Nat.testBit (nthD pm i) j) (Y := X) (t := t) 0 ents (agree (f := Ent.env) t hU)
   simp only [qj, this.1, this.2, Bool.false_eq_true, if_false]
 show hasKey (cut maskO _ 0 ents ++ _) t = true
 have ht : hasKey (cut Ent.os X 0 ents ++ σ.objs) t = true := ht
 rw [qJC] at ht ⊢
 cases hk : hasKey (cut maskO (fun j => apartB pm i j) 0 ents) t with
 | true => simp
 | false =>
  have hU := qaF (f := Ent.os) (fun e => qtE e.os t) 0 ents hk
  have := qND O.dead Ent.os (X := fun j => Nat.testBit (nthD pm i) j) (Y := X) (t := t) 0 ents (agree (f := Ent.env) t hU)
  rw [qJC, this.2]
  simpa using ht
theorem qRS (h : Drawn P tab ops sups σ pm ents) {X : Nat → Bool} {i : Nat} {o : Oper} {en : Ent} (ho : ops[i]? = some o) (hen : ents[i]? = some en) (hX : X i = false) (hc : Closed pm X) {a : Act} {w : World} (hr : Rel F ((σ.cut X ents).upd en.d en.v en.os) a w) : Rel F (σ.cut (fun k => k == i || X k) ents) a w := by
 have hp : ∀ k e, ents[k]? = some e → i < 0 + k → X (0 + k) = true → disjB en.env e.env = true ∧ disjB en.os e.os = true := by
  intro k e hk hlt hx
  rw [Nat.zero_add] at hlt hx
  refine qnJ (by simpa using qmL h.pairs i en hen) k e hk ?_
  rw [Nat.zero_add]
  refine qpL (by omega) ?_ ?_
  ·
   cases hb : Nat.testBit (nthD pm i) k with
   | false => rfl
   | true => exact absurd (h.lt i o ho k hb) (by omega)
  cases hb : Nat.testBit (nthD pm k) i with
  | false => rfl
  | true => have := hc k hx i hb; rw [hX] at this; simp at this
 have flip : ∀ {x y : Bool}, (x = true → y = false) → (y = true → x = false) := by
  intro x y hxy hy
  cases x with
  | false => rfl
  | true => rw [hxy rfl] at hy; simp at hy
 have hE : ∀ t, look V.u (cut Ent.env (fun k => k == i || X k) 0 ents) t = (if hasKey en.env t = true then look .u en.env t else look .u (cut Ent.env X 0 ents) t) ∧ hasKey (cut Ent.env (fun k => k == i || X k) 0 ents) t = (hasKey en.env t || hasKey (cut Ent.env X 0 ents) t) := fun t => qZN V.u Ent.env (t := t) hX 0 ents (Nat.zero_le _) (by simpa using hen) (fun k e hk hlt hx => flip (qMK (hp k e hk hlt hx).1 t))
 have hO : ∀ t, look O.dead (cut Ent.os (fun k => k == i || X k) 0 ents) t = (if hasKey en.os t = true then look .dead en.os t else look .dead (cut Ent.os X 0 ents) t) ∧ hasKey (cut Ent.os (fun k => k == i || X k) 0 ents) t = (hasKey en.os t || hasKey (cut Ent.os X 0 ents) t) := fun t => qZN O.dead Ent.os (t := t) hX 0 ents (Nat.zero_le _) (by simpa using hen) (fun k e hk hlt hx => flip (qMK (hp k e hk hlt hx).2 t))
 have henv : ((σ.cut X ents).upd en.d en.v en.os).env = en.env ++ (cut Ent.env X 0 ents ++ σ.env) := by
  unfold St.upd Ent.env St.cut
  cases en.d <;> rfl
 refine Rel.congr hr rfl rfl (fun t => ?_) (fun t => ?_) (fun t ht => ?_)
 ·
  rw [henv]
  show look .u (cut Ent.env _ 0 ents ++ σ.env) t = _
  rw [qj, (hE t).1, (hE t).2, qj, qj]
  cases hasKey en.env t <;> simp
 ·
  show look .dead (cut Ent.os _ 0 ents ++ σ.objs) t = look .dead (en.os ++ (cut Ent.os X 0 ents ++ σ.objs)) t
  rw [qj, (hO t).1, (hO t).2, qj, qj]
  cases hasKey en.os t <;> simp
 show hasKey (cut Ent.os _ 0 ents ++ σ.objs) t = true
 have ht : hasKey (en.os ++ (cut Ent.os X 0 ents ++ σ.objs)) t = true := ht
 rw [qJC, qJC] at ht
 rw [qJC, (hO t).2, Bool.or_assoc]
 exact ht
def unl (n : Nat) (listed : Array Bool) : Nat := ((List.range n).filter fun k => !listed.getD k false).length
theorem qqL {α : Type} {p q : α → Bool} : ∀ {l : List α}, (∀ x ∈ l, q x = true → p x = true) → (∃ x ∈ l, p x = true ∧ q x = false) → (l.filter q).length < (l.filter p).length
 | [], _, ⟨x, h, _⟩ => by simp at h
 | y :: l, h, ⟨x, hx, h1, h2⟩ => by
  have hle : ∀ {l : List α}, (∀ x ∈ l, q x = true → p x = true) → (l.filter q).length ≤ (l.filter p).length := by
   intro l
   induction l with
   | nil => intro _; simp
   | cons z l ih =>
    intro hz
    have := ih (fun x hx => hz x (List.mem_cons_of_mem _ hx))
    cases hq : q z with
    | true => simp [hq, hz z (by simp) hq]; exact this
    | false => cases hp : p z <;> simp [hq, hp] <;> omega
  rcases List.mem_cons.1 hx with rfl | hx
  ·
   simp only [List.filter_cons, h1, h2, if_true, Bool.false_eq_true, if_false, List.length_cons]
   have := hle (l := l) (fun x hx => h x (List.mem_cons_of_mem _ hx))
   omega
  have ih := qqL (l := l) (fun x hx => h x (List.mem_cons_of_mem _ hx)) ⟨x, hx, h1, h2⟩
  cases hq : q y with
  | true => simp [hq, h y (by simp) hq]; exact ih
  | false => cases hp : p y <;> simp [hq, hp] <;> omega
theorem qSS (ht : TabOk F.P tab) (h : Drawn F.P tab ops sups σ pm ents) {Q : Exit → Act → World → Prop} (hq : ∀ a w, Rel F (σ.cut (fun _ => true) ents) a w → Q .normal a w) :
  ∀ (fuel : Nat) (listed : Array Bool) (a : Act) (w : World), listed.size = ops.length → unl ops.length listed ≤ fuel → Closed pm (fun k => listed.getD k false) → Rel F (σ.cut (fun k => listed.getD k false) ents) a w → wpAny F.P .any ops.toArray Q fuel listed a w := by
 have hlen := (qZF h.steps).2
 have done : ∀ (listed : Array Bool) (a : Act) (w : World), listed.size = ops.length → Rel F (σ.cut (fun k => listed.getD k false) ents) a w → Region.ready .any ops.toArray listed = [] → Q .normal a w := by
  intro listed a w hsz hr hnil
  have all : ∀ k, k < ops.length → listed.getD k false = true := by
   intro k
   induction k using Nat.strongRecOn with
   | _ k ih =>
    intro hk
    cases hl : listed.getD k false with
    | true => rfl
    | false =>
     have : k ∈ Region.ready .any ops.toArray listed := by
      rw [mem_ready]
      refine ⟨?_, ops[k], by simp [hk], fun e he hb => ?_⟩
      ·
       have hk' : k < listed.size := by omega
       simp [Array.getD_eq_getD_getElem?, hk'] at hl ⊢
       exact hl
      rw [qlL] at hb
      have := qNI (qoH h.cert k ops[k] (List.getElem?_eq_getElem hk)).2 e (by simpa using he) hb
      rw [Nat.zero_add] at this
      exact ih e.on this (by omega)
     rw [hnil] at this
     simp at this
  refine hq a w (Rel.congr hr rfl rfl (fun t => ?_) (fun t => ?_) (fun t htt => ?_))
  ·
   have := qND V.u Ent.env (X := fun _ => true) (Y := fun k => listed.getD k false) (t := t) 0 ents (fun k e hk _ => by
    have := (List.getElem?_eq_some_iff.1 hk).1
    rw [Nat.zero_add]; exact (all k (by omega)).symm)
   show look .u (cut Ent.env _ 0 ents ++ σ.env) t = look .u (cut Ent.env _ 0 ents ++ σ.env) t
   rw [qj, qj, this.1, this.2]
  ·
   have := qND O.dead Ent.os (X := fun _ => true) (Y := fun k => listed.getD k false) (t := t) 0 ents (fun k e hk _ => by
    have := (List.getElem?_eq_some_iff.1 hk).1
    rw [Nat.zero_add]; exact (all k (by omega)).symm)
   show look .dead (cut Ent.os _ 0 ents ++ σ.objs) t = look .dead (cut Ent.os _ 0 ents ++ σ.objs) t
   rw [qj, qj, this.1, this.2]
  ·
   have := qND O.dead Ent.os (X := fun _ => true) (Y := fun k => listed.getD k false) (t := t) 0 ents (fun k e hk _ => by
    have := (List.getElem?_eq_some_iff.1 hk).1
    rw [Nat.zero_add]; exact (all k (by omega)).symm)
   show hasKey (cut Ent.os _ 0 ents ++ σ.objs) t = true
   have htt : hasKey (cut Ent.os _ 0 ents ++ σ.objs) t = true := htt
   rw [qJC] at htt ⊢
   rw [this.2]
   exact htt
 intro fuel
 induction fuel with
 | zero =>
  intro listed a w hsz hf hc hr
  have hnil : Region.ready .any ops.toArray listed = [] := by
   refine List.eq_nil_iff_forall_not_mem.2 fun i hi => ?_
   obtain ⟨h0, o, ho, _⟩ := mem_ready.1 hi
   have hi' : i < ops.length := by
    have := (Array.getElem?_eq_some_iff.1 ho).1
    simpa using this
   have : i ∈ (List.range ops.length).filter fun k => !listed.getD k false := by
    refine List.mem_filter.2 ⟨List.mem_range.2 hi', ?_⟩
    have hk' : i < listed.size := by omega
    simp [Array.getD_eq_getD_getElem?, hk'] at h0 ⊢
    exact h0
   unfold unl at hf
   have h1 := List.length_pos_of_mem this
   omega
  exact ⟨hnil, done listed a w hsz hr hnil⟩
 | succ fuel ih =>
  intro listed a w hsz hf hc hr
  refine ⟨done listed a w hsz hr, fun i hi => ?_⟩
  obtain ⟨h0, o, ho, hall⟩ := mem_ready.1 hi
  have ho' : ops[i]? = some o := by simpa using ho
  have hi' : i < ops.length := (List.getElem?_eq_some_iff.1 ho').1
  have hk' : i < listed.size := by omega
  have hXi : listed.getD i false = false := by
   simp [Array.getD_eq_getD_getElem?, hk'] at h0 ⊢
   exact h0
  have hP : ∀ p, Nat.testBit (nthD pm i) p = true → listed.getD p false = true := by
   intro p hp
   obtain ⟨h1, _⟩ := qoH h.cert i o ho'
   rw [Nat.zero_add] at h1
   rw [h1] at hp
   obtain ⟨e, he, hb, hor⟩ := qYF hp
   have := hall e (by simpa using he) (by rw [qlL]; exact hb)
   rcases hor with rfl | hor
   · exact this
   exact hc e.on this p hor
  obtain ⟨en, hen, hst⟩ := (qZF h.steps).1 i o ho'
  rw [Nat.zero_add] at hst
  have hpe := qVO h.ps i en hen
  unfold stepAt at hst
  split at hst
  · simp at hst
  rename_i hok
  split at hst
  · simp at hst
  rename_i ps v os hstep
  simp only [Option.some.injEq] at hst
  subst hst
  have hle := qjT h ho' hXi hc hP
  have hstep' := qQS hle hok hstep
  obtain ⟨K, hK, S, G, φ, hr⟩ := hr
  unfold wpOp
  rw [ho]
  try simp only
  have hset : (fun k => (listed.setIfInBounds i true).getD k false) = fun k => k == i || listed.getD k false := by
   funext k
   by_cases e : k = i
   · subst e; simp [hk']
   rw [getD_set_ne false (fun e' => e e'.symm)]
   have : (k == i) = false := by simp [e]
   rw [this, Bool.false_or]
  have key := qGI (F := F.up K) (next := wpAny F.P .any ops.toArray Q fuel (listed.setIfInBounds i true)) (Q := Q) hr ht hstep' hpe fun K' S' a' w' G' φ' hk h1 => by
   refine ih _ a' w' (by simpa using hsz) ?_ ?_ ?_
   ·
    have : unl ops.length (listed.setIfInBounds i true) < unl ops.length listed := by
     refine qqL (fun k _ hkq => ?_) ⟨i, List.mem_range.2 hi', by simp only [hXi]; rfl, by simp [hk']⟩
     have := congrFun hset k
     try simp only at this
     rw [this] at hkq
     cases hx : listed.getD k false with
     | false => rfl
     | true => rw [hx] at hkq; simp at hkq
    omega
   ·
    rw [hset]
    intro j hj p hp
    rw [Bool.or_eq_true] at hj ⊢
    rcases hj with hj | hj
    ·
     have : j = i := by simpa using hj
     subst this
     exact .inr (hP p hp)
    exact .inr (hc j hj p hp)
   rw [hset]
   exact qRS h ho' hen hXi hc ⟨K', hK.trans hk, S', G', φ', h1⟩
  split
  ·
   rename_i hw
   rw [if_pos hw] at key
   exact .inl key
  rename_i hw
  rw [if_neg hw] at key
  exact key
theorem qNK {α : Type} (f : Ent → List (Nat × α)) : ∀ (i : Nat) (ents : List Ent), cut f (fun _ => false) i ents = []
 | _, [] => rfl
 | i, e :: r => by simp [cut, qNK f (i + 1) r]
theorem Run.draw {L : Lf} (hL : L = Ls) (ht : TabOk F.P tab) (hm : F.P.follows .mixedOrders = true) (sups : List (Nat × Sup)) {id : Nat} {ops : List Oper} {Q : Exit → St → Prop} {pm : List Nat} {ents : List Ent} (_h0 : clos [] ops = pm) (h1 : collect F.P L tab ops sups 0 ops σ = some ents)
  (h2 : certB pm 0 ops = true) (h3 : pairsB pm ents 0 ents = true) (h4 : stepsAt F.P L tab ops sups σ pm ents 0 ops = somes ents) (hp : AllP (allPs ents)) (hq : Q .normal (σ.fin ents)) : Run F σ (.region id ops.toArray true) Q := by
 subst hL
 have hd : Drawn F.P tab ops sups σ pm ents := ⟨h2, h3, h4, hp⟩
 have hfin : ∀ a w, Rel F (σ.cut (fun _ => true) ents) a w → ∃ σ', Q .normal σ' ∧ Rel F σ' a w := by
  intro a w hr
  refine ⟨σ.fin ents, hq, ?_⟩
  have : Rel F (σ.cut (fun _ => true) ents).bump a w := Rel.bump hr
  unfold St.fin
  rw [qaN Ent.env 0, qaN Ent.os 0]
  exact this
 intro a w hr
 refine wp_region_any hm (qSS ht hd hfin _ _ _ _ (by simp) ?_ (fun j hj => ?_) ?_)
 ·
  have : ∀ l : List Nat, (l.filter fun k => !(Array.replicate ops.toArray.size false).getD k false).length ≤ l.length := fun l => List.length_filter_le _ _
  have := this (List.range ops.length)
  simpa [unl] using this
 ·
  exfalso
  simp [Array.getD_eq_getD_getElem?, Array.getElem?_replicate] at hj
  split at hj <;> simp at hj
 ·
  obtain ⟨K, hK, S, G, φ, hr⟩ := hr
  have hX : (fun k => (Array.replicate ops.toArray.size false).getD k false) = fun _ => false := by
   funext k
   simp [Array.getD_eq_getD_getElem?, Array.getElem?_replicate]
   split <;> rfl
  rw [hX]
  have e : σ.cut (fun _ => false) ents = σ := by
   unfold St.cut
   rw [qNK, qNK]
   rfl
  rw [e]
  exact ⟨K, hK, S, G, φ, hr.drew⟩
end Go.Proofs.YtcpekllcbimpmaaGreatDoor.L
namespace Go.Proofs.YtcpekllcbimpmaaGreatDoor.L
set_option linter.unusedVariables false
set_option linter.unusedSimpArgs false
open Go
inductive Sh where
 | b
 | i (k : IntKind)
 | s
 | sl (l : List Sh)
inductive Wf : List Sh → List T → Prop
 | nil : Wf [] []
 | b {x ss ts} (h : Wf ss ts) : Wf (.b :: ss) (.s (.bool x) :: ts)
 | i {k n ss ts} (hn : k.min ≤ n ∧ n ≤ k.max) (h : Wf ss ts) : Wf (.i k :: ss) (.s (.int k n) :: ts)
 | s {x : ByteArray} {ss ts} (hx : x.size ≤ maxLen) (h : Wf ss ts) : Wf (.s :: ss) (.s (.string x) :: ts)
 | sl {l rows ss ts} (hr : ∀ r ∈ rows, Wf l r) (hl : rows.length ≤ maxLen) (h : Wf ss ts) : Wf (.sl l :: ss) (.im true rows :: ts)
theorem Wf.len {ss : List Sh} {ts : List T} (h : Wf ss ts) : ts.length = ss.length := by
 induction h <;> simp_all
theorem Wf.append {a b : List Sh} {x y : List T} (h : Wf a x) (h' : Wf b y) : Wf (a ++ b) (x ++ y) := by
 induction h with
 | nil => exact h'
 | b _ ih => exact .b ih
 | i hn _ ih => exact .i hn ih
 | s hx _ ih => exact .s hx ih
 | sl hr hl _ _ ih => exact .sl hr hl ih
def shFields (P : Program) (f : Nat → Option (List Sh)) : List Field → Nat → Nat → Option (List Sh)
 | [], o, n => match nq o n with
  | true => some []
  | false => none
 | fd :: r, o, n => match f fd.type with
  | some l => match nq fd.offset o, nq (lenN l) (P.cellsOf fd.type) with
   | true, true => match shFields P f r (o + lenN l) n with
    | some m => some (l ++ m)
    | none => none
   | _, _ => none
  | none => none
def shOf (P : Program) : Nat → Nat → Option (List Sh)
 | 0, _ => none
 | d + 1, t => match P.underlying t with
  | some .bool => some [.b]
  | some (.int k) => some [.i k]
  | some .string => some [.s]
  | some (.slice e) => match shOf P d e with
   | some l => match nq (lenN l) (P.cellsOf e), nl 1 (lenN l) with
    | true, true => some [.sl l]
    | _, _ => none
   | none => none
  | some (.struct fs) => shFields P (shOf P d) fs.toList 0 (P.cellsOf t)
  | _ => none
def old (w : World) : Nat → Prop := fun b => b < w.heap.size
variable {H : Type} {enc : TypeId × Value → H} {P : Program} {w : World}
theorem qrL {α β : Type} {g : α → Option β} : ∀ {l : List α} {ys : List β}, l.mapM g = some ys → ∀ x ∈ l, ∃ y, g x = some y
 | [], _, _, x, hx => by simp at hx
 | a :: l, ys, h, x, hx => by
  simp only [List.mapM_cons, Option.bind_eq_bind] at h
  obtain ⟨y, hy, h⟩ := Option.bind_eq_some_iff.1 h
  obtain ⟨zs, hz, _⟩ := Option.bind_eq_some_iff.1 h
  rcases List.mem_cons.1 hx with rfl | hx
  · exact ⟨y, hy⟩
  exact qrL hz x hx
theorem qbN {fuel : Nat} {t : Nat} {fs : Array Field} {cs : List Value} {x : DataW H × List MemPlace} (ht : P.underlying t = some (.struct fs)) (h : DataW.trod enc P w 0 (fun _ => true) true fuel t cs = some x) :
  cs.length = P.cellsOf t ∧ ∃ n, ∀ f ∈ fs.toList, ∃ y, DataW.trod enc P w 0 (fun _ => true) true n f.type ((cs.drop f.offset).take (P.cellsOf f.type)) = some y := by
 cases fuel with
 | zero => simp [DataW.trod] at h
 | succ fuel =>
  unfold DataW.trod at h
  rw [ht] at h
  simp only at h
  split at h
  ·
   rename_i hl
   obtain ⟨ys, hys, _⟩ := Option.map_eq_some_iff.1 h
   exact ⟨hl, fuel, qrL hys⟩
  simp at h
theorem qWO {a : Addr} : ∀ {n : Nat} {cs : List Value}, w.cells? 0 a n = some cs → cs.length = n ∧ ∀ (j : Nat) u, cs[j]? = some u → w.cell? (a.add j) = some u := by
 intro n cs h
 unfold World.cells? at h
 rw [if_pos (Nat.zero_le _)] at h
 have key : ∀ (l : List Nat) (ys : List Value), (l.mapM fun i => w.cell? (a.add i)) = some ys → ys.length = l.length ∧ ∀ (j : Nat) u, ys[j]? = some u → ∃ i, l[j]? = some i ∧ w.cell? (a.add i) = some u := by
  intro l
  induction l with
  | nil =>
   intro ys h
   simp only [List.mapM_nil, Option.pure_def, Option.some.injEq] at h
   subst h
   exact ⟨rfl, fun j u hj => by simp at hj⟩
  | cons i l ih =>
   intro ys h
   simp only [List.mapM_cons, Option.bind_eq_bind] at h
   obtain ⟨y, hy, h⟩ := Option.bind_eq_some_iff.1 h
   obtain ⟨zs, hz, h⟩ := Option.bind_eq_some_iff.1 h
   simp only [Option.pure_def, Option.some.injEq] at h
   subst h
   obtain ⟨h1, h2⟩ := ih zs hz
   refine ⟨by simp [h1], fun j u hj => ?_⟩
   cases j with
   | zero => simp at hj; exact ⟨i, rfl, by rw [hy, hj]⟩
   | succ j => obtain ⟨i', h3, h4⟩ := h2 j u (by simpa using hj); exact ⟨i', by simpa using h3, h4⟩
 obtain ⟨h1, h2⟩ := key _ _ h
 refine ⟨by simpa using h1, fun j u hj => ?_⟩
 obtain ⟨i, h3, h4⟩ := h2 j u hj
 have := (List.getElem?_eq_some_iff.1 h3).2
 simp at this
 rw [← this] at h4
 exact h4
theorem qkT {a : Addr} {u : Value} (h : w.cell? a = some u) : a.block < w.heap.size ∧ a.spot = none := by
 unfold World.cell? at h
 split at h
 ·
  rename_i hb
  refine ⟨(Array.getElem?_eq_some_iff.1 hb).1, ?_⟩
  split at h
  · simp at h
  rename_i hs
  cases hx : a.spot with
  | none => rfl
  | some _ => rw [hx] at hs; simp at hs
 simp at h
theorem qJQ {l : List Sh} {sz b o : Nat} (hsz : l.length = sz) {len : Nat} (hx : ∀ i, i < len → ∃ cs ts, cs.length = sz ∧ (∀ (j : Nat) u, cs[j]? = some u → w.cell? ⟨b, o + (i * sz + j), none⟩ = some u) ∧ Wf l ts ∧ CR P w (old w) (old w) ts cs no) :
  ∀ n, n ≤ len → ∃ (rows : Rws) (vs : List Value), rows.length = n ∧ (∀ r ∈ rows, Wf l r) ∧ CR P w (old w) (old w) rows.flatten vs no ∧ vs.length = n * sz ∧ ∀ (j : Nat) u, vs[j]? = some u → w.cell? ⟨b, o + j, none⟩ = some u
 | 0, _ => ⟨[], [], rfl, by simp, .nil, by simp, by simp⟩
 | n + 1, hn => by
  obtain ⟨rows, vs, h1, h2, h3, h4, h5⟩ := qJQ hsz hx n (by omega)
  obtain ⟨cs, ts, g1, g2, g3, g4⟩ := hx n (by omega)
  refine ⟨rows ++ [ts], vs ++ cs, by simp [h1], fun r hr => ?_, ?_, by simp [h4, g1, Nat.succ_mul], fun j u hj => ?_⟩
  ·
   rcases List.mem_append.1 hr with hr | hr
   · exact h2 r hr
   rw [List.mem_singleton.1 hr]; exact g3
  ·
   rw [List.flatten_append]
   have := h3.join g4 (φ := no) (fun _ h => h.elim) (fun _ h => h) (fun _ h => h)
   simpa using this
  by_cases hj' : j < vs.length
  ·
   rw [List.getElem?_append_left hj'] at hj
   exact h5 j u hj
  rw [List.getElem?_append_right (by omega)] at hj
  have := g2 _ u hj
  rw [h4] at this hj'
  rwa [show o + (n * sz + (j - n * sz)) = o + j by omega] at this
theorem qPH (f : Nat → Option (List Sh)) : ∀ {fs : List Field} {o n : Nat} {ss : List Sh}, shFields P f fs o n = some ss → o + ss.length = n
 | [], o, n, ss, h => by
  simp only [shFields] at h
  split at h
  · rename_i hq; simp only [Option.some.injEq] at h; subst h; simpa using nq_eq hq
  simp at h
 | fd :: r, o, n, ss, h => by
  simp only [shFields] at h
  split at h
  ·
   split at h
   ·
    split at h
    ·
     rename_i hrec
     simp only [Option.some.injEq] at h
     subst h
     have := qPH f hrec
     rw [quB] at this
     simp; omega
    simp at h
   simp at h
  simp at h
theorem qOK : ∀ (d t : Nat) {ss : List Sh}, shOf P d t = some ss → ∀ {fuel : Nat} {cs : List Value} {x : DataW H × List MemPlace}, DataW.trod enc P w 0 (fun _ => true) true fuel t cs = some x → ∃ ts, Wf ss ts ∧ CR P w (old w) (old w) ts cs no
 | 0, t, ss, h, _, _, _, _ => by simp [shOf] at h
 | d + 1, t, ss, h, fuel, cs, x, hx => by
  have plain : ∀ {ty}, P.underlying t = some ty → ∃ n, fuel = n + 1 := by
   intro ty hty
   cases fuel with
   | zero => simp [DataW.trod] at hx
   | succ n => exact ⟨n, rfl⟩
  simp only [shOf] at h
  split at h
  ·
   rename_i hu
   simp only [Option.some.injEq] at h
   subst h
   obtain ⟨n, rfl⟩ := plain hu
   unfold DataW.trod at hx
   rw [hu] at hx
   split at hx <;> simp_all
   exact ⟨_, .b .nil, .s rfl .nil⟩
  ·
   rename_i k hu
   simp only [Option.some.injEq] at h
   subst h
   obtain ⟨n, rfl⟩ := plain hu
   unfold DataW.trod at hx
   rw [hu] at hx
   split at hx <;> simp_all
   rename_i hc
   obtain ⟨⟨rfl, hw⟩, _⟩ := hx
   simp only [Lit.wf, Bool.and_eq_true, decide_eq_true_eq] at hw
   exact ⟨_, .i hw .nil, .s rfl .nil⟩
  ·
   rename_i hu
   simp only [Option.some.injEq] at h
   subst h
   obtain ⟨n, rfl⟩ := plain hu
   unfold DataW.trod at hx
   rw [hu] at hx
   split at hx <;> simp_all
   exact ⟨_, .s hx.1 .nil, .s rfl .nil⟩
  ·
   rename_i e hu
   split at h
   ·
    rename_i l hl
    split at h
    ·
     rename_i hq hpos
     simp only [Option.some.injEq] at h
     subst h
     have hq := nq_eq hq
     have hpos := nl_le hpos
     rw [quB] at hq hpos
     rcases Deep.open_slice hu hx with ⟨rfl, _⟩ | ⟨a, len, cap, m, n, D, Pl, rfl, hb, hlc, hcm, hm, _, hel⟩
     · exact ⟨[.im true []], .sl (by simp) (by simp) .nil, .im1 rfl (Nat.le_refl _) l.length (by simp) [] (fun h => by simp at h) .nil .nil⟩
     have hmc : m = cap := by simpa using hm
     subst hmc
     by_cases hlen : len = 0
     ·
      subst hlen
      exact ⟨[.im true []], .sl (by simp) (by simp) .nil, .im1 rfl (Nat.zero_le _) l.length (by simp) [] (fun h => by simp at h) .nil .nil⟩
     obtain ⟨hsp, hlt⟩ : a.spot = none ∧ a.block < w.heap.size := by
      obtain ⟨cs', h1, _⟩ := hel 0 (by omega)
      obtain ⟨h5, h6⟩ := qWO h1
      have h0 : 0 < cs'.length := by omega
      have := h6 0 cs'[0] (by simp [h0])
      simp only [Nat.zero_mul, Addr.add, if_true] at this
      have := qkT this
      exact ⟨this.2, this.1⟩
     obtain ⟨ab, ao, as⟩ := a
     simp only at hsp hlt
     subst hsp
     have hel' : ∀ i, i < len → ∃ cs ts, cs.length = P.cellsOf e ∧ (∀ (j : Nat) u, cs[j]? = some u → w.cell? ⟨ab, ao + (i * P.cellsOf e + j), none⟩ = some u) ∧ Wf l ts ∧ CR P w (old w) (old w) ts cs no := by
      intro i hi
      obtain ⟨cs', h1, h2⟩ := hel i (by omega)
      obtain ⟨ts, h3, h4⟩ := qOK d e hl h2
      obtain ⟨h5, h6⟩ := qWO h1
      refine ⟨cs', ts, h5, fun j u hj => ?_, h3, h4⟩
      have := h6 j u hj
      have ea : ∀ (o k : Nat), Addr.add ⟨ab, o, none⟩ k = ⟨ab, o + k, none⟩ := fun o k => by simp [Addr.add_lit]
      rw [ea, ea, Nat.add_assoc] at this
      exact this
     obtain ⟨rows, vs, h1, h2, h3, h4, h5⟩ := qJQ (P := P) hq hel' len (Nat.le_refl _)
     exact ⟨[.im true rows], .sl h2 (by omega) .nil, .im1 h1.symm (by omega) l.length (fun r hr => (h2 r hr).len) vs (fun _ => ⟨_, _, rfl, hlt, h5⟩) h3 .nil⟩
    simp at h
   simp at h
  ·
   rename_i fs hu
   obtain ⟨hlen, n, hf⟩ := qbN hu hx
   have key : ∀ (l : List Field), (∀ f ∈ l, f ∈ fs.toList) → ∀ (o : Nat) (ss : List Sh), shFields P (shOf P d) l o (P.cellsOf t) = some ss → ∃ ts, Wf ss ts ∧ CR P w (old w) (old w) ts (cs.drop o) no := by
    intro l
    induction l with
    | nil =>
     intro _ o ss h
     simp only [shFields] at h
     split at h
     ·
      rename_i hq
      simp only [Option.some.injEq] at h
      subst h
      have hq := nq_eq hq
      refine ⟨[], .nil, ?_⟩
      rw [List.drop_eq_nil_of_le (by omega)]
      exact .nil
     simp at h
    | cons fd r ih =>
     intro hmem o ss h
     have hlen2 := qPH _ h
     simp only [shFields] at h
     split at h
     ·
      rename_i l hl
      split at h
      ·
       rename_i hq1 hq2
       split at h
       ·
        rename_i m hrec
        simp only [Option.some.injEq] at h
        subst h
        have hq1 := nq_eq hq1
        have hq2 := nq_eq hq2
        obtain ⟨y, hy⟩ := hf fd (hmem fd (by simp))
        obtain ⟨ts, h1, h2⟩ := qOK d fd.type hl hy
        obtain ⟨us, h3, h4⟩ := ih (fun f hf => hmem f (List.mem_cons_of_mem _ hf)) _ _ hrec
        refine ⟨ts ++ us, h1.append h3, ?_⟩
        rw [hq1, ← hq2] at h2
        rw [← List.take_append_drop (lenN l) (cs.drop o), List.drop_drop]
        exact h2.join h4 (fun _ h => h.elim) (fun _ h => h) (fun _ h => h)
       simp at h
      simp at h
     simp at h
   obtain ⟨ts, h1, h2⟩ := key fs.toList (fun f h => h) 0 ss h
   exact ⟨ts, h1, by simpa using h2⟩
  simp at h
end Go.Proofs.YtcpekllcbimpmaaGreatDoor.L
namespace Go.Proofs.YtcpekllcbimpmaaGreatDoor.L
set_option linter.unusedVariables false
set_option linter.unusedSimpArgs false
open Go Go.ChangeShapes Go.RowKit
variable {H : Type} {enc : TypeId × Value → H} {P : Program}
def parSh (P : Program) (d : Nat) : List Nat → Option (List (Bool × List Sh))
 | [] => some []
 | t :: r => match shOf P d t, P.underlying t, parSh P d r with
  | some ss, some (.struct _), some l => some ((true, ss) :: l)
  | some ss, some _, some l => some ((false, ss) :: l)
  | _, _, _ => none
inductive AWf : List (Bool × List Sh) → List A → Prop
 | nil : AWf [] []
 | ag {ss ts r as} (h : Wf ss ts) (h' : AWf r as) : AWf ((true, ss) :: r) (.ag ts :: as)
 | v {ss t r as} (h : Wf ss [t]) (h' : AWf r as) : AWf ((false, ss) :: r) (.v t :: as)
theorem qcN {w : World} {base : Nat} {d t : Nat} {ss : List Sh} {ty : TypeDesc} {v : Value} (hs : shOf P d t = some ss) (hu : P.underlying t = some ty) (hne : ∀ fs, ty ≠ .struct fs) (hv : Value.okWide P w .any base t v) : v.cells.toList = [v] := by
 cases d with
 | zero => simp [shOf] at hs
 | succ d =>
  simp only [shOf, hu] at hs
  unfold Value.okWide at hv
  rw [hu] at hv
  cases v <;> first | rfl | skip
  rename_i cs
  exfalso
  cases ty <;> first | exact hne _ rfl | (simp only [reduceCtorEq] at hs; done) | skip
  all_goals first
   | (simp [Cell.okWide, Cell.ok, hu] at hv; done)
   | simp at hs
theorem qOI {W : World} {base d : Nat} : ∀ {params : List Nat} {shs : List (Bool × List Sh)} {vs : List Value} {ds : List (DataW H)} {ps : List MemPlace}, parSh P d params = some shs → DataW.TrodAll enc P W 0 (fun _ => true) true params vs ds ps → (∀ (j : Nat) t v, params[j]? = some t → vs[j]? = some v → Value.okWide P W .any base t v) →
  ∃ as us, AWf shs as ∧ AS as vs us ∧ CR P W (old W) (old W) (acells as) us no
 | [], shs, vs, ds, ps, hp, ht, hv => by
  simp only [parSh, Option.some.injEq] at hp
  subst hp
  match vs, ds, ht with
  | [], [], _ => exact ⟨[], [], .nil, .nil, .nil⟩
 | t :: r, shs, vs, ds, ps, hp, ht, hv => by
  match vs, ds, ht with
  | v :: vs, x :: ds, ht =>
   obtain ⟨p, q, ⟨fuel, h1⟩, h2, rfl⟩ := ht
   have hv0 := hv 0 t v rfl rfl
   simp only [parSh] at hp
   split at hp
   ·
    rename_i ss fs l hs hu hr
    simp only [Option.some.injEq] at hp
    subst hp
    obtain ⟨as, us, a1, a2, a3⟩ := qOI hr h2 (fun j t v h h' => hv (j + 1) t v (by simpa using h) (by simpa using h'))
    obtain ⟨ts, b1, b2⟩ := qOK d t hs h1
    unfold Value.okWide at hv0
    rw [hu] at hv0
    obtain ⟨cs, rfl, _⟩ := hv0
    have e : (Value.agg cs).cells.toList = cs.toList := rfl
    rw [e] at b2
    have ec : Value.agg cs = .agg cs.toList.toArray := by simp
    rw [ec]
    refine ⟨.ag ts :: as, cs.toList ++ us, .ag b1 a1, .ag b2.len a2, ?_⟩
    exact b2.join a3 (fun _ h => h.elim) (fun _ h => h) (fun _ h => h)
   ·
    rename_i ss ty l hne hs hu hr
    simp only [Option.some.injEq] at hp
    subst hp
    obtain ⟨as, us, a1, a2, a3⟩ := qOI hr h2 (fun j t v h h' => hv (j + 1) t v (by simpa using h) (by simpa using h'))
    obtain ⟨ts, b1, b2⟩ := qOK d t hs h1
    rw [qcN hs hu (fun fs e => hne fs e) hv0] at b2
    have hl := b2.len
    match ts, hl with
    | [x], _ =>
     refine ⟨.v x :: as, v :: us, .v b1 a1, .v a2, ?_⟩
     exact b2.join (a := [x]) (u1 := [v]) a3 (fun _ h => h.elim) (fun _ h => h) (fun _ h => h)
   simp at hp
theorem qVG (hl : laidOutB P = true) {W W' : World} (hb : Below W.heap.size W W') : ∀ {params : List Nat} {vs : List Value} {ds : List (DataW H)} {ps : List MemPlace}, (∀ t ∈ params, P.readableRec t = true ∧ t < P.types.size) → (∀ x ∈ ps, x.block < W.heap.size) →
  DataW.TrodAll enc P W 0 (fun _ => true) true params vs ds ps → DataW.TrodAll enc P W' 0 (fun b => decide (b < W.heap.size)) true params vs ds ps
 | [], vs, ds, ps, _, _, h => by
  match vs, ds, h with
  | [], [], h => exact h
 | t :: r, vs, ds, ps, hr, hlt, h => by
  match vs, ds, h with
  | v :: vs, x :: ds, h =>
   obtain ⟨p, q, h1, h2, rfl⟩ := h
   exact ⟨p, q, Below.trod hl (hr t (by simp)).1 (hr t (by simp)).2 h1 hb (fun x hx => hlt x (List.mem_append.2 (.inl hx))), qVG hl hb (fun t ht => hr t (List.mem_cons_of_mem _ ht)) (fun x hx => hlt x (List.mem_append.2 (.inr hx))) h2, rfl⟩
theorem qPI {W : World} {base : Nat} {sp : Nat → Bool} {held : Bool} : ∀ {params : List Nat} {vs : List Value} {ds : List (DataW H)} {ps : List MemPlace}, DataW.TrodAll enc P W base sp held params vs ds ps → ds.length = params.length
 | [], vs, ds, ps, h => by
  match vs, ds, h with
  | [], [], _ => rfl
 | t :: r, vs, ds, ps, h => by
  match vs, ds, h with
  | v :: vs, x :: ds, h =>
   obtain ⟨_, _, _, h2, _⟩ := h
   simp [qPI h2]
theorem law_calls {f : FuncId} {fn : Func} {s : ChangeSpec} {d tb : Nat} {shs : List (Bool × List Sh)} (hl : laidOutB P = true) (hpar : parSh P d fn.params.toList = some shs) (hread : ∀ t ∈ fn.params.toList, P.readableRec t = true ∧ t < P.types.size) (hres : fn.resultTypes = #[tb]) (htb : P.underlying tb = some .bool)
  (hvars : s.vars = []) (hspec : ∀ ds : List (DataW H), ds.length = fn.params.toList.length → s.fn H ds = { results := [.lit (.bool true)], args := ds })
  (hAC : ∀ as, AWf shs as → ∃ outs, AC P f as outs [.v (.s (.bool true))]) {W : World} (hTb : Tb P W no) {base : Nat} {args : Array Value} {ds gs : List (DataW H)} {before : List MemPlace}
  (hval : ∀ (j : Nat) t v, fn.params[j]? = some t → args[j]? = some v → Value.okWide P W .any base t v) (hW : DataW.Whole enc P fn.params.toList s.vars false W args.toList ds gs before) :
  Calls P f args W fun e W' => ∃ v, e = .returned v ∧ s.post enc P fn false true false false W args v W' := by
 have hW' := hW
 obtain ⟨p, q, hA, hV, rfl, hfz, hnd⟩ := hW
 rw [hvars] at hV
 obtain ⟨as, us, a1, a2, a3⟩ := qOI hpar hA (fun j t v h h' => hval j t v (by simpa using h) (by simpa using h'))
 obtain ⟨outs, hac⟩ := hAC as a1
 have hcall := hac.2 W (old W) (old W) no _ us (fun _ h => h) (fun _ h => h) (fun _ h => h.elim) hTb a2 a3
 rw [show args.toList.toArray = args by simp] at hcall
 refine Calls.mono hcall fun e W' he => ?_
 obtain ⟨rs, us', φ', K', rfl, h1, h2, _, hk, _⟩ := he
 have hrs : rs = [.bool true] := by
  cases h1 with
  | v h1 =>
   cases h1
   obtain ⟨u1, u2, φ1, φ2, hu, _, c2, _⟩ := CR.split h2
   simp only [acells, A.cells, List.append_nil] at c2
   cases c2 with
   | s _ c3 =>
    cases c3
    have := List.append_inj_right' hu rfl
    simp only [List.cons.injEq, and_true] at this
    rw [this]
 subst hrs
 have hbel : Below W.heap.size W W' := ⟨hk.os, hk.tape, hk.output, hk.size, fun k hk' => hk.block k hk' (fun h => h.elim)⟩
 have hgs : gs = [] ∧ q = [] := by
  match gs, hV with
  | [], hV => exact ⟨rfl, hV⟩
 obtain ⟨rfl, rfl⟩ := hgs
 have hsp := hspec ds (qPI hA)
 refine ⟨.bool true, rfl, ds, [], p ++ [], [], p, [], hW', ?_, ?_, ?_, hbel.frame _, fun h => by simp at h⟩
 ·
  rw [hres, List.append_nil, hsp]
  exact ⟨[], [], ⟨1, by simp [DataW.trod, htb, Value.cells]⟩, rfl, rfl⟩
 ·
  rw [List.append_nil, hsp]
  exact qVG hl hbel hread (fun x hx => hW'.lt x (by simpa using hx)) hA
 ·
  rw [List.append_nil, hsp, hvars]
  rfl
end Go.Proofs.YtcpekllcbimpmaaGreatDoor.L
namespace Go.Proofs.YtcpekllcbimpmaaGreatDoor.L
set_option linter.unusedVariables false
set_option linter.unusedSimpArgs false
open Go
theorem wrap64 {x : Int} (h : -9223372036854775808 ≤ x ∧ x ≤ 9223372036854775807) : IntKind.i64.wrap x = x := by
 rw [IntKind.wrap_i64]
 omega
def rowsOf {α : Type} (f : α → List T) (l : List α) : Rws := l.map f
theorem rowsOf_len {α : Type} (f : α → List T) (l : List α) : (rowsOf f l).length = l.length := by simp [rowsOf]
theorem qKQ {α : Type} {f : α → List T} {l : List α} {i : Nat} {x : α} (h : l[i]? = some x) : (rowsOf f l).getD i [] = f x := by
 simp [rowsOf, List.getD_eq_getElem?_getD, h]
def ints (l : List Int) : Rws := l.map fun n => [.s (.int .i64 n)]
def filled (new old : Rws) (i : Nat) : Rws := new.take i ++ old.drop i
end Go.Proofs.YtcpekllcbimpmaaGreatDoor.L