/- Contracts, and the step of an operation. -/
import Derived.Test.YtgicjbeaomjdgaaSl2
namespace Go.Proofs.Ytgicjbeaomjdgaa.L
set_option linter.unusedVariables false
set_option linter.unusedSimpArgs false
open Go

inductive AS : List A → List Value → List Value → Prop
  | nil : AS [] [] []
  | v {x u as vs us} (h : AS as vs us) : AS (.v x :: as) (u :: vs) (u :: us)
  | ag {xs us0 as vs us} (hl : us0.length = xs.length) (h : AS as vs us) : AS (.ag xs :: as) (.agg us0.toArray :: vs) (us0 ++ us)

def acells : List A → List T
  | [] => []
  | a :: r => a.cells ++ acells r

def tup : List Value → Value
  | [v] => v
  | vs => .tuple vs.toArray

/-- THE CONTRACT: called with what reads as 'args' the function returns 'res'; what was lent reads as 'outs'; all else that was there is as it was. -/
def AC (P : Program) (f : FuncId) (args outs res : List A) : Prop :=
  (∃ fn, P.funcs[f]? = some fn ∧ (fn.name == "runtime.NumGoroutine") = false ∧ fn.body.isNone = false) ∧ ∀ (w : World) (K S φ : Nat → Prop) (vs us : List Value), Sub K S → (∀ b, S b → b < w.heap.size) → (∀ b, φ b → b < w.heap.size ∧ ¬ S b) →
    AS args vs us → CR P w K S (acells args) us φ →
    Calls P f vs.toArray w fun e w' => ∃ rs us' φ' K', e = .returned (tup rs) ∧ AS res rs us' ∧ CR P w' K' K' (acells outs ++ acells res) (us ++ us') φ' ∧
      (∀ b, φ' b → b < w'.heap.size ∧ ¬ K' b ∧ (φ b ∨ w.heap.size ≤ b)) ∧ Kept w w' φ ∧ Sub K K' ∧ (∀ b, K' b → K b ∨ (b < w'.heap.size ∧ (φ b ∨ w.heap.size ≤ b)))

def jks : List A → List A
  | [] => []
  | a :: r => a.jk :: jks r

def AllP : List Prop → Prop
  | [] => True
  | p :: r => p ∧ AllP r

theorem AllP_append (a b : List Prop) : AllP (a ++ b) ↔ AllP a ∧ AllP b := by
  induction a with
  | nil => simp [AllP]
  | cons p r ih => simp [AllP, ih, and_assoc]

def freshB (nx : Nat) (objs : List (Nat × O)) (id : Nat) : Bool := bif nl nx id then (bif hasKey objs id then false else true) else false

/-- An argument that is lent to be written, or given away: its cells as trees; for each the object that stands behind it. -/
def ownCell (objs : List (Nat × O)) : V → Option (T × Option Nat)
  | .t (.s v) => some (.s v, none)
  | .t (.im true r) => some (.im true r, none)
  | .t .er => some (.er, none)
  | .rf id => match look .dead objs id with
    | .row _ e _ rows => some (.ow e rows, some id)
    | _ => none
  | _ => none

def ownCells (objs : List (Nat × O)) : List V → Option (List T × List (Option Nat))
  | [] => some ([], [])
  | c :: cs => match ownCell objs c with
    | none => none
    | some (x, d) => match ownCells objs cs with
      | none => none
      | some (xs, ds) => some (x :: xs, d :: ds)

/-- Cells that hold plain values, and slices that may be kept. -/
def plainT : List V → Option (List T)
  | [] => some []
  | c :: cs => match plainT cs with
    | none => none
    | some ts => match c with
      | .t (.s v) => some (.s v :: ts)
      | .t (.im true r) => some (.im true r :: ts)
      | _ => none

def plainV : List T → Option (List V)
  | [] => some []
  | c :: cs => match plainV cs with
    | none => none
    | some vs => match c with
      | .s v => some (.t (.s v) :: vs)
      | .im true r => some (.t (.im true r) :: vs)
      | _ => none

/-- What was lent comes back. -/
def back : List (Nat × O) → List (Option Nat) → List T → Option (List (Nat × O))
  | objs, [], _ => some objs
  | objs, none :: ds, _ :: ts => back objs ds ts
  | objs, some id :: ds, t :: ts => match t, look .dead objs id with
    | .ow e' rows', .row ver e sz _ => match nq e e' with
      | true => back ((id, .row (ver + 1) e sz rows') :: objs) ds ts
      | false => none
    | .jk, _ => back ((id, .dead) :: objs) ds ts
    | .bx e' cs, .box e _ => match nq e e', plainV cs with
      | true, some vs => back ((id, .box e vs) :: objs) ds ts
      | _, _ => none
    | _, _ => none
  | _, _ :: _, [] => none

/-- Trees that have come, as local values; new objects get the numbers from id on, 256 apart. -/
def openCells (tab : List (Nat × Ty)) (nx : Nat) : List (Nat × O) → Nat → List T → Option (List V × List (Nat × O) × Nat)
  | objs, id, [] => some ([], objs, id)
  | objs, id, c :: cs => match c with
    | .s v => match openCells tab nx objs id cs with
      | some (vs, os, id') => some (.t (.s v) :: vs, os, id')
      | none => none
    | .er => match openCells tab nx objs id cs with
      | some (vs, os, id') => some (.t .er :: vs, os, id')
      | none => none
    | .im true r => match openCells tab nx objs id cs with
      | some (vs, os, id') => some (.t (.im true r) :: vs, os, id')
      | none => none
    | .ow e rows => match getTy tab e, freshB nx objs id with
      | some ty, true => match openCells tab nx ((id, .row 0 e ty.size rows) :: objs) (id + 256) cs with
        | some (vs, os, id') => some (.rf id :: vs, os, id')
        | none => none
      | _, _ => none
    | .bx e xs => match plainV xs, freshB nx objs id with
      | some us, true => match openCells tab nx ((id, .box e us) :: objs) (id + 256) cs with
        | some (vs, os, id') => some (.pt id 0 0 :: vs, os, id')
        | none => none
      | _, _ => none
    | _ => none

def openRes (tab : List (Nat × Ty)) (nx : Nat) : List (Nat × O) → Nat → List A → Option (List V × List (Nat × O))
  | objs, _, [] => some ([], objs)
  | objs, id, .v x :: r => match openCells tab nx objs id [x] with
    | some ([v], os, id') => match openRes tab nx os id' r with
      | some (vs, os') => some (v :: vs, os')
      | none => none
    | _ => none
  | objs, id, .ag xs :: r => match openCells tab nx objs id xs with
    | some (cs, os, id') => match openRes tab nx os id' r with
      | some (vs, os') => some (.ag cs :: vs, os')
      | none => none
    | none => none

/-- What is reckoned with data, as it is. -/
def Ls : Lf where
  ar op k x y := match op with
    | .add => k.wrap (x + y)
    | .sub => k.wrap (x - y)
    | .mul => k.wrap (x * y)
    | .quo => k.wrap (x.tdiv y)
    | .rem => x.tmod y
    | .and => k.wrap (BitVec.ofInt k.bits x &&& BitVec.ofInt k.bits y).toNat
    | .xor => k.wrap (BitVec.ofInt k.bits x ^^^ BitVec.ofInt k.bits y).toNat
    | .shr => x.fdiv (2 ^ min y.toNat k.bits)
    | .or => k.wrap x
    | _ => 0
  cm op x y := match op with
    | .eql => decide (x = y)
    | .neq => decide (x ≠ y)
    | .lss => decide (x < y)
    | .leq => decide (x ≤ y)
    | .gtr => decide (y < x)
    | .geq => decide (y ≤ x)
    | _ => false
  bo c x y := if c then x else y
  sc op x y := match op with
    | .eql => x.toList == y.toList
    | .neq => !(x.toList == y.toList)
    | .lss => Op.bytesLess x.toList y.toList
    | .leq => Op.bytesLess x.toList y.toList || x.toList == y.toList
    | .gtr => !(Op.bytesLess x.toList y.toList || x.toList == y.toList)
    | .geq => !Op.bytesLess x.toList y.toList
    | _ => false
  sa x y := x ++ y
  sx s i := ((s.data.toList.getD i.toNat 0).toNat : Int)
  ss s lo hi := s.extract lo.toNat hi.toNat
  sl s := (s.size : Int)
  bs rows := ⟨(rows.map fun r => match r with | [.s (.int _ n)] => UInt8.ofNat n.toNat | _ => 0).toArray⟩
  sb s := s.data.toList.map fun b => [.s (.int .u8 b.toNat)]
  ln rows := (rows.length : Int)
  sr rows lo hi := (rows.take hi.toNat).drop lo.toNat
  ap a b := a ++ b
  up rows i j cs := rows.set i.toNat ((rows.getD i.toNat []).take j ++ cs ++ (rows.getD i.toNat []).drop (j + cs.length))
  rp n z := List.replicate n.toNat z
  fr rows := fzR rows
  ge rows i := rows.getD i.toNat []
  le x y := x ≤ y
  lt x y := x < y
  nz y := y ≠ 0
  mm n b := n * b ≤ 140737488355328 ∧ n ≤ 140737488355328
  ma x y b := ((x.length : Int) + y.length) * b ≤ 140737488355328 ∧ (x.length : Int) + y.length ≤ 140737488355328
  sm x y := (x.size + y.size : Int) ≤ 9223372036854775807
  fl := Flat
  al sz rows := ∀ r ∈ rows, r.length = sz
  ci c x y := if c then x else y

/-- The types' table tells what the program's tells. -/
structure TyOk (P : Program) (t : Nat) (ty : Ty) : Prop where
  info : ∃ i, P.info? t = some i ∧ i.size = ty.size ∧ i.bytes = ty.bytes ∧ (ty.zero ≠ [] → ∃ z, i.zero = some z ∧ z.cells.toList = ty.zero)
  desc : ∃ d, P.underlying t = some d ∧ (match d with | .struct _ | .array _ _ => true | _ => false) = ty.agg ∧
    (match d with
     | .struct fs => ty.ik = none ∧ ty.offs = fs.toList.map (fun f => (f.offset, P.cellsOf f.type)) ∧ ∀ f ∈ fs, ∃ i, P.info? f.type = some i ∧ i.size ≠ 0
     | .slice e => ty.ik = none ∧ ty.elem = e
     | .array _ _ => False
     | .int k => ty.ik = some k
     | _ => ty.ik = none)
  isB : ty.isB = true → P.underlying t = some .bool
  isI : ty.isI = true → ∃ ms, P.underlying t = some (.interface ms)
  isS : ty.isS = true → P.underlying t = some (.slice ty.elem)
  isT : ty.isT = true → P.underlying t = some .string
  pos : 0 < ty.size
  agg1 : ty.agg = false → ty.size = 1
  zero1 : ∀ z ∈ ty.zero, z.oneCell' = true
  zlen : ty.zero ≠ [] → ty.zero.length = ty.size
  eqI : ∀ ks, ty.eqI = some ks → P.eqGuardType P.depth t = false ∧ ∀ (w : World) (xs ys : List Int), xs.length = ks.length → ys.length = ks.length → (Op.equal t (.agg (List.zipWith Value.int ks xs).toArray) (.agg (List.zipWith Value.int ks ys).toArray)).run P w = .ok (decide (xs = ys)) w

def TabOk (P : Program) (tab : List (Nat × Ty)) : Prop := ∀ t ty, getTy tab t = some ty → TyOk P t ty

def constB : Operand → Bool
  | .const _ => true
  | _ => false

/-- The arguments of a call; objsB: the objects that may be borrowed. -/
def argOne (L : Lf) (objs objsB : List (Nat × O)) (own : Bool) (v : V) : Option (A × List (Option Nat)) :=
  match own with
  | false => match v with
    | .ag cs => match lendCell.lendAll L objsB 200 cs with
      | some ts => some (.ag ts, ts.map fun _ => none)
      | none => none
    | v => match lendCell L objsB 200 v with
      | some x => some (.v x, [none])
      | none => none
  | true => match v with
    | .ag cs => match ownCells objs cs with
      | some (ts, ds) => some (.ag ts, ds)
      | none => none
    | .pt id 0 0 => match look .dead objs id with
      | .box e cs => match plainT cs with
        | some ts => some (.v (.bx e ts), [some id])
        | none => none
      | _ => none
    | v => match ownCell objs v with
      | some (x, d) => some (.v x, [d])
      | none => none

def argAll (L : Lf) (objs objsB : List (Nat × O)) : List Bool → List V → Option (List A × List (Option Nat))
  | [], [] => some ([], [])
  | b :: bs, v :: vs => match argOne L objs objsB b v with
    | none => none
    | some (a, d) => match argAll L objs objsB bs vs with
      | none => none
      | some (as, ds) => some (a :: as, d ++ ds)
  | _, _ => none

def subB : List Nat → List Nat → Bool
  | [], _ => true
  | x :: r, l => match nodupB.memB x l with
    | true => subB r l
    | false => false

def evs (env : List (Nat × V)) : List Operand → List Prop × List V
  | [] => ([], [])
  | x :: r => match strip (ev env x) with
    | (p, v) => match evs env r with
      | (ps, vs) => (p ++ ps, v :: vs)

def idsOf : List (Option Nat) → List Nat
  | [] => []
  | none :: r => idsOf r
  | some i :: r => i :: idsOf r

def lowOf (env : List (Nat × V)) : Option Operand → Option (List Prop × Int)
  | none => some ([], 0)
  | some x => match strip (ev env x) with
    | (p, .t (.s (.int _ n))) => some (p, n)
    | _ => none

def highOf (env : List (Nat × V)) : Option Operand → Int → Option (List Prop × Int)
  | none, d => some ([], d)
  | some x, _ => match strip (ev env x) with
    | (p, .t (.s (.int _ n))) => some (p, n)
    | _ => none

abbrev QR := Option (List Prop × V × Bool)

def qPick (L : Lf) (env : List (Nat × V)) (c a b : Operand) : QR :=
  match strip (ev env c) with
  | (pc, .t (.s (.bool c))) => match strip (ev env a), strip (ev env b) with
    | (pa, va), (pb, vb) => match pickV L c va vb with
      | some v => some (pc ++ [c = true → AllP pa, c = false → AllP pb], v, false)
      | none => none
  | _ => none

/-- Whether two plain values may be compared, or reckoned with, at this type. -/
def okBin (tab : List (Nat × Ty)) (xt : Nat) (y : Operand) : Value → Value → Bool
  | .nilIface, .nilIface => match getTy tab xt with
    | some ty => match ty.isI with
      | true => constB y
      | false => false
    | none => false
  | .bool _, .bool _ => match getTy tab xt with
    | some ty => ty.isB
    | none => false
  | _, _ => true

def qBin (L : Lf) (tab : List (Nat × Ty)) (env : List (Nat × V)) (o : BinOp) (xt : Nat) (x y : Operand) : QR :=
  match strip (ev env x), strip (ev env y) with
  | (px, .t (.s vx)), (py, .t (.s vy)) => match binV L o vx vy, okBin tab xt y vx vy with
    | some (p, v), true => some (px ++ py ++ p, .t (.s v), false)
    | _, _ => none
  | (px, .t .er), (py, .t (.s .nilIface)) => match getTy tab xt with
    | some ty => match ty.isI, o with
      | true, .neq => some (px ++ py, .t (.s (.bool true)), false)
      | true, .eql => some (px ++ py, .t (.s (.bool false)), false)
      | _, _ => none
    | none => none
  | _, _ => none

/-- Structs of whole numbers, compared. -/
def eqInts (L : Lf) : List IntKind → List V → List V → Option (List Prop × Bool)
  | [], [], [] => some ([], true)
  | k :: ks, .t (.s (.int k1 x)) :: r, .t (.s (.int k2 y)) :: r' => match eqInts L ks r r' with
    | some (ps, b) => some ((k1 = k) :: (k2 = k) :: ps, L.bo (L.cm .eql x y) b false)
    | none => none
  | _, _, _ => none

def qEqA (L : Lf) (tab : List (Nat × Ty)) (env : List (Nat × V)) (o : BinOp) (xt : Nat) (x y : Operand) : QR :=
  match strip (ev env x), strip (ev env y), getTy tab xt with
  | (px, .ag xs), (py, .ag ys), some ty => match ty.eqI with
    | some ks => match eqInts L ks xs ys, o with
      | some (ps, b), .eql => some (px ++ py ++ ps, .t (.s (.bool b)), false)
      | some (ps, b), .neq => some (px ++ py ++ ps, .t (.s (.bool (L.bo b false true))), false)
      | _, _ => none
    | none => none
  | _, _, _ => none

def qUn (L : Lf) (env : List (Nat × V)) (o : UnOp) (x : Operand) : QR :=
  match strip (ev env x) with
  | (px, .t (.s vx)) => match unV L o vx with
    | some v => some (px, .t (.s v), false)
    | none => none
  | _ => none

def qField (tab : List (Nat × Ty)) (env : List (Nat × V)) (t : Nat) (x : Operand) (f : Nat) : QR :=
  match getTy tab t with
  | some ty => match ty.agg, nth ty.offs f with
    | true, some (o, _) => match strip (ev env x) with
      | (px, .pt id i j) => some (px, .pt id i (j + o), false)
      | (px, .t (.ip cs)) => match nl o (lenN cs) with
        | true => some (px, .t (.ip (dropN o cs)), false)
        | false => none
      | _ => none
    | _, _ => none
  | none => none

def qLoad (L : Lf) (tab : List (Nat × Ty)) (σ : St) (t : Nat) (x : Operand) (sup : Option Sup) : QR :=
  match getTy tab t with
  | some ty => match strip (ev σ.env x) with
    | (px, .t (.ip cs)) => match nl ty.size (lenN cs), fit ty ((takeN ty.size cs).map .t) with
      | true, some v => some (px, v, false)
      | _, _ => none
    | (px, .pt id i j) => match look .dead σ.objs id with
      | .box _ cs => match nl (j + ty.size) (lenN cs), fit ty (takeN ty.size (dropN j cs)) with
        | true, some v => some (px ++ [i = 0], v, false)
        | _, _ => none
      | .row ver _ sz rows => match sup with
        | some (.el es) => match nl (j + ty.size) sz, rowCells id ver i j (takeN ty.size (dropN j es)) with
          | true, some cs => match fit ty cs with
            | some v => some (px ++ [L.le 0 i, L.lt i (L.ln rows), L.ge rows i = es], v, true)
            | none => none
          | _, _ => none
        | _ => none
      | .dead => none
    | _ => none
  | none => none

def elTy (tab : List (Nat × Ty)) (t : Nat) : Option Ty := match getTy tab t with
  | some ty => match ty.isS with
    | true => getTy tab ty.elem
    | false => none
  | none => none

def qIndexA (L : Lf) (tab : List (Nat × Ty)) (σ : St) (t : Nat) (x i : Operand) (sup : Option Sup) : QR :=
  match elTy tab t, strip (ev σ.env i) with
  | some te, (pi, .t (.s (.int _ n))) => match strip (ev σ.env x) with
    | (px, .t (.im _ rows)) => match sup with
      | some (.el es) => match nq (lenN es) te.size with
        | true => some (px ++ pi ++ [L.le 0 n, L.lt n (L.ln rows), L.ge rows n = es], .t (.ip es), true)
        | false => none
      | _ => none
    | (px, .rf id) => match look .dead σ.objs id with
      | .row _ _ sz rows => match nq sz te.size with
        | true => some (px ++ pi ++ [L.le 0 n, L.lt n (L.ln rows)], .pt id n 0, false)
        | false => none
      | _ => none
    | _ => none
  | _, _ => none

def qIndex (L : Lf) (tab : List (Nat × Ty)) (env : List (Nat × V)) (t : Nat) (x i : Operand) : QR :=
  match getTy tab t with
  | some ty => match ty.isT, strip (ev env i), strip (ev env x) with
    | true, (pi, .t (.s (.int _ n))), (px, .t (.s (.string s))) => some (px ++ pi ++ [L.le 0 n, L.lt n (L.sl s)], .t (.s (.int .u8 (L.sx s n))), false)
    | _, _, _ => none
  | none => none

def qExtract (env : List (Nat × V)) (x : Operand) (k : Nat) : QR :=
  match strip (ev env x) with
  | (px, .tu cs) => match nth cs k with
    | some v => some (px, v, false)
    | none => none
  | _ => none

def qNil (env : List (Nat × V)) (x : Operand) : QR :=
  match strip (ev env x) with
  | (px, .pt id i j) => some (px, .pt id i j, false)
  | (px, .t (.ip cs)) => some (px, .t (.ip cs), false)
  | _ => none

def qFunc (env : List (Nat × V)) (fn : Fn) (first caps : List Operand) : QR :=
  match fn, first with
  | .func f, [] => match evs env caps with
    | (ps, vs) => some (ps, .fn f vs, false)
  | _, _ => none

def qLen (L : Lf) (tab : List (Nat × Ty)) (σ : St) (args : List Operand) (ts : List Nat) : QR :=
  match args, ts with
  | [x], [t] => match getTy tab t, strip (ev σ.env x) with
    | some ty, (px, v) => match lenV L σ.objs v, ty.isS, ty.isT with
      | some n, true, _ => match v with
        | .t (.s (.string _)) => none
        | _ => some (px, .t (.s (.int .i64 n)), false)
      | some n, false, true => match v with
        | .t (.s (.string _)) => some (px, .t (.s (.int .i64 n)), false)
        | _ => none
      | _, _, _ => none
    | none, _ => none
  | _, _ => none

def qConv (L : Lf) (tab : List (Nat × Ty)) (env : List (Nat × V)) (src dst : Nat) (x : Operand) : QR :=
  match getTy tab src, getTy tab dst with
  | some ts, some ty => match ts.ik, ty.ik, strip (ev env x) with
    | some _, some k, (px, .t (.s (.int _ n))) => some (px, .t (.s (.int k (L.ar .or k n 0))), false)
    | _, _, _ => none
  | _, _ => none

def qBuild (tab : List (Nat × Ty)) (env : List (Nat × V)) (t : Nat) (parts : List (Nat × Operand)) : QR :=
  match getTy tab t with
  | some ty => match ty.agg, ty.zero, fillParts env ty.offs parts (ty.zero.map fun z => .t (.s z)) with
    | true, _ :: _, some (ps, cs) => some (ps, .ag cs, false)
    | _, _, _ => none
  | none => none

def qSlice (L : Lf) (tab : List (Nat × Ty)) (σ : St) (t : Nat) (x : Operand) (lo hi : Option Operand) : QR :=
  match getTy tab t, strip (ev σ.env x), lowOf σ.env lo with
  | some ty, (px, v), some (pl, l) => match v with
    | .t (.s (.string s)) => match ty.isT, highOf σ.env hi (L.sl s) with
      | true, some (ph, h) => some (px ++ pl ++ ph ++ [L.le 0 l, L.le l h, L.le h (L.sl s)], .t (.s (.string (L.ss s l h))), false)
      | _, _ => none
    | .t (.im k rows) => match elTy tab t, highOf σ.env hi (L.ln rows) with
      | some te, some (ph, h) => some (px ++ pl ++ ph ++ [L.le 0 l, L.le l h, L.le h (L.ln rows), L.al te.size rows], .t (.im k (L.sr rows l h)), false)
      | _, _ => none
    | .rf id => match look .dead σ.objs id with
      | .row _ _ sz rows => match elTy tab t, highOf σ.env hi (L.ln rows) with
        | some te, some (ph, h) => match nq sz te.size with
          | true => some (px ++ pl ++ ph ++ [L.le 0 l, L.le l h, L.le h (L.ln rows)], .sb id l h, false)
          | false => none
        | _, _ => none
      | _ => none
    | _ => none
  | _, _, _ => none

/-- Plain steps: of temporaries and memory that is read. -/
def stepQ (L : Lf) (tab : List (Nat × Ty)) (σ : St) (op : Op) (sup : Option Sup) : QR :=
  match op with
  | .move x => some ([], ev σ.env x, false)
  | .assign x => some ([], ev σ.env x, false)
  | .pick c a b => qPick L σ.env c a b
  | .binOp o xt x y _ => match qBin L tab σ.env o xt x y with
    | some r => some r
    | none => qEqA L tab σ.env o xt x y
  | .unOp o _ x => qUn L σ.env o x
  | .fieldAddr t x f => qField tab σ.env t x f
  | .load t x => qLoad L tab σ t x sup
  | .indexAddr t x i => qIndexA L tab σ t x i sup
  | .index t x i => qIndex L tab σ.env t x i
  | .extract x k => qExtract σ.env x k
  | .nilCheck x => qNil σ.env x
  | .makeFunc fn first caps => qFunc σ.env fn first.toList caps.toList
  | .convert src dst x => qConv L tab σ.env src dst x
  | .build t parts => qBuild tab σ.env t parts.toList
  | .slice t x lo hi mx => match mx with
    | none => qSlice L tab σ t x lo hi
    | some _ => none
  | .call c => match c.callee with
    | .builtin b => match b with
      | .len => qLen L tab σ c.args.toList c.argTypes.toList
      | _ => none
    | _ => none
  | _ => none

abbrev AR := Option (List Prop × V × List (Nat × O))

/-- Elements that nobody may look at any more. -/
def jrL (L : Lf) (rows : Rws) (lo hi : Int) (sz : Nat) : Rws := L.ap (L.ap (L.sr rows 0 lo) (L.rp (L.ar .sub .i64 hi lo) (List.replicate sz .jk))) (L.sr rows hi (L.ln rows))

def hasSl : List Value → Bool
  | [] => false
  | .slice none 0 0 :: _ => true
  | _ :: r => hasSl r

/-- Is this a part of a row whose elements own something? -/
def mvB (te : Ty) : V → Bool
  | .sb _ _ _ => hasSl te.zero
  | _ => false

/-- The source of an append out of which the elements are taken. -/
def sourceM (L : Lf) (objs : List (Nat × O)) (size : Nat) : V → Option (List Prop × Rws × Nat × O)
  | .sb sid lo hi => match look .dead objs sid with
    | .row ver e sz rows => match nq sz size with
      | true => some ([L.le hi (L.ln rows)], L.sr rows lo hi, sid, .row (ver + 1) e sz (jrL L rows lo hi sz))
      | false => none
    | _ => none
  | _ => none

/-- Is the list 0, 1, .. as long as that? -/
def lenEq (n : Nat) {α : Type} (l : List α) : Bool := nq n (lenN l)

/-- Steps that make memory; id: the new object's number. -/
def stepA (L : Lf) (tab : List (Nat × Ty)) (σ : St) (id : Nat) (op : Op) : AR :=
  match op with
  | .box e x => match strip (ev σ.env x) with
    | (p, v) => match cellsOf v with
      | some vc => some (p, .pt id 0 0, [(id, .box e vc)])
      | none => none
  | .alloc e => match getTy tab e with
    | some ty => match ty.zero with
      | z :: zr => some ([], .pt id 0 0, [(id, .box e ((z :: zr).map fun z => .t (.s z)))])
      | [] => none
    | none => none
  | .buildSlice t n parts => match getTy tab t with
    | some ty => match ty.isS, getTy tab ty.elem with
      | true, some te => match litRows σ.objs σ.env te.size 0 parts.toList with
        | some (ps, rows, ds) => match nodupB ds, nq n (lenN rows), nl (n * te.size) 65536, nq n 0, te.zero with
          | true, true, true, true, _ => some (ps, .rf id, (id, .row 0 ty.elem te.size rows) :: deads ds)
          | true, true, true, false, _ :: _ => some (ps, .rf id, (id, .row 0 ty.elem te.size rows) :: deads ds)
          | _, _, _, _, _ => none
        | none => none
      | _, _ => none
    | none => none
  | .makeSlice t l c => match getTy tab t with
    | some ty => match ty.isS, getTy tab ty.elem with
      | true, some te => match te.zero, strip (ev σ.env l), strip (ev σ.env c) with
        | z :: zr, (pl, .t (.s (.int _ n))), (pc, .t (.s (.int _ m))) => some (pl ++ pc ++ [n = m, L.le 0 n, L.mm n te.bytes], .rf id, [(id, .row 0 ty.elem te.size (L.rp n ((z :: zr).map .s)))])
        | _, _, _ => none
      | _, _ => none
    | none => none
  | .call c => match c.callee, c.args.toList, c.argTypes.toList with
    | .builtin .append, [s, x], [t, t'] => match nq t t', getTy tab t with
      | true, some ty => match ty.isS, getTy tab ty.elem with
        | true, some te => match strip (ev σ.env s), strip (ev σ.env x), te.zero with
          | (p1, v1), (p2, v2), _ :: _ => match mvB te v2 with
            | true => match target σ.objs ty.elem v1, sourceM L σ.objs te.size v2 with
              | some (r1, d1), some (p3, r2, sid, o) => match nodupB (sid :: d1), freshB σ.nx σ.objs (id + 1) with
                | true, true => some (p1 ++ p2 ++ p3 ++ [L.ma r1 r2 te.bytes], .rf id, (id, .row 0 ty.elem te.size (L.ap r1 r2)) :: (deads (d1 ++ [id + 1]) ++ [(id + 1, .dead), (sid, o)]))
                | _, _ => none
              | _, _ => none
            | false => match target σ.objs ty.elem v1, source L σ.objs te.size v2 with
              | some (r1, d1), some (p3, r2, d2) => match nodupB (d1 ++ d2) with
                | true => some (p1 ++ p2 ++ p3 ++ [L.ma r1 r2 te.bytes], .rf id, (id, .row 0 ty.elem te.size (L.ap r1 r2)) :: deads (d1 ++ d2))
                | false => none
              | _, _ => none
          | _, _, _ => none
        | _, _ => none
      | _, _ => none
    | _, _, _ => none
  | _ => none

/-- A store: which object, and what it is then. -/
def stepS (L : Lf) (tab : List (Nat × Ty)) (σ : St) (op : Op) : Option (List Prop × List (Nat × O)) :=
  match op with
  | .store t x y => match getTy tab t, strip (ev σ.env x), strip (ev σ.env y) with
    | some ty, (px, .pt id i j), (py, v) => match cellsOf v with
      | some vc => match (match atomsB vc with | true => nq (lenN vc) ty.size | false => false), look .dead σ.objs id with
        | true, .box e cs => match nl (j + ty.size) (lenN cs) with
          | true => some (px ++ py ++ [i = 0], [(id, .box e (takeN j cs ++ vc ++ dropN (j + ty.size) cs))])
          | false => none
        | true, .row ver e sz rows => match sinkCells σ.objs vc, nl (j + ty.size) sz with
          | some (ts, ds), true => match nodupB (id :: ds) with
            | true => some (px ++ py ++ [L.le 0 i, L.lt i (L.ln rows)], (id, .row (ver + 1) e sz (L.up rows i j ts)) :: deads ds)
            | false => none
          | _, _ => none
        | _, _ => none
      | none => none
    | _, _, _ => none
  | _ => none

def falses : List V → List Bool
  | [] => []
  | _ :: r => false :: falses r

/-- A call. -/
def stepC (P : Program) (L : Lf) (tab : List (Nat × Ty)) (σ : St) (id : Nat) (c : Call) (sup : Option Sup) : Option (List Prop × V × List (Nat × O)) :=
  match c.callee, sup with
  | .value f, some (.call own outs res) => match strip (ev σ.env f), evs σ.env c.args.toList with
    | (pf, .fn g caps), (pa, vs) => match argAll L σ.objs σ.objs (own ++ falses caps) (vs ++ caps) with
      | some (_, ds0) => match argAll L σ.objs (deads (idsOf ds0) ++ σ.objs) (own ++ falses caps) (vs ++ caps) with
        | some (as, ds) => match subB (idsOf ds) (idsOf ds0), nodupB (idsOf ds), nq (lenN (acells outs)) (lenN ds), back σ.objs ds (acells outs) with
          | true, true, true, some objs => match openRes tab σ.nx objs id res with
            | some (rs, objs') => match rs with
              | [r] => some (pf ++ pa ++ [AC P g as outs res], r, objs')
              | rs => some (pf ++ pa ++ [AC P g as outs res], .tu rs, objs')
            | none => none
          | _, _, _, _ => none
        | none => none
      | none => none
    | _, _ => none
  | _, _ => none

/-! ### steps that are told by hand -/
/-- What an operation does, told for every state: its operands' values, the objects that it looks at; its result; what the objects are behind it. -/
def HandOk (P : Program) (op : Op) (vals : List V) (obs : List (Nat × O)) (v : V) (os : List (Nat × O)) : Prop :=
  ∀ (F : Fr) (σ : St) (a : Act) (w : World) (S : Nat → Prop) (G : Gh) (φ : Nat → Nat → Prop), F.P = P → Rel0 F σ a w S G φ → VRs F.P w F.K S G vals (op.operands.toList.map a.eval) → (∀ p ∈ obs, look .dead σ.objs p.1 = p.2) →
    (∀ p ∈ os, (∃ q ∈ obs, q.1 = p.1) ∨ freshB σ.nx σ.objs p.1 = true) →
    ∃ u w' G' φ', (∀ o : Oper, o.op = op → (execOp a.eval o).run F.P w = .ok (.value u) w') ∧ Rel0 F ⟨σ.n, σ.nx, σ.env, os ++ σ.objs⟩ a w' S G' φ' ∧ VR F.P w' F.K S G' v u

def handObs (objs : List (Nat × O)) : List Nat → Option (List (Nat × O))
  | [] => some []
  | i :: r => match handObs objs r with
    | none => none
    | some q => match look .dead objs i with
      | .dead => none
      | o => some ((i, o) :: q)

def keysB (nx : Nat) (objs : List (Nat × O)) (ids : List Nat) : List (Nat × O) → Bool
  | [] => true
  | (k, _) :: r => match nodupB.memB k ids with
    | true => keysB nx objs ids r
    | false => match freshB nx objs k with
      | true => keysB nx objs ids r
      | false => false

def stepH (P : Program) (σ : St) (op : Op) (ids : List Nat) (v : V) (os : List (Nat × O)) : Option (List Prop × V × List (Nat × O)) :=
  match handObs σ.objs ids, keysB σ.nx σ.objs ids os, evs σ.env op.operands.toList with
  | some obs, true, (ps, vals) => some (ps ++ [HandOk P op vals obs v os], v, os)
  | _, _, _ => none

end Go.Proofs.Ytgicjbeaomjdgaa.L
