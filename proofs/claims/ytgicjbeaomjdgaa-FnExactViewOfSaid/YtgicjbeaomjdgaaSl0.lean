/- Abstract states for Go code: trees for data, symbolic temporaries and objects; an operation's step as an update. -/
import Derived.Laws.AppendOwn
import Derived.Below
namespace Go.Proofs.Ytgicjbeaomjdgaa.L
set_option linter.unusedVariables false
set_option linter.unusedSimpArgs false
open Go

/-- Comparisons that an evaluation does at once. -/
def nq (a b : Nat) : Bool := a == b
def nl (a b : Nat) : Bool := decide (a ≤ b)
theorem nq_eq {a b : Nat} (h : nq a b = true) : a = b := by simpa [nq] using h
theorem nl_le {a b : Nat} (h : nl a b = true) : a ≤ b := by simpa [nl] using h
theorem nq_self (a : Nat) : nq a a = true := by simp [nq]
theorem nq_iff {a b : Nat} : nq a b = true ↔ a = b := by simp [nq]
theorem nl_iff {a b : Nat} : nl a b = true ↔ a ≤ b := by simp [nl]

/-- What one cell holds. im: a slice that nobody writes (k: it may be kept); ow: a slice in memory of its own (e: its elements' type); ip: a pointer to cells that nobody writes; bx: a pointer to a block of its own; fn: a function value; er: an error that is not nil; jk: whatever. -/
inductive T where
  | s (v : Value)
  | jk
  | er
  | im (k : Bool) (rows : List (List T))
  | ow (e : Nat) (rows : List (List T))
  | ip (cs : List T)
  | bx (e : Nat) (cs : List T)
  | fn (f : FuncId) (cs : List T)
  deriving Inhabited

abbrev Rws := List (List T)

/-- What comes in and goes out: one cell, or a struct's cells. -/
inductive A where
  | v (x : T)
  | ag (xs : List T)

def A.cells : A → List T
  | .v x => [x]
  | .ag xs => xs

def A.jk : A → A
  | .v _ => .v .jk
  | .ag xs => .ag (xs.map fun _ => .jk)

/-- Local values. sb: the elements lo .. hi of an object's row; np: the slice that lies in cell j of element i of an object's row (as it was at its version ver: rows of type e). -/
inductive V where
  | t (x : T)
  | rf (id : Nat)
  | sb (id : Nat) (lo hi : Int)
  | np (id ver : Nat) (i : Int) (j e : Nat) (rows : Rws)
  | pt (id : Nat) (i : Int) (j : Nat)
  | ag (cs : List V)
  | tu (cs : List V)
  | fn (f : FuncId) (cs : List V)
  | cd (b : Bool) (v : V)
  | hl (id ver : Nat) (i : Int) (j id2 : Nat)
  | u
  deriving Inhabited

/-- Objects of the call's own: a row of elements (type e, sz cells each), or a variable's block. -/
inductive O where
  | row (ver e sz : Nat) (rows : Rws)
  | box (e : Nat) (cs : List V)
  | dead
  deriving Inhabited

structure St where
  n : Nat
  nx : Nat
  env : List (Nat × V)
  objs : List (Nat × O)

def look {α : Type} (d : α) : List (Nat × α) → Nat → α
  | [], _ => d
  | (k, x) :: r, n => bif nq n k then x else look d r n

/-- What a type is: agg: a struct; size in cells, bytes, elements' type (slices), fields' offsets, the zero value's cells, the kind of a whole number. -/
structure Ty where
  agg : Bool
  size : Nat
  bytes : Nat
  elem : Nat
  offs : List (Nat × Nat)
  zero : List Value
  ik : Option IntKind
  isB : Bool := false
  isI : Bool := false
  isS : Bool := false
  isT : Bool := false
  eqI : Option (List IntKind) := none

/-- What is reckoned with data: as variables, so that an evaluation lets it stand. -/
structure Lf where
  ar : BinOp → IntKind → Int → Int → Int
  cm : BinOp → Int → Int → Bool
  bo : Bool → Bool → Bool → Bool
  sc : BinOp → ByteArray → ByteArray → Bool
  sa : ByteArray → ByteArray → ByteArray
  sx : ByteArray → Int → Int
  ss : ByteArray → Int → Int → ByteArray
  sl : ByteArray → Int
  bs : Rws → ByteArray
  sb : ByteArray → Rws
  ln : Rws → Int
  sr : Rws → Int → Int → Rws
  ap : Rws → Rws → Rws
  up : Rws → Int → Nat → List T → Rws
  rp : Int → List T → Rws
  fr : Rws → Rws
  ge : Rws → Int → List T
  le : Int → Int → Prop
  lt : Int → Int → Prop
  nz : Int → Prop
  mm : Int → Nat → Prop
  ma : Rws → Rws → Nat → Prop
  sm : ByteArray → ByteArray → Prop
  fl : Nat → Rws → Prop
  al : Nat → Rws → Prop
  ci : Bool → Int → Int → Int

inductive Sup where
  | el (cs : List T)
  | lk (es : List T) (ls : List (Nat × Nat))
  | call (own : List Bool) (outs res : List A)
  | hd (ids : List Nat) (v : V) (os : List (Nat × O))
  | on0
  | on1 (s : Sup)
  | off (v : V)

structure Out where
  ps : List Prop
  v : V
  os : List (Nat × O)
  used : Bool

def ev (env : List (Nat × V)) : Operand → V
  | .tmp t => look .u env t
  | .const v => .t (.s v)
  | .func f => .fn f []
  | .global _ => .u

/-- A conditional value where it is used: its condition must hold. -/
def strip : V → List Prop × V
  | .cd b v => ([b = true], v)
  | v => ([], v)

def bitsOp (op : BinOp) : Bool := match op with | .and | .or | .xor | .andNot => true | _ => false

def binV (L : Lf) : BinOp → Value → Value → Option (List Prop × Value)
  | .add, .int k x, .int k' y => some ([k = k'], .int k (L.ar .add k x y))
  | .sub, .int k x, .int k' y => some ([k = k'], .int k (L.ar .sub k x y))
  | .mul, .int k x, .int k' y => some ([k = k'], .int k (L.ar .mul k x y))
  | .quo, .int k x, .int k' y => some ([k = k', L.nz y], .int k (L.ar .quo k x y))
  | .rem, .int k x, .int k' y => some ([k = k', L.nz y], .int k (L.ar .rem k x y))
  | .and, .int k x, .int k' y => some ([k = k'], .int k (L.ar .and k x y))
  | .xor, .int k x, .int k' y => some ([k = k'], .int k (L.ar .xor k x y))
  | .shr, .int k x, .int k' y => some ([k = k, k' = .u64, L.le 0 y, L.lt y 64], .int k (L.ar .shr k x y))
  | .eql, .int k x, .int k' y => some ([k = k'], .bool (L.cm .eql x y))
  | .neq, .int k x, .int k' y => some ([k = k'], .bool (L.cm .neq x y))
  | .lss, .int k x, .int k' y => some ([k = k'], .bool (L.cm .lss x y))
  | .leq, .int k x, .int k' y => some ([k = k'], .bool (L.cm .leq x y))
  | .gtr, .int k x, .int k' y => some ([k = k'], .bool (L.cm .gtr x y))
  | .geq, .int k x, .int k' y => some ([k = k'], .bool (L.cm .geq x y))
  | .eql, .bool x, .bool y => some ([], .bool (L.bo x y (L.bo y false true)))
  | .neq, .bool x, .bool y => some ([], .bool (L.bo x (L.bo y false true) y))
  | .eql, .string x, .string y => some ([], .bool (L.sc .eql x y))
  | .neq, .string x, .string y => some ([], .bool (L.sc .neq x y))
  | .lss, .string x, .string y => some ([], .bool (L.sc .lss x y))
  | .geq, .string x, .string y => some ([], .bool (L.sc .geq x y))
  | .gtr, .string x, .string y => some ([], .bool (L.sc .gtr x y))
  | .leq, .string x, .string y => some ([], .bool (L.sc .leq x y))
  | .add, .string x, .string y => some ([L.sm x y], .string (L.sa x y))
  | .eql, .nilIface, .nilIface => some ([], .bool true)
  | .neq, .nilIface, .nilIface => some ([], .bool false)
  | _, _, _ => none

def unV (L : Lf) : UnOp → Value → Option Value
  | .not, .bool b => some (.bool (L.bo b false true))
  | .neg, .int k x => some (.int k (L.ar .sub k 0 x))
  | _, _ => none

/-- Structs that hold plain values alone, compared. -/
def eqCells (L : Lf) : List V → List V → Option Bool
  | [], [] => some true
  | .t (.s (.int _ x)) :: r, .t (.s (.int _ y)) :: r' => match eqCells L r r' with
    | some b => some (L.bo (L.cm .eql x y) b false)
    | none => none
  | _, _ => none

def pickV (L : Lf) (c : Bool) : V → V → Option V
  | .t (.s (.bool x)), .t (.s (.bool y)) => some (.t (.s (.bool (L.bo c x y))))
  | _, _ => none

def cellsOf : V → Option (List V)
  | .ag cs => some cs
  | .tu _ => none
  | .cd _ _ => none
  | .hl _ _ _ _ _ => none
  | .u => none
  | v => some [v]

def atomsB : List V → Bool
  | [] => true
  | .ag _ :: _ => false
  | .tu _ :: _ => false
  | .cd _ _ :: _ => false
  | .hl _ _ _ _ _ :: _ => false
  | .u :: _ => false
  | _ :: r => atomsB r

def fit (t : Ty) (cs : List V) : Option V := match t.agg with
  | true => some (.ag cs)
  | false => match cs with
    | [c] => some c
    | _ => none

def takeN {α : Type} : Nat → List α → List α
  | 0, _ => []
  | _ + 1, [] => []
  | n + 1, x :: r => x :: takeN n r

def dropN {α : Type} : Nat → List α → List α
  | 0, l => l
  | _ + 1, [] => []
  | n + 1, _ :: r => dropN n r

def lenN {α : Type} : List α → Nat
  | [] => 0
  | _ :: r => lenN r + 1

/-- The cells of an element of an owned row, from cell j on, as values here. -/
def rowCells (id ver : Nat) (i : Int) : Nat → List T → Option (List V)
  | _, [] => some []
  | j, c :: cs => match rowCells id ver i (j + 1) cs with
    | none => none
    | some vs => match c with
      | .s v => some (.t (.s v) :: vs)
      | .im k r => some (.t (.im k r) :: vs)
      | .ow e r => some (.np id ver i j e r :: vs)
      | _ => none

def lenV (L : Lf) (objs : List (Nat × O)) : V → Option Int
  | .t (.im _ rows) => some (L.ln rows)
  | .t (.s (.slice none 0 0)) => some 0
  | .t (.s (.string s)) => some (L.sl s)
  | .rf id => match look .dead objs id with
    | .row _ _ _ rows => some (L.ln rows)
    | _ => none
  | .sb _ lo hi => some (L.ar .sub .i64 hi lo)
  | .np _ _ _ _ _ rows => some (L.ln rows)
  | _ => none

def getTy : List (Nat × Ty) → Nat → Option Ty
  | [], _ => none
  | (k, x) :: r, n => bif nq n k then some x else getTy r n

def nth {α : Type} : List α → Nat → Option α
  | [], _ => none
  | x :: _, 0 => some x
  | _ :: r, n + 1 => nth r n

/-- What is laid into an owned row: a value's cells as trees; which objects are used up. -/
def sinkCell (objs : List (Nat × O)) : V → Option (T × List Nat)
  | .t (.s v) => some (.s v, [])
  | .t (.im true r) => some (.im true r, [])
  | .rf id => match look .dead objs id with
    | .row _ e _ rows => some (.ow e rows, [id])
    | _ => none
  | _ => none

def sinkCells (objs : List (Nat × O)) : List V → Option (List T × List Nat)
  | [] => some ([], [])
  | c :: cs => match sinkCell objs c with
    | none => none
    | some (x, d) => match sinkCells objs cs with
      | none => none
      | some (xs, ds) => some (x :: xs, d ++ ds)

def deads : List Nat → List (Nat × O)
  | [] => []
  | d :: r => (d, .dead) :: deads r

def nodupB : List Nat → Bool
  | [] => true
  | d :: r => match memB d r with
    | true => false
    | false => nodupB r
where memB (d : Nat) : List Nat → Bool
  | [] => false
  | x :: r => bif nq d x then true else memB d r

/-- Plain rows, sz cells each: no slice in them. -/
def Flat (sz : Nat) (rows : Rws) : Prop := ∀ r ∈ rows, r.length = sz ∧ ∀ c ∈ r, ∃ v, c = T.s v

/-- The parts of a slice's literal, one element each, in order. -/
def litRows (objs : List (Nat × O)) (env : List (Nat × V)) (size : Nat) : Nat → List (Nat × Operand) → Option (List Prop × Rws × List Nat)
  | _, [] => some ([], [], [])
  | n, (i, x) :: r => match nq i n with
    | false => none
    | true => match strip (ev env x) with
      | (p, v) => match cellsOf v with
       | none => none
       | some vc => match nq (lenN vc) size with
        | false => none
        | true => match sinkCells objs vc with
          | none => none
          | some (cs, d) => match litRows objs env size (n + 1) r with
            | none => none
            | some (ps, rows, ds) => some (p ++ ps, cs :: rows, d ++ ds)

/-- A struct's literal: its fields' cells laid over the zero's. -/
def fillParts (env : List (Nat × V)) (offs : List (Nat × Nat)) : List (Nat × Operand) → List V → Option (List Prop × List V)
  | [], cs => some ([], cs)
  | (i, x) :: r, cs => match nth offs i with
    | none => none
    | some (o, sz) => match strip (ev env x) with
      | (p, v) => match cellsOf v with
       | none => none
       | some vc => match nq (lenN vc) sz, nl (o + sz) (lenN cs) with
        | true, true => match fillParts env offs r (takeN o cs ++ vc ++ dropN (o + sz) cs) with
          | none => none
          | some (ps, cs) => some (p ++ ps, cs)
        | _, _ => none

/-- The source of an append: its rows; what is used up; what is asked. -/
def source (L : Lf) (objs : List (Nat × O)) (size : Nat) : V → Option (List Prop × Rws × List Nat)
  | .t (.s (.slice none 0 0)) => some ([], [], [])
  | .t (.im false rows) => some ([L.fl size rows], rows, [])
  | .t (.im true rows) => some ([L.al size rows], rows, [])
  | .rf id => match look .dead objs id with
    | .row _ _ sz rows => match nq sz size with
      | true => some ([], rows, [id])
      | false => none
    | _ => none
  | .sb id lo hi => match look .dead objs id with
    | .row _ _ sz rows => match nq sz size with
      | true => some ([L.fl size rows, L.le hi (L.ln rows)], L.sr rows lo hi, [])
      | false => none
    | _ => none
  | _ => none

def target (objs : List (Nat × O)) (e : Nat) : V → Option (Rws × List Nat)
  | .t (.s (.slice none 0 0)) => some ([], [])
  | .rf id => match look .dead objs id with
    | .row _ e' _ rows => match nq e e' with
      | true => some (rows, [id])
      | false => none
    | _ => none
  | _ => none

/-- A borrowed argument, as a tree. -/
def lendCell (L : Lf) (objs : List (Nat × O)) : Nat → V → Option T
  | _, .t (.s v) => some (.s v)
  | _, .t .er => some .er
  | _, .t (.im _ r) => some (.im false r)
  | _, .rf id => match look .dead objs id with
    | .row _ _ _ rows => some (.im false (L.fr rows))
    | _ => none
  | _, .sb id lo hi => match look .dead objs id with
    | .row _ _ _ rows => some (.im false (L.fr (L.sr rows lo hi)))
    | _ => none
  | _, .np id ver _ _ _ rows => match look .dead objs id with
    | .row ver' _ _ _ => match nq ver ver' with
      | true => some (.im false (L.fr rows))
      | false => none
    | _ => none
  | _, .t (.ip cs) => some (.ip cs)
  | n + 1, .pt id 0 j => match look .dead objs id with
    | .box _ cs => match lendAll n (dropN j cs) with
      | some ts => some (.ip ts)
      | none => none
    | _ => none
  | n + 1, .fn f cs => match lendAll n cs with
    | some ts => some (.fn f ts)
    | none => none
  | _, _ => none
where lendAll : Nat → List V → Option (List T)
  | _, [] => some []
  | 0, _ => none
  | n + 1, c :: cs => match lendCell L objs n c with
    | none => none
    | some x => match lendAll n cs with
      | none => none
      | some xs => some (x :: xs)

end Go.Proofs.Ytgicjbeaomjdgaa.L
