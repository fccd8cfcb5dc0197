/- Abstract states for Go code: trees for data, symbolic temporaries and objects; an operation's step as an update. -/
import Derived.Laws.AppendOwn
import Derived.Below
import Derived.Lib.ItoaNum
import Derived.Laws.Entries
import Derived.Tactics
namespace Go.Proofs.YtcpekllcbimpmaaGreatDoor.L
set_option linter.unusedVariables false
set_option linter.unusedSimpArgs false
open Go
def nq (a b : Nat) : Bool := a == b
def nl (a b : Nat) : Bool := decide (a ≤ b)
theorem nq_eq {a b : Nat} (h : nq a b = true) : a = b := by simpa [nq] using h
theorem nl_le {a b : Nat} (h : nl a b = true) : a ≤ b := by simpa [nl] using h
theorem qGG (a : Nat) : nq a a = true := by simp [nq]
theorem qHU {a b : Nat} : nl a b = true ↔ a ≤ b := by simp [nl]
inductive T where
 | s (v : Value)
 | jk
 | er
 | im (k : Bool) (rows : List (List T))
 | ow (e : Nat) (rows : List (List T))
 | ip (cs : List T)
 | bx (e : Nat) (cs : List T)
 | fn (f : FuncId) (cs : List T)
 deriving Inhabited
abbrev Rws := List (List T)
inductive A where
 | v (x : T)
 | ag (xs : List T)
def A.cells : A → List T
 | .v x => [x]
 | .ag xs => xs
def A.jk : A → A
 | .v _ => .v .jk
 | .ag xs => .ag (xs.map fun _ => .jk)
inductive V where
 | t (x : T)
 | rf (id : Nat)
 | sb (id : Nat) (lo hi : Int)
 | np (id ver : Nat) (i : Int) (j e : Nat) (rows : Rws)
 | pt (id : Nat) (i : Int) (j : Nat)
 | ag (cs : List V)
 | tu (cs : List V)
 | fn (f : FuncId) (cs : List V)
 | cd (b : Bool) (v : V)
 | hl (id ver : Nat) (i : Int) (j id2 : Nat)
 | u
 deriving Inhabited
inductive O where
 | row (ver e sz : Nat) (rows : Rws)
 | box (e : Nat) (cs : List V)
 | dead
 deriving Inhabited
structure St where
 n : Nat
 nx : Nat
 env : List (Nat × V)
 objs : List (Nat × O)
def look {α : Type} (d : α) : List (Nat × α) → Nat → α
 | [], _ => d
 | (k, x) :: r, n => bif nq n k then x else look d r n
structure Ty where
 agg : Bool
 size : Nat
 bytes : Nat
 elem : Nat
 offs : List (Nat × Nat)
 zero : List Value
 ik : Option IntKind
 isB : Bool := false
 isI : Bool := false
 isS : Bool := false
 isT : Bool := false
 eqI : Option (List IntKind) := none
structure Lf where
 ar : BinOp → IntKind → Int → Int → Int
 cm : BinOp → Int → Int → Bool
 bo : Bool → Bool → Bool → Bool
 sc : BinOp → ByteArray → ByteArray → Bool
 sa : ByteArray → ByteArray → ByteArray
 sx : ByteArray → Int → Int
 ss : ByteArray → Int → Int → ByteArray
 sl : ByteArray → Int
 bs : Rws → ByteArray
 sb : ByteArray → Rws
 ln : Rws → Int
 sr : Rws → Int → Int → Rws
 ap : Rws → Rws → Rws
 up : Rws → Int → Nat → List T → Rws
 rp : Int → List T → Rws
 fr : Rws → Rws
 ge : Rws → Int → List T
 le : Int → Int → Prop
 lt : Int → Int → Prop
 nz : Int → Prop
 mm : Int → Nat → Prop
 ma : Rws → Rws → Nat → Prop
 sm : ByteArray → ByteArray → Prop
 fl : Nat → Rws → Prop
 al : Nat → Rws → Prop
 ci : Bool → Int → Int → Int
inductive Sup where
 | el (cs : List T)
 | lk (es : List T) (ls : List (Nat × Nat))
 | call (own : List Bool) (outs res : List A)
 | hd (ids : List Nat) (v : V) (os : List (Nat × O))
 | on0
 | on1 (s : Sup)
 | off (v : V)
structure Out where
 ps : List Prop
 v : V
 os : List (Nat × O)
 used : Bool
def ev (env : List (Nat × V)) : Operand → V
 | .tmp t => look .u env t
 | .const v => .t (.s v)
 | .func f => .fn f []
 | .global _ => .u
def strip : V → List Prop × V
 | .cd b v => ([b = true], v)
 | v => ([], v)
def bitsOp (op : BinOp) : Bool := match op with | .and | .or | .xor | .andNot => true | _ => false
def binV (L : Lf) : BinOp → Value → Value → Option (List Prop × Value)
 | .add, .int k x, .int k' y => some ([k = k'], .int k (L.ar .add k x y))
 | .sub, .int k x, .int k' y => some ([k = k'], .int k (L.ar .sub k x y))
 | .mul, .int k x, .int k' y => some ([k = k'], .int k (L.ar .mul k x y))
 | .quo, .int k x, .int k' y => some ([k = k', L.nz y], .int k (L.ar .quo k x y))
 | .rem, .int k x, .int k' y => some ([k = k', L.nz y], .int k (L.ar .rem k x y))
 | .and, .int k x, .int k' y => some ([k = k'], .int k (L.ar .and k x y))
 | .xor, .int k x, .int k' y => some ([k = k'], .int k (L.ar .xor k x y))
 | .shr, .int k x, .int k' y => some ([k = k, k' = .u64, L.le 0 y, L.lt y 64], .int k (L.ar .shr k x y))
 | .eql, .int k x, .int k' y => some ([k = k'], .bool (L.cm .eql x y))
 | .neq, .int k x, .int k' y => some ([k = k'], .bool (L.cm .neq x y))
 | .lss, .int k x, .int k' y => some ([k = k'], .bool (L.cm .lss x y))
 | .leq, .int k x, .int k' y => some ([k = k'], .bool (L.cm .leq x y))
 | .gtr, .int k x, .int k' y => some ([k = k'], .bool (L.cm .gtr x y))
 | .geq, .int k x, .int k' y => some ([k = k'], .bool (L.cm .geq x y))
 | .eql, .bool x, .bool y => some ([], .bool (L.bo x y (L.bo y false true)))
 | .neq, .bool x, .bool y => some ([], .bool (L.bo x (L.bo y false true) y))
 | .eql, .string x, .string y => some ([], .bool (L.sc .eql x y))
 | .neq, .string x, .string y => some ([], .bool (L.sc .neq x y))
 | .lss, .string x, .string y => some ([], .bool (L.sc .lss x y))
 | .geq, .string x, .string y => some ([], .bool (L.sc .geq x y))
 | .gtr, .string x, .string y => some ([], .bool (L.sc .gtr x y))
 | .leq, .string x, .string y => some ([], .bool (L.sc .leq x y))
 | .add, .string x, .string y => some ([L.sm x y], .string (L.sa x y))
 | .eql, .nilIface, .nilIface => some ([], .bool true)
 | .neq, .nilIface, .nilIface => some ([], .bool false)
 | _, _, _ => none
def unV (L : Lf) : UnOp → Value → Option Value
 | .not, .bool b => some (.bool (L.bo b false true))
 | .neg, .int k x => some (.int k (L.ar .sub k 0 x))
 | _, _ => none
def eqCells (L : Lf) : List V → List V → Option Bool
 | [], [] => some true
 | .t (.s (.int _ x)) :: r, .t (.s (.int _ y)) :: r' => match eqCells L r r' with
  | some b => some (L.bo (L.cm .eql x y) b false)
  | none => none
 | _, _ => none
def pickV (L : Lf) (c : Bool) : V → V → Option V
 | .t (.s (.bool x)), .t (.s (.bool y)) => some (.t (.s (.bool (L.bo c x y))))
 | _, _ => none
def cellsOf : V → Option (List V)
 | .ag cs => some cs
 | .tu _ => none
 | .cd _ _ => none
 | .hl _ _ _ _ _ => none
 | .u => none
 | v => some [v]
def atomsB : List V → Bool
 | [] => true
 | .ag _ :: _ => false
 | .tu _ :: _ => false
 | .cd _ _ :: _ => false
 | .hl _ _ _ _ _ :: _ => false
 | .u :: _ => false
 | _ :: r => atomsB r
def fit (t : Ty) (cs : List V) : Option V := match t.agg with
 | true => some (.ag cs)
 | false => match cs with
  | [c] => some c
  | _ => none
def takeN {α : Type} : Nat → List α → List α
 | 0, _ => []
 | _ + 1, [] => []
 | n + 1, x :: r => x :: takeN n r
def dropN {α : Type} : Nat → List α → List α
 | 0, l => l
 | _ + 1, [] => []
 | n + 1, _ :: r => dropN n r
def lenN {α : Type} : List α → Nat
 | [] => 0
 | _ :: r => lenN r + 1
def rowCells (id ver : Nat) (i : Int) : Nat → List T → Option (List V)
 | _, [] => some []
 | j, c :: cs => match rowCells id ver i (j + 1) cs with
  | none => none
  | some vs => match c with
   | .s v => some (.t (.s v) :: vs)
   | .im k r => some (.t (.im k r) :: vs)
   | .ow e r => some (.np id ver i j e r :: vs)
   | _ => none
def lenV (L : Lf) (objs : List (Nat × O)) : V → Option Int
 | .t (.im _ rows) => some (L.ln rows)
 | .t (.s (.slice none 0 0)) => some 0
 | .t (.s (.string s)) => some (L.sl s)
 | .rf id => match look .dead objs id with
  | .row _ _ _ rows => some (L.ln rows)
  | _ => none
 | .sb _ lo hi => some (L.ar .sub .i64 hi lo)
 | .np _ _ _ _ _ rows => some (L.ln rows)
 | _ => none
def getTy : List (Nat × Ty) → Nat → Option Ty
 | [], _ => none
 | (k, x) :: r, n => bif nq n k then some x else getTy r n
def nth {α : Type} : List α → Nat → Option α
 | [], _ => none
 | x :: _, 0 => some x
 | _ :: r, n + 1 => nth r n
def sinkCell (objs : List (Nat × O)) : V → Option (T × List Nat)
 | .t (.s v) => some (.s v, [])
 | .t (.im true r) => some (.im true r, [])
 | .rf id => match look .dead objs id with
  | .row _ e _ rows => some (.ow e rows, [id])
  | _ => none
 | _ => none
def sinkCells (objs : List (Nat × O)) : List V → Option (List T × List Nat)
 | [] => some ([], [])
 | c :: cs => match sinkCell objs c with
  | none => none
  | some (x, d) => match sinkCells objs cs with
   | none => none
   | some (xs, ds) => some (x :: xs, d ++ ds)
def deads : List Nat → List (Nat × O)
 | [] => []
 | d :: r => (d, .dead) :: deads r
def nodupB : List Nat → Bool
 | [] => true
 | d :: r => match memB d r with
  | true => false
  | false => nodupB r
where memB (d : Nat) : List Nat → Bool
 | [] => false
 | x :: r => bif nq d x then true else memB d r
def Flat (sz : Nat) (rows : Rws) : Prop := ∀ r ∈ rows, r.length = sz ∧ ∀ c ∈ r, ∃ v, c = T.s v
def litRows (objs : List (Nat × O)) (env : List (Nat × V)) (size : Nat) : Nat → List (Nat × Operand) → Option (List Prop × Rws × List Nat)
  | _, [] => some ([], [], [])
  | n, (i, x) :: r => match nq i n with
    | false => none
    | true => match strip (ev env x) with
      | (p, v) => match cellsOf v with
       | none => none
       | some vc => match nq (lenN vc) size with
        | false => none
        | true => match sinkCells objs vc with
          | none => none
          | some (cs, d) => match litRows objs env size (n + 1) r with
            | none => none
            | some (ps, rows, ds) => some (p ++ ps, cs :: rows, d ++ ds)
def fillParts (env : List (Nat × V)) (offs : List (Nat × Nat)) : List (Nat × Operand) → List V → Option (List Prop × List V)
  | [], cs => some ([], cs)
  | (i, x) :: r, cs => match nth offs i with
    | none => none
    | some (o, sz) => match strip (ev env x) with
      | (p, v) => match cellsOf v with
       | none => none
       | some vc => match nq (lenN vc) sz, nl (o + sz) (lenN cs) with
        | true, true => match fillParts env offs r (takeN o cs ++ vc ++ dropN (o + sz) cs) with
          | none => none
          | some (ps, cs) => some (p ++ ps, cs)
        | _, _ => none
def source (L : Lf) (objs : List (Nat × O)) (size : Nat) : V → Option (List Prop × Rws × List Nat)
 | .t (.s (.slice none 0 0)) => some ([], [], [])
 | .t (.im false rows) => some ([L.fl size rows], rows, [])
 | .t (.im true rows) => some ([L.al size rows], rows, [])
 | .rf id => match look .dead objs id with
  | .row _ _ sz rows => match nq sz size with
   | true => some ([], rows, [id])
   | false => none
  | _ => none
 | .sb id lo hi => match look .dead objs id with
  | .row _ _ sz rows => match nq sz size with
   | true => some ([L.fl size rows, L.le hi (L.ln rows)], L.sr rows lo hi, [])
   | false => none
  | _ => none
 | _ => none
def target (objs : List (Nat × O)) (e : Nat) : V → Option (Rws × List Nat)
 | .t (.s (.slice none 0 0)) => some ([], [])
 | .rf id => match look .dead objs id with
  | .row _ e' _ rows => match nq e e' with
   | true => some (rows, [id])
   | false => none
  | _ => none
 | _ => none
def lendCell (L : Lf) (objs : List (Nat × O)) : Nat → V → Option T
 | _, .t (.s v) => some (.s v)
 | _, .t .er => some .er
 | _, .t (.im _ r) => some (.im false r)
 | _, .rf id => match look .dead objs id with
  | .row _ _ _ rows => some (.im false (L.fr rows))
  | _ => none
 | _, .sb id lo hi => match look .dead objs id with
  | .row _ _ _ rows => some (.im false (L.fr (L.sr rows lo hi)))
  | _ => none
 | _, .np id ver _ _ _ rows => match look .dead objs id with
  | .row ver' _ _ _ => match nq ver ver' with
   | true => some (.im false (L.fr rows))
   | false => none
  | _ => none
 | _, .t (.ip cs) => some (.ip cs)
 | n + 1, .pt id 0 j => match look .dead objs id with
  | .box _ cs => match lendAll n (dropN j cs) with
   | some ts => some (.ip ts)
   | none => none
  | _ => none
 | n + 1, .fn f cs => match lendAll n cs with
  | some ts => some (.fn f ts)
  | none => none
 | _, _ => none
where lendAll : Nat → List V → Option (List T)
 | _, [] => some []
 | 0, _ => none
 | n + 1, c :: cs => match lendCell L objs n c with
  | none => none
  | some x => match lendAll n cs with
   | none => none
   | some xs => some (x :: xs)
end Go.Proofs.YtcpekllcbimpmaaGreatDoor.L
namespace Go.Proofs.YtcpekllcbimpmaaGreatDoor.L
set_option linter.unusedVariables false
set_option linter.unusedSimpArgs false
open Go
def Dj (a b : Nat → Prop) : Prop := ∀ x, a x → b x → False
def Sub (a b : Nat → Prop) : Prop := ∀ x, a x → b x
def no : Nat → Prop := fun _ => False
inductive CR (P : Program) (w : World) (K : Nat → Prop) : (Nat → Prop) → List T → List Value → (Nat → Prop) → Prop
 | nil {S φ} : CR P w K S [] [] φ
 | s {S φ v ts us} (h1 : v.oneCell' = true) (h : CR P w K S ts us φ) : CR P w K S (.s v :: ts) (v :: us) φ
 | jk {S φ v ts us} (h1 : v.oneCell' = true) (h : CR P w K S ts us φ) : CR P w K S (.jk :: ts) (v :: us) φ
 | er {S φ t x ts us} (h : CR P w K S ts us φ) : CR P w K S (.er :: ts) (.iface t x :: us) φ
 | im0 {S φ rows A n c ts us} (hn : n = rows.length) (hc : n ≤ c) (sz : Nat) (hs : ∀ r ∈ rows, r.length = sz) (vs : List Value)
   (hA : 0 < n → ∃ b o, A = some ⟨b, o, none⟩ ∧ S b ∧ ∀ j u, vs[j]? = some u → w.cell? ⟨b, o + j, none⟩ = some u)
   (hr : CR P w K S rows.flatten vs no) (h : CR P w K S ts us φ) : CR P w K S (.im false rows :: ts) (.slice A n c :: us) φ
 | im1 {S φ rows A n c ts us} (hn : n = rows.length) (hc : n ≤ c) (sz : Nat) (hs : ∀ r ∈ rows, r.length = sz) (vs : List Value)
   (hA : 0 < n → ∃ b o, A = some ⟨b, o, none⟩ ∧ K b ∧ ∀ j u, vs[j]? = some u → w.cell? ⟨b, o + j, none⟩ = some u)
   (hr : CR P w K K rows.flatten vs no) (h : CR P w K S ts us φ) : CR P w K S (.im true rows :: ts) (.slice A n c :: us) φ
 | ow {S φ φ1 φ2 e rows v ts us} (hs : ∀ r ∈ rows, r.length = P.cellsOf e) (vs : List Value)
   (ho : w.ownsRow 0 e (P.cellsOf e) v rows.length vs) (ψ : Nat → Prop) (hb : ∀ b, v.ownBlock = some b → φ1 b ∧ ¬ ψ b) (hψ : Sub ψ φ1)
   (hr : CR P w K K rows.flatten vs ψ) (h : CR P w K S ts us φ2) (hd : Dj φ1 φ2) (h1 : Sub φ1 φ) (h2 : Sub φ2 φ) : CR P w K S (.ow e rows :: ts) (v :: us) φ
 | ip {S φ cs b o ts us} (vs : List Value) (hS : 0 < cs.length → S b) (hA : ∀ j u, vs[j]? = some u → w.cell? ⟨b, o + j, none⟩ = some u)
   (hr : CR P w K S cs vs no) (h : CR P w K S ts us φ) : CR P w K S (.ip cs :: ts) (.pointer (some ⟨b, o, none⟩) :: us) φ
 | bx {S φ φ1 φ2 e cs g ts us} (vs : List Value) (hg : w.heap[g]? = some (.cells vs.toArray e (0, 0))) (ψ : Nat → Prop) (hb : φ1 g ∧ ¬ ψ g) (hψ : Sub ψ φ1)
   (hr : CR P w K K cs vs ψ) (h : CR P w K S ts us φ2) (hd : Dj φ1 φ2) (h1 : Sub φ1 φ) (h2 : Sub φ2 φ) : CR P w K S (.bx e cs :: ts) (.pointer (some ⟨g, 0, none⟩) :: us) φ
 | fn {S φ f cs ts us} (vs : List Value) (hr : CR P w K S cs vs no) (h : CR P w K S ts us φ) : CR P w K S (.fn f cs :: ts) (.func (.func f) #[] vs.toArray :: us) φ
variable {P : Program} {w w' : World} {K K' S S' φ φ' : Nat → Prop} {ts : List T} {us : List Value}
theorem CR.mono (h : CR P w K S ts us φ) : ∀ {φ'}, Sub φ φ' → CR P w K S ts us φ' := by
 induction h with
 | nil => intro φ' _; exact .nil
 | s h1 _ ih => intro φ' hs; exact .s h1 (ih hs)
 | jk h1 _ ih => intro φ' hs; exact .jk h1 (ih hs)
 | er _ ih => intro φ' hs; exact .er (ih hs)
 | im0 hn hc sz hss vs hA hr _ _ ih => intro φ' hs; exact .im0 hn hc sz hss vs hA hr (ih hs)
 | im1 hn hc sz hss vs hA hr _ _ ih => intro φ' hs; exact .im1 hn hc sz hss vs hA hr (ih hs)
 | ow hs vs ho ψ hb hψ hr h hd h1 h2 _ _ => intro φ' hs'; exact .ow hs vs ho ψ hb hψ hr h hd (fun x hx => hs' x (h1 x hx)) (fun x hx => hs' x (h2 x hx))
 | ip vs hS hA hr _ _ ih => intro φ' hs; exact .ip vs hS hA hr (ih hs)
 | bx vs hg ψ hb hψ hr h hd h1 h2 _ _ => intro φ' hs'; exact .bx vs hg ψ hb hψ hr h hd (fun x hx => hs' x (h1 x hx)) (fun x hx => hs' x (h2 x hx))
 | fn vs hr _ _ ih => intro φ' hs; exact .fn vs hr (ih hs)
theorem CR.more (h : CR P w K S ts us φ) : ∀ {S'}, Sub S S' → CR P w K S' ts us φ := by
 induction h with
 | nil => intro S' _; exact .nil
 | s h1 _ ih => intro S' hs; exact .s h1 (ih hs)
 | jk h1 _ ih => intro S' hs; exact .jk h1 (ih hs)
 | er _ ih => intro S' hs; exact .er (ih hs)
 | im0 hn hc sz hss vs hA hr _ ihr ih =>
  intro S' hs
  exact .im0 hn hc sz hss vs (fun hp => let ⟨b, o, e, hb, hx⟩ := hA hp; ⟨b, o, e, hs b hb, hx⟩) (ihr hs) (ih hs)
 | im1 hn hc sz hss vs hA hr _ _ ih => intro S' hs; exact .im1 hn hc sz hss vs hA hr (ih hs)
 | ow hs vs ho ψ hb hψ hr h hd h1 h2 _ ih => intro S' hs'; exact .ow hs vs ho ψ hb hψ hr (ih hs') hd h1 h2
 | ip vs hS hA hr _ ihr ih => intro S' hs; exact .ip vs (fun hp => hs _ (hS hp)) hA (ihr hs) (ih hs)
 | bx vs hg ψ hb hψ hr h hd h1 h2 _ ih => intro S' hs'; exact .bx vs hg ψ hb hψ hr (ih hs') hd h1 h2
 | fn vs hr _ ihr ih => intro S' hs; exact .fn vs (ihr hs) (ih hs)
theorem CR.moreK (hk : Sub K K') (h : CR P w K S ts us φ) : ∀ {S'}, Sub S S' → CR P w K' S' ts us φ := by
 induction h with
 | nil => intro S' _; exact .nil
 | s h1 _ ih => intro S' hs; exact .s h1 (ih hs)
 | jk h1 _ ih => intro S' hs; exact .jk h1 (ih hs)
 | er _ ih => intro S' hs; exact .er (ih hs)
 | im0 hn hc sz hss vs hA hr _ ihr ih =>
  intro S' hs
  exact .im0 hn hc sz hss vs (fun hp => let ⟨b, o, e, hb, hx⟩ := hA hp; ⟨b, o, e, hs b hb, hx⟩) (ihr hs) (ih hs)
 | im1 hn hc sz hss vs hA hr _ ihr ih =>
  intro S' hs
  exact .im1 hn hc sz hss vs (fun hp => let ⟨b, o, e, hb, hx⟩ := hA hp; ⟨b, o, e, hk b hb, hx⟩) (ihr hk) (ih hs)
 | ow hs vs ho ψ hb hψ hr h hd h1 h2 ihr ih => intro S' hs'; exact .ow hs vs ho ψ hb hψ (ihr hk) (ih hs') hd h1 h2
 | ip vs hS hA hr _ ihr ih => intro S' hs; exact .ip vs (fun hp => hs _ (hS hp)) hA (ihr hs) (ih hs)
 | bx vs hg ψ hb hψ hr h hd h1 h2 ihr ih => intro S' hs'; exact .bx vs hg ψ hb hψ (ihr hk) (ih hs') hd h1 h2
 | fn vs hr _ ihr ih => intro S' hs; exact .fn vs (ihr hs) (ih hs)
theorem CR.len (h : CR P w K S ts us φ) : us.length = ts.length := by
 induction h <;> simp_all
theorem CR.one (h : CR P w K S ts us φ) : ∀ u ∈ us, u.oneCell' = true := by
 induction h with
 | nil => intro u hu; simp at hu
 | s h1 _ ih => intro u hu; rcases List.mem_cons.1 hu with rfl | hu; exact h1; exact ih u hu
 | jk h1 _ ih => intro u hu; rcases List.mem_cons.1 hu with rfl | hu; exact h1; exact ih u hu
 | er _ ih => intro u hu; rcases List.mem_cons.1 hu with rfl | hu; rfl; exact ih u hu
 | im0 _ _ _ _ _ _ _ _ _ ih => intro u hu; rcases List.mem_cons.1 hu with rfl | hu; rfl; exact ih u hu
 | im1 _ _ _ _ _ _ _ _ _ ih => intro u hu; rcases List.mem_cons.1 hu with rfl | hu; rfl; exact ih u hu
 | ow hs vs ho ψ hb hψ hr h hd h1 h2 _ ih =>
  intro u hu
  rcases List.mem_cons.1 hu with rfl | hu
  · rcases ho.2 with ⟨rfl, _⟩ | ⟨g, cap, cur, rfl, _⟩ <;> rfl
  exact ih u hu
 | ip _ _ _ _ _ _ ih => intro u hu; rcases List.mem_cons.1 hu with rfl | hu; rfl; exact ih u hu
 | bx vs hg ψ hb hψ hr h hd h1 h2 _ ih => intro u hu; rcases List.mem_cons.1 hu with rfl | hu; rfl; exact ih u hu
 | fn _ _ _ _ ih => intro u hu; rcases List.mem_cons.1 hu with rfl | hu; rfl; exact ih u hu
theorem CR.move (h : CR P w K S ts us φ) (hK : ∀ b, K b → w'.heap[b]? = w.heap[b]?) (hS : ∀ b, S b → w'.heap[b]? = w.heap[b]?) (hφ : ∀ b, φ b → w'.heap[b]? = w.heap[b]?) : CR P w' K S ts us φ := by
 have cell : ∀ {b o u}, w'.heap[b]? = w.heap[b]? → w.cell? ⟨b, o, none⟩ = some u → w'.cell? ⟨b, o, none⟩ = some u := by
  intro b o u hb hu
  rw [World.cell?_of_block (w := w) (a := ⟨b, o, none⟩) hb]; exact hu
 induction h with
 | nil => exact .nil
 | s h1 _ ih => exact .s h1 (ih hS hφ)
 | jk h1 _ ih => exact .jk h1 (ih hS hφ)
 | er _ ih => exact .er (ih hS hφ)
 | im0 hn hc sz hss vs hA hr _ ihr ih =>
  exact .im0 hn hc sz hss vs (fun hp => let ⟨b, o, e, hb, hx⟩ := hA hp; ⟨b, o, e, hb, fun j u hu => cell (hS b hb) (hx j u hu)⟩) (ihr hS (fun _ h => h.elim)) (ih hS hφ)
 | im1 hn hc sz hss vs hA hr _ ihr ih =>
  exact .im1 hn hc sz hss vs (fun hp => let ⟨b, o, e, hb, hx⟩ := hA hp; ⟨b, o, e, hb, fun j u hu => cell (hK b hb) (hx j u hu)⟩) (ihr hK (fun _ h => h.elim)) (ih hS hφ)
 | ow hs vs ho ψ hb hψ hr h hd h1 h2 ihr ih =>
  refine .ow hs vs ?_ ψ hb hψ (ihr hK (fun b hb' => hφ b (h1 b (hψ b hb')))) (ih hS (fun b hb' => hφ b (h2 b hb'))) hd h1 h2
  obtain ⟨hl, ho⟩ := ho
  refine ⟨hl, ?_⟩
  rcases ho with hn | ⟨g, cap, cur, rfl, h0, hg, r⟩
  · exact .inl hn
  exact .inr ⟨g, cap, cur, rfl, h0, by rw [hφ g (h1 g (hb g (by simp [Value.ownBlock])).1)]; exact hg, r⟩
 | ip vs hSb hA hr _ ihr ih =>
  refine .ip vs hSb (fun j u hu => ?_) (ihr hS (fun _ h => h.elim)) (ih hS hφ)
  have hl := hr.len
  have : 0 < vs.length := Nat.lt_of_le_of_lt (Nat.zero_le _) (List.getElem?_eq_some_iff.1 hu).1
  exact cell (hS _ (hSb (by omega))) (hA j u hu)
 | bx vs hg ψ hb hψ hr h hd h1 h2 ihr ih =>
  exact .bx vs (by rw [hφ _ (h1 _ hb.1)]; exact hg) ψ hb hψ (ihr hK (fun b hb' => hφ b (h1 b (hψ b hb')))) (ih hS (fun b hb' => hφ b (h2 b hb'))) hd h1 h2
 | fn vs hr _ ihr ih => exact .fn vs (ihr hS (fun _ h => h.elim)) (ih hS hφ)
theorem CR.split : ∀ {a b : List T} {us φ}, CR P w K S (a ++ b) us φ → ∃ u1 u2 φ1 φ2, us = u1 ++ u2 ∧ CR P w K S a u1 φ1 ∧ CR P w K S b u2 φ2 ∧ Dj φ1 φ2 ∧ Sub φ1 φ ∧ Sub φ2 φ
 | [], b, us, φ, h => ⟨[], us, no, φ, rfl, .nil, h, fun _ h => h.elim, fun _ h => h.elim, fun _ h => h⟩
 | t :: a, b, us, φ, h => by
  rw [List.cons_append] at h
  cases h with
  | s h1 h => obtain ⟨u1, u2, φ1, φ2, rfl, ha, hb, hd, s1, s2⟩ := CR.split h; exact ⟨_ :: u1, u2, φ1, φ2, rfl, .s h1 ha, hb, hd, s1, s2⟩
  | jk h1 h => obtain ⟨u1, u2, φ1, φ2, rfl, ha, hb, hd, s1, s2⟩ := CR.split h; exact ⟨_ :: u1, u2, φ1, φ2, rfl, .jk h1 ha, hb, hd, s1, s2⟩
  | er h => obtain ⟨u1, u2, φ1, φ2, rfl, ha, hb, hd, s1, s2⟩ := CR.split h; exact ⟨_ :: u1, u2, φ1, φ2, rfl, .er ha, hb, hd, s1, s2⟩
  | im0 hn hc sz hs vs hA hr h => obtain ⟨u1, u2, φ1, φ2, rfl, ha, hb, hd, s1, s2⟩ := CR.split h; exact ⟨_ :: u1, u2, φ1, φ2, rfl, .im0 hn hc sz hs vs hA hr ha, hb, hd, s1, s2⟩
  | im1 hn hc sz hs vs hA hr h => obtain ⟨u1, u2, φ1, φ2, rfl, ha, hb, hd, s1, s2⟩ := CR.split h; exact ⟨_ :: u1, u2, φ1, φ2, rfl, .im1 hn hc sz hs vs hA hr ha, hb, hd, s1, s2⟩
  | ip vs hS hA hr h => obtain ⟨u1, u2, φ1, φ2, rfl, ha, hb, hd, s1, s2⟩ := CR.split h; exact ⟨_ :: u1, u2, φ1, φ2, rfl, .ip vs hS hA hr ha, hb, hd, s1, s2⟩
  | fn vs hr h => obtain ⟨u1, u2, φ1, φ2, rfl, ha, hb, hd, s1, s2⟩ := CR.split h; exact ⟨_ :: u1, u2, φ1, φ2, rfl, .fn vs hr ha, hb, hd, s1, s2⟩
  | ow hs vs ho ψ hbb hψ hr h hd0 h1 h2 =>
   obtain ⟨u1, u2, φ1, φ2, rfl, ha, hb, hd, s1, s2⟩ := CR.split h
   refine ⟨_ :: u1, u2, fun b => _ ∨ φ1 b, φ2, rfl, .ow hs vs ho ψ hbb hψ hr ha (fun x hx hy => hd0 x hx (s1 x hy)) (fun x hx => .inl hx) (fun x hx => .inr hx), hb, ?_, ?_, fun x hx => h2 x (s2 x hx)⟩
   ·
    rintro x (hx | hx) hy
    · exact hd0 x hx (s2 x hy)
    exact hd x hx hy
   rintro x (hx | hx)
   · exact h1 x hx
   exact h2 x (s1 x hx)
  | bx vs hg ψ hbb hψ hr h hd0 h1 h2 =>
   obtain ⟨u1, u2, φ1, φ2, rfl, ha, hb, hd, s1, s2⟩ := CR.split h
   refine ⟨_ :: u1, u2, fun b => _ ∨ φ1 b, φ2, rfl, .bx vs hg ψ hbb hψ hr ha (fun x hx hy => hd0 x hx (s1 x hy)) (fun x hx => .inl hx) (fun x hx => .inr hx), hb, ?_, ?_, fun x hx => h2 x (s2 x hx)⟩
   ·
    rintro x (hx | hx) hy
    · exact hd0 x hx (s2 x hy)
    exact hd x hx hy
   rintro x (hx | hx)
   · exact h1 x hx
   exact h2 x (s1 x hx)
theorem CR.join {a b : List T} {u1 u2 : List Value} {φ1 : Nat → Prop} (ha : CR P w K S a u1 φ1) : ∀ {φ2 φ : Nat → Prop}, CR P w K S b u2 φ2 → Dj φ1 φ2 → Sub φ1 φ → Sub φ2 φ → CR P w K S (a ++ b) (u1 ++ u2) φ := by
 induction ha with
 | nil => intro φ2 φ hb _ _ h2; exact hb.mono h2
 | s h1 _ ih => intro φ2 φ hb hd s1 s2; exact .s h1 (ih hb hd s1 s2)
 | jk h1 _ ih => intro φ2 φ hb hd s1 s2; exact .jk h1 (ih hb hd s1 s2)
 | er _ ih => intro φ2 φ hb hd s1 s2; exact .er (ih hb hd s1 s2)
 | im0 hn hc sz hss vs hA hr _ _ ih => intro φ2 φ hb hd s1 s2; exact .im0 hn hc sz hss vs hA hr (ih hb hd s1 s2)
 | im1 hn hc sz hss vs hA hr _ _ ih => intro φ2 φ hb hd s1 s2; exact .im1 hn hc sz hss vs hA hr (ih hb hd s1 s2)
 | ip vs hS hA hr _ _ ih => intro φ2 φ hb hd s1 s2; exact .ip vs hS hA hr (ih hb hd s1 s2)
 | fn vs hr _ _ ih => intro φ2 φ hb hd s1 s2; exact .fn vs hr (ih hb hd s1 s2)
 | @ow S φ0 φ1 φ2' e rows v ts us hs vs ho ψ hbb hψ hr h hd0 h1 h2 _ ih =>
  intro φ2 φ hb hd s1 s2
  refine .ow (φ1 := φ1) (φ2 := fun b => φ2' b ∨ φ2 b) hs vs ho ψ hbb hψ hr (ih (φ := fun b => φ2' b ∨ φ2 b) hb (fun x hx hy => hd x (h2 x hx) hy) (fun x hx => .inl hx) (fun x hx => .inr hx)) ?_ (fun x hx => s1 x (h1 x hx)) ?_
  ·
   rintro x hx (hy | hy)
   · exact hd0 x hx hy
   exact hd x (h1 x hx) hy
  rintro x (hx | hx)
  · exact s1 x (h2 x hx)
  exact s2 x hx
 | @bx S φ0 φ1 φ2' e cs g ts us vs hg ψ hbb hψ hr h hd0 h1 h2 _ ih =>
  intro φ2 φ hb hd s1 s2
  refine .bx (φ1 := φ1) (φ2 := fun b => φ2' b ∨ φ2 b) vs hg ψ hbb hψ hr (ih (φ := fun b => φ2' b ∨ φ2 b) hb (fun x hx hy => hd x (h2 x hx) hy) (fun x hx => .inl hx) (fun x hx => .inr hx)) ?_ (fun x hx => s1 x (h1 x hx)) ?_
  ·
   rintro x hx (hy | hy)
   · exact hd0 x hx hy
   exact hd x (h1 x hx) hy
  rintro x (hx | hx)
  · exact s1 x (h2 x hx)
  exact s2 x hx
mutual
def T.fz : T → T
 | .ow _ rows => .im false (fzR rows)
 | .im _ r => .im false r
 | .bx _ cs => .ip (fzL cs)
 | .s v => .s v
 | .jk => .jk
 | .er => .er
 | .ip cs => .ip cs
 | .fn f cs => .fn f cs
def fzL : List T → List T
 | [] => []
 | t :: ts => t.fz :: fzL ts
def fzR : List (List T) → List (List T)
 | [] => []
 | r :: rs => fzL r :: fzR rs
end
theorem qCN : ∀ l : List T, fzL l = l.map T.fz
 | [] => by simp [fzL]
 | t :: ts => by simp [fzL, qCN ts]
theorem qtH : ∀ l : List (List T), fzR l = l.map fzL
 | [] => by simp [fzR]
 | t :: ts => by simp [fzR, qtH ts]
theorem qiP (l : List T) : (fzL l).length = l.length := by rw [qCN, List.length_map]
theorem qjP (l : List (List T)) : (fzR l).length = l.length := by rw [qtH, List.length_map]
theorem qtO (a b : List T) : fzL (a ++ b) = fzL a ++ fzL b := by simp [qCN]
theorem quH (l : List (List T)) : (fzR l).flatten = fzL l.flatten := by
 induction l with
 | nil => rfl
 | cons r rs ih => simp [fzR, qtO, ih]
theorem CR.lend (h : CR P w K S ts us φ) : ∀ {S'}, Sub K S' → Sub S S' → Sub φ S' → CR P w K S' (fzL ts) us no := by
 induction h with
 | nil => intro S' _ _ _; exact .nil
 | s h1 _ ih => intro S' a b c; exact .s h1 (ih a b c)
 | jk h1 _ ih => intro S' a b c; exact .jk h1 (ih a b c)
 | er _ ih => intro S' a b c; exact .er (ih a b c)
 | im0 hn hc sz hss vs hA hr _ ihr ih =>
  intro S' a b c
  exact .im0 hn hc sz hss vs (fun hp => let ⟨x, o, e, hb, hx⟩ := hA hp; ⟨x, o, e, b x hb, hx⟩) (hr.more b) (ih a b c)
 | im1 hn hc sz hss vs hA hr _ ihr ih =>
  intro S' a b c
  exact .im0 hn hc sz hss vs (fun hp => let ⟨x, o, e, hb, hx⟩ := hA hp; ⟨x, o, e, a x hb, hx⟩) (hr.more a) (ih a b c)
 | ip vs hS hA hr _ _ ih => intro S' a b c; exact .ip vs (fun hp => b _ (hS hp)) hA (hr.more b) (ih a b c)
 | fn vs hr _ _ ih => intro S' a b c; exact .fn vs (hr.more b) (ih a b c)
 | @ow S φ φ1 φ2 e rows v ts us hs vs ho ψ hbb hψ hr h hd0 h1 h2 ihr ih =>
  intro S' a b c
  have hr' := ihr (S' := S') a a (fun x hx => c x (h1 x (hψ x hx)))
  have ht := ih a b (fun x hx => c x (h2 x hx))
  rw [← quH] at hr'
  have hss : ∀ r ∈ fzR rows, r.length = P.cellsOf e := by
   intro r hr0
   rw [qtH] at hr0
   obtain ⟨q, hq, rfl⟩ := List.mem_map.1 hr0
   rw [qiP]; exact hs q hq
  obtain ⟨hl, ho⟩ := ho
  rcases ho with ⟨rfl, h0⟩ | ⟨g, cap, cur, rfl, _, hg, hnc, hcm, hcs, htk⟩
  ·
   have : rows = [] := List.eq_nil_of_length_eq_zero h0
   subst this
   exact .im0 (by simp [fzR]) (Nat.le_refl _) _ hss vs (fun hp => absurd hp (by omega)) hr' ht
  refine .im0 (by rw [qjP]) hnc _ hss vs (fun _ => ⟨g, 0, rfl, c g (h1 g (hbb g (by simp [Value.ownBlock])).1), fun j u hu => ?_⟩) hr' ht
  rw [Nat.zero_add, cell_of_row w g j cur e (0, 0) hg]
  rw [← htk, List.getElem?_take] at hu
  split at hu
  · simpa using hu
  cases hu
 | @bx S φ φ1 φ2 e cs g ts us vs hg ψ hbb hψ hr h hd0 h1 h2 ihr ih =>
  intro S' a b c
  have hr' := ihr (S' := S') a a (fun x hx => c x (h1 x (hψ x hx)))
  refine .ip vs (fun _ => c g (h1 g hbb.1)) (fun j u hu => ?_) hr' (ih a b (fun x hx => c x (h2 x hx)))
  rw [Nat.zero_add, cell_of_row w g j vs.toArray e (0, 0) hg]
  simpa using hu
end Go.Proofs.YtcpekllcbimpmaaGreatDoor.L
namespace Go.Proofs.YtcpekllcbimpmaaGreatDoor.L
set_option linter.unusedVariables false
set_option linter.unusedSimpArgs false
open Go
def hasKey {α : Type} : List (Nat × α) → Nat → Bool
 | [], _ => false
 | (k, _) :: r, n => bif nq n k then true else hasKey r n
structure Gh where
 dom : Nat → Prop
 β : Nat → Value
 sz : Nat → Nat
 κ : Nat → Nat → Option (Rws × List Value)
structure Gh.le (G G' : Gh) : Prop where
 dom : ∀ i, G.dom i → G'.dom i
 β : ∀ i, G.dom i → G'.β i = G.β i
 sz : ∀ i, G.dom i → G'.sz i = G.sz i
 κ : ∀ i v x, G.κ i v = some x → G'.κ i v = some x
theorem Gh.le.refl (G : Gh) : G.le G := ⟨fun _ h => h, fun _ _ => rfl, fun _ _ => rfl, fun _ _ _ h => h⟩
def blk : Value → Option Nat
 | .slice (some a) _ _ => some a.block
 | .pointer (some a) => some a.block
 | _ => none
inductive VRs (P : Program) (w : World) (K S : Nat → Prop) (G : Gh) : List V → List Value → Prop
 | nil : VRs P w K S G [] []
 | t {x u vs us} (hx : CR P w K S [x] [u] no) (h : VRs P w K S G vs us) : VRs P w K S G (.t x :: vs) (u :: us)
 | rf {id u vs us} (hi : G.dom id) (hu : u = G.β id) (h1 : u.oneCell' = true) (h : VRs P w K S G vs us) : VRs P w K S G (.rf id :: vs) (u :: us)
 | sb {id lo hi A} {n c : Nat} {vs us} (hid : G.dom id) (h0 : 0 ≤ lo) (h1 : lo ≤ hi) (hn : (n : Int) = hi - lo) (hm : n ≤ maxLen) (hc : n ≤ c) (hA : 0 < c → ∃ g, blk (G.β id) = some g ∧ A = some ⟨g, lo.toNat * G.sz id, none⟩)
   (hb : ∃ A0 m cp, G.β id = .slice A0 m cp ∧ hi ≤ (m : Int) ∧ lo.toNat + c = cp ∧ (lo = 0 → A = A0)) (h : VRs P w K S G vs us) : VRs P w K S G (.sb id lo hi :: vs) (.slice A n c :: us)
 | np {id ver i j e rows u vs us} (hid : G.dom id) (hi : 0 ≤ i) (rows0 us0) (hk : G.κ id ver = some (rows0, us0)) (hj : j < G.sz id) (hr : (rows0.getD i.toNat [])[j]? = some (.ow e rows)) (hl : i.toNat < rows0.length) (hu : us0[i.toNat * G.sz id + j]? = some u) (hsl : ∃ A c, u = .slice A rows.length c)
   (h : VRs P w K S G vs us) : VRs P w K S G (.np id ver i j e rows :: vs) (u :: us)
 | pt {id i j g vs us} (hid : G.dom id) (hi : 0 ≤ i) (hg : blk (G.β id) = some g) (h : VRs P w K S G vs us) : VRs P w K S G (.pt id i j :: vs) (.pointer (some ⟨g, i.toNat * G.sz id + j, none⟩) :: us)
 | ag {cs us' vs us} (hc : VRs P w K S G cs us') (h : VRs P w K S G vs us) : VRs P w K S G (.ag cs :: vs) (.agg us'.toArray :: us)
 | tu {cs us' vs us} (hc : VRs P w K S G cs us') (h : VRs P w K S G vs us) : VRs P w K S G (.tu cs :: vs) (.tuple us'.toArray :: us)
 | fn {f cs us' vs us} (hc : VRs P w K S G cs us') (h : VRs P w K S G vs us) : VRs P w K S G (.fn f cs :: vs) (.func (.func f) #[] us'.toArray :: us)
 | cd0 {v vs us} (h : VRs P w K S G vs us) : VRs P w K S G (.cd false v :: vs) (undef :: us)
 | cd1 {v u vs us} (hv : VRs P w K S G [v] [u]) (h : VRs P w K S G vs us) : VRs P w K S G (.cd true v :: vs) (u :: us)
 | uu {u vs us} (h : VRs P w K S G vs us) : VRs P w K S G (.u :: vs) (u :: us)
 | hl {id ver i j id2 u vs us} (hid : G.dom id) (hd2 : G.dom id2) (hi : 0 ≤ i) (rows0 us0) (hk : G.κ id ver = some (rows0, us0)) (hu : us0[i.toNat * G.sz id + j]? = some (G.β id2)) (h : VRs P w K S G vs us) : VRs P w K S G (.hl id ver i j id2 :: vs) (u :: us)
abbrev VR (P : Program) (w : World) (K S : Nat → Prop) (G : Gh) (v : V) (u : Value) : Prop := VRs P w K S G [v] [u]
variable {P : Program} {w w' : World} {K S : Nat → Prop} {G G' : Gh}
theorem VRs.move {vs us} (h : VRs P w K S G vs us) (hK : ∀ b, K b → w'.heap[b]? = w.heap[b]?) (hS : ∀ b, S b → w'.heap[b]? = w.heap[b]?) (hG : G.le G') : VRs P w' K S G' vs us := by
 induction h with
 | nil => exact .nil
 | t hx _ ih => exact .t (hx.move hK hS (fun _ h => h.elim)) ih
 | rf hi hu h1 _ ih => exact .rf (hG.dom _ hi) (by rw [hG.β _ hi]; exact hu) h1 ih
 | sb hid h0 h1 hn hm hc hA hb _ ih => exact .sb (hG.dom _ hid) h0 h1 hn hm hc (fun hp => by rw [hG.β _ hid, hG.sz _ hid]; exact hA hp) (by rw [hG.β _ hid]; exact hb) ih
 | np hid hi r0 u0 hk hj hr hl hu hsl _ ih => exact .np (hG.dom _ hid) hi r0 u0 (hG.κ _ _ _ hk) (by rw [hG.sz _ hid]; exact hj) hr hl (by rw [hG.sz _ hid]; exact hu) hsl ih
 | pt hid hi hg _ ih => rw [← hG.sz _ hid]; exact .pt (hG.dom _ hid) hi (by rw [hG.β _ hid]; exact hg) ih
 | ag _ _ ihc ih => exact .ag ihc ih
 | tu _ _ ihc ih => exact .tu ihc ih
 | fn _ _ ihc ih => exact .fn ihc ih
 | cd0 _ ih => exact .cd0 ih
 | cd1 _ _ ihv ih => exact .cd1 ihv ih
 | uu _ ih => exact .uu ih
 | hl hid hd2 hi r0 u0 hk hu _ ih => exact .hl (hG.dom _ hid) (hG.dom _ hd2) hi r0 u0 (hG.κ _ _ _ hk) (by rw [hG.sz _ hid, hG.β _ hd2]; exact hu) ih
theorem VRs.moreK {K' S' : Nat → Prop} {vs us} (hk : Sub K K') (hs : Sub S S') (h : VRs P w K S G vs us) : VRs P w K' S' G vs us := by
 induction h with
 | nil => exact .nil
 | t hx _ ih => exact .t (hx.moreK hk hs) ih
 | rf hi hu h1 _ ih => exact .rf hi hu h1 ih
 | sb hid h0 h1 hn hm hc hA hb _ ih => exact .sb hid h0 h1 hn hm hc hA hb ih
 | np hid hi r0 u0 hk hj hr hl hu hsl _ ih => exact .np hid hi r0 u0 hk hj hr hl hu hsl ih
 | pt hid hi hg _ ih => exact .pt hid hi hg ih
 | ag _ _ ihc ih => exact .ag ihc ih
 | tu _ _ ihc ih => exact .tu ihc ih
 | fn _ _ ihc ih => exact .fn ihc ih
 | cd0 _ ih => exact .cd0 ih
 | cd1 _ _ ihv ih => exact .cd1 ihv ih
 | uu _ ih => exact .uu ih
 | hl hid hd2 hi r0 u0 hk hu _ ih => exact .hl hid hd2 hi r0 u0 hk hu ih
theorem VRs.len {vs us} (h : VRs P w K S G vs us) : us.length = vs.length := by
 induction h <;> simp_all
theorem VR.any (u : Value) : VR P w K S G .u u := .uu .nil
theorem VRs.cons {v vs u us} (h : VR P w K S G v u) (h' : VRs P w K S G vs us) : VRs P w K S G (v :: vs) (u :: us) := by
 cases h with
 | t hx _ => exact .t hx h'
 | rf hi hu h1 _ => exact .rf hi hu h1 h'
 | sb hid h0 h1 hn hm hc hA hb _ => exact .sb hid h0 h1 hn hm hc hA hb h'
 | np hid hi r0 u0 hk hj hr hl hu hsl _ => exact .np hid hi r0 u0 hk hj hr hl hu hsl h'
 | pt hid hi hg _ => exact .pt hid hi hg h'
 | ag hc _ => exact .ag hc h'
 | tu hc _ => exact .tu hc h'
 | fn hc _ => exact .fn hc h'
 | cd0 _ => exact .cd0 h'
 | cd1 hv _ => exact .cd1 hv h'
 | uu _ => exact .uu h'
 | hl hid hd2 hi r0 u0 hk hu _ => exact .hl hid hd2 hi r0 u0 hk hu h'
theorem VRs.uncons {v vs l} (h : VRs P w K S G (v :: vs) l) : ∃ u us, l = u :: us ∧ VR P w K S G v u ∧ VRs P w K S G vs us := by
 cases h with
 | t hx h => exact ⟨_, _, rfl, .t hx .nil, h⟩
 | rf hi hu h1 h => exact ⟨_, _, rfl, .rf hi hu h1 .nil, h⟩
 | sb hid h0 h1 hn hm hc hA hb h => exact ⟨_, _, rfl, .sb hid h0 h1 hn hm hc hA hb .nil, h⟩
 | np hid hi r0 u0 hk hj hr hl hu hsl h => exact ⟨_, _, rfl, .np hid hi r0 u0 hk hj hr hl hu hsl .nil, h⟩
 | pt hid hi hg h => exact ⟨_, _, rfl, .pt hid hi hg .nil, h⟩
 | ag hc h => exact ⟨_, _, rfl, .ag hc .nil, h⟩
 | tu hc h => exact ⟨_, _, rfl, .tu hc .nil, h⟩
 | fn hc h => exact ⟨_, _, rfl, .fn hc .nil, h⟩
 | cd0 h => exact ⟨_, _, rfl, .cd0 .nil, h⟩
 | cd1 hv h => exact ⟨_, _, rfl, .cd1 hv .nil, h⟩
 | uu h => exact ⟨_, _, rfl, .uu .nil, h⟩
 | hl hid hd2 hi r0 u0 hk hu h => exact ⟨_, _, rfl, .hl hid hd2 hi r0 u0 hk hu .nil, h⟩
theorem VRs.nth {vs : List V} {us : List Value} (h : VRs P w K S G vs us) : ∀ {i : Nat} {v : V}, vs[i]? = some v → ∃ u, us[i]? = some u ∧ VR P w K S G v u := by
 induction vs generalizing us with
 | nil => intro i v hv; simp at hv
 | cons a r ih =>
  intro i v hv
  obtain ⟨u, us, rfl, h1, h2⟩ := h.uncons
  cases i with
  | zero => simp at hv; subst hv; exact ⟨u, rfl, h1⟩
  | succ i => simpa using ih h2 (by simpa using hv)
theorem VRs.append {a b : List V} {ua ub} (h : VRs P w K S G a ua) (h' : VRs P w K S G b ub) : VRs P w K S G (a ++ b) (ua ++ ub) := by
 induction a generalizing ua with
 | nil => cases h; exact h'
 | cons x r ih => obtain ⟨u, us, rfl, h1, h2⟩ := h.uncons; exact .cons h1 (ih h2)
theorem VRs.unappend {a b : List V} {l} (h : VRs P w K S G (a ++ b) l) : ∃ ua ub, l = ua ++ ub ∧ VRs P w K S G a ua ∧ VRs P w K S G b ub := by
 induction a generalizing l with
 | nil => exact ⟨[], l, rfl, .nil, h⟩
 | cons x r ih =>
  obtain ⟨u, us, rfl, h1, h2⟩ := VRs.uncons h
  obtain ⟨ua, ub, rfl, h3, h4⟩ := ih h2
  exact ⟨u :: ua, ub, rfl, .cons h1 h3, h4⟩
theorem VRs.of_CR {ts us} (h : CR P w K S ts us no) : VRs P w K S G (ts.map .t) us := by
 induction ts generalizing us with
 | nil => cases h; exact .nil
 | cons t ts ih =>
  obtain ⟨u1, u2, φ1, φ2, rfl, ha, hb, _, s1, s2⟩ := CR.split (a := [t]) h
  have hl := ha.len
  match u1, hl with
  | [u], _ => exact .t (ha.mono s1) (ih (hb.mono s2))
def OR (P : Program) (w : World) (K S : Nat → Prop) (G : Gh) (φ : Nat → Prop) (id : Nat) : O → Prop
 | .row ver e sz rows => G.dom id ∧ sz = P.cellsOf e ∧ G.sz id = sz ∧ ∃ us, G.κ id ver = some (rows, us) ∧ (∀ r ∈ rows, r.length = sz) ∧ w.ownsRow 0 e sz (G.β id) rows.length us ∧
   ∃ ψ : Nat → Prop, (∀ b, (G.β id).ownBlock = some b → φ b ∧ ¬ ψ b) ∧ Sub ψ φ ∧ CR P w K K rows.flatten us ψ
 | .box e cs => G.dom id ∧ ∃ g us, G.β id = .pointer (some ⟨g, 0, none⟩) ∧ w.heap[g]? = some (.cells us.toArray e (0, 0)) ∧ φ g ∧ VRs P w K S G cs us
 | .dead => True
theorem OR.move {φ id o} (h : OR P w K S G φ id o) (hK : ∀ b, K b → w'.heap[b]? = w.heap[b]?) (hS : ∀ b, S b → w'.heap[b]? = w.heap[b]?) (hφ : ∀ b, φ b → w'.heap[b]? = w.heap[b]?) (hG : G.le G') : OR P w' K S G' φ id o := by
 cases o with
 | row ver e sz rows =>
  obtain ⟨hi, h1, h2, us, h3, h4, ⟨hl, ho⟩, ψ, h6, h7, h8⟩ := h
  refine ⟨hG.dom _ hi, h1, by rw [hG.sz _ hi]; exact h2, us, hG.κ _ _ _ h3, h4, ⟨hl, ?_⟩, ψ, by rw [hG.β _ hi]; exact h6, h7, h8.move hK hK (fun b hb => hφ b (h7 b hb))⟩
  rw [hG.β _ hi]
  rcases ho with hn | ⟨g, cap, cur, hv, h0, hg, r⟩
  · exact .inl hn
  exact .inr ⟨g, cap, cur, hv, h0, by rw [hφ g (h6 g (by rw [hv]; simp [Value.ownBlock])).1]; exact hg, r⟩
 | box e cs =>
  obtain ⟨hi, g, us, h1, h2, h3, h4⟩ := h
  exact ⟨hG.dom _ hi, g, us, by rw [hG.β _ hi]; exact h1, by rw [hφ g h3]; exact h2, h3, h4.move hK hS hG⟩
 | dead => trivial
theorem OR.moreK {K' S' : Nat → Prop} {φ id o} (hk : Sub K K') (hs : Sub S S') (h : OR P w K S G φ id o) : OR P w K' S' G φ id o := by
 cases o with
 | row ver e sz rows =>
  obtain ⟨hi, h1, h2, us, h3, h4, h5, ψ, h6, h7, h8⟩ := h
  exact ⟨hi, h1, h2, us, h3, h4, h5, ψ, h6, h7, h8.moreK hk hk⟩
 | box e cs =>
  obtain ⟨hi, g, us, h1, h2, h3, h4⟩ := h
  exact ⟨hi, g, us, h1, h2, h3, h4.moreK hk hs⟩
 | dead => trivial
structure Kept (w w' : World) (φ : Nat → Prop) : Prop where
 os : w'.os = w.os
 tape : w'.tape = w.tape
 output : w'.output = w.output
 size : w.heap.size ≤ w'.heap.size
 block : ∀ b, b < w.heap.size → ¬ φ b → w'.heap[b]? = w.heap[b]?
theorem Kept.refl (w : World) (φ : Nat → Prop) : Kept w w φ := ⟨rfl, rfl, rfl, Nat.le_refl _, fun _ _ _ => rfl⟩
theorem Kept.trans {a b c : World} {φ φ' : Nat → Prop} (h : Kept a b φ) (k : Kept b c φ') (hs : ∀ x, φ' x → x < a.heap.size → φ x) : Kept a c φ :=
 ⟨k.os.trans h.os, k.tape.trans h.tape, k.output.trans h.output, Nat.le_trans h.size k.size, fun i hi hn => (k.block i (Nat.lt_of_lt_of_le hi h.size) (fun hx => hn (hs i hx hi))).trans (h.block i hi hn)⟩
theorem Kept.drew {a w : World} {φ : Nat → Prop} (h : Kept a w φ) : Kept a w.drew φ := ⟨h.os, h.tape, h.output, h.size, h.block⟩
theorem Kept.of_grown {w w' : World} {row : Option Nat} (h : w.grownBy w' row) : Kept w w' (fun b => row = some b) := ⟨h.os, h.tape, h.output, h.size, fun b hb hn => h.block b hb (fun e => hn e.symm)⟩
theorem Kept.alloc (w : World) (o : Obj) (φ : Nat → Prop) : Kept w (w.alloc o) φ := ⟨rfl, rfl, rfl, by simp, fun b hb _ => heap_alloc_old w o b hb⟩
def TbN (P : Program) (w : World) (φ : Nat → Prop) (n : String) (Q : Array Value → Prop) : Prop := ∀ g, P.globalNamed n = some g → ¬ φ g ∧ g < w.heap.size ∧ ∃ cs, w.var? P n = some cs ∧ Q cs
def isErr (cs : Array Value) : Prop := ∃ tp p, cs = #[.iface tp (.pointer (some p))]
def Tb (P : Program) (w : World) (φ : Nat → Prop) : Prop :=
 TbN P w φ "internal/strconv.uint64pow10" (fun cs => cs = (Lib.pow10Tab.map fun z => Value.int .u64 z).toArray) ∧ TbN P w φ "strconv.ErrSyntax" isErr ∧ TbN P w φ "strconv.ErrRange" isErr
theorem TbN.move {P : Program} {w w' : World} {φ φ' : Nat → Prop} {n : String} {Q : Array Value → Prop} (h : TbN P w φ n Q) (hk : Kept w w' φ) (hφ : ∀ b, φ' b → φ b ∨ w.heap.size ≤ b) : TbN P w' φ' n Q := fun g hg => by
 obtain ⟨h1, h2, cs, h3, h4⟩ := h g hg
 refine ⟨fun h => (hφ g h).elim h1 (fun h => by omega), Nat.lt_of_lt_of_le h2 hk.size, cs, ?_, h4⟩
 unfold World.var? at *
 rw [hg] at *
 simp only [Option.bind_some] at *
 rw [hk.block g h2 h1]; exact h3
theorem Tb.move {P : Program} {w w' : World} {φ φ' : Nat → Prop} (h : Tb P w φ) (hk : Kept w w' φ) (hφ : ∀ b, φ' b → φ b ∨ w.heap.size ≤ b) : Tb P w' φ' := ⟨h.1.move hk hφ, h.2.1.move hk hφ, h.2.2.move hk hφ⟩
theorem Tb.none {P : Program} {w : World} {φ : Nat → Prop} (h1 : P.globalNamed "internal/strconv.uint64pow10" = Option.none) (h2 : P.globalNamed "strconv.ErrSyntax" = Option.none) (h3 : P.globalNamed "strconv.ErrRange" = Option.none) : Tb P w φ :=
 ⟨fun g hg => by rw [h1] at hg; (cases hg), fun g hg => by rw [h2] at hg; (cases hg), fun g hg => by rw [h3] at hg; (cases hg)⟩
structure Fr where
 P : Program
 w0 : World
 φ0 : Nat → Prop
 K : Nat → Prop
 anc : Nat → Option Value
 tb : Tb P w0 φ0
structure Rel0 (F : Fr) (σ : St) (a : Act) (w : World) (S : Nat → Prop) (G : Gh) (φ : Nat → Nat → Prop) : Prop where
 nx : ∀ i, G.dom i → i < σ.nx ∨ hasKey σ.objs i = true
 kd : ∀ i v x, G.κ i v = some x → G.dom i ∧ ∀ ver e sz rows, look .dead σ.objs i = .row ver e sz rows → v ≤ ver
 n : a.tmps.size = σ.n
 KS : Sub F.K S
 Slt : ∀ b, S b → b < w.heap.size
 env : ∀ t, VR F.P w F.K S G (look .u σ.env t) (a.tmps.getD t undef)
 obj : ∀ id, OR F.P w F.K S G (φ id) id (look .dead σ.objs id)
 dj : ∀ i j, i ≠ j → Dj (φ i) (φ j)
 own : ∀ i b, φ i b → b < w.heap.size ∧ ¬ S b ∧ (F.w0.heap.size ≤ b ∨ F.φ0 b)
 kept : Kept F.w0 w F.φ0
 defs : a.defers = []
 anc : ∀ i v, F.anc i = some v → G.dom i ∧ G.β i = v
abbrev Fr.up (F : Fr) (K : Nat → Prop) : Fr := ⟨F.P, F.w0, F.φ0, K, F.anc, F.tb⟩
def KLe (F : Fr) (K : Nat → Prop) : Prop := Sub F.K K ∧ ∀ b, K b → F.K b ∨ F.w0.heap.size ≤ b ∨ F.φ0 b
theorem KLe.refl (F : Fr) : KLe F F.K := ⟨fun _ h => h, fun _ h => .inl h⟩
theorem KLe.trans {F : Fr} {K K' : Nat → Prop} (h : KLe F K) (h' : KLe (F.up K) K') : KLe F K' := ⟨fun b hb => h'.1 b (h.1 b hb), fun b hb => (h'.2 b hb).elim (h.2 b) .inr⟩
def Rel (F : Fr) (σ : St) (a : Act) (w : World) : Prop := ∃ K, KLe F K ∧ ∃ S G φ, Rel0 (F.up K) σ a w S G φ
theorem Rel0.rel {F : Fr} {σ a w S G φ} (h : Rel0 F σ a w S G φ) : Rel F σ a w := ⟨F.K, KLe.refl F, S, G, φ, h⟩
theorem Rel0.drew {F σ a w S G φ} (h : Rel0 F σ a w S G φ) : Rel0 F σ a w.drew S G φ := by
 refine ⟨h.nx, h.kd, h.n, h.KS, h.Slt, fun t => (h.env t).move (w' := w.drew) (fun _ _ => rfl) (fun _ _ => rfl) (Gh.le.refl _), fun i => (h.obj i).move (w' := w.drew) (fun _ _ => rfl) (fun _ _ => rfl) (fun _ _ => rfl) (Gh.le.refl _), h.dj, h.own, h.kept.drew, h.defs, h.anc⟩
def St.put (σ : St) (d : Nat) (v : V) (os : List (Nat × O)) : St := ⟨σ.n, σ.nx, (d, v) :: σ.env, os ++ σ.objs⟩
theorem qL {α : Type} (d : α) (k : Nat) (x : α) (r : List (Nat × α)) (n : Nat) : look d ((k, x) :: r) n = if n = k then x else look d r n := by
 by_cases h : n = k
 · subst h; simp [look, qGG]
 have hb : nq n k = false := by
  cases hc : nq n k with
  | false => rfl
  | true => exact absurd (nq_eq hc) h
 rw [if_neg h, look, hb]; rfl
theorem qAS {a : Act} {d t : Nat} {v : Value} (hd : d < a.tmps.size) : (a.put (some d) v).tmps.getD t undef = if t = d then v else a.tmps.getD t undef := by
 simp only [Act.put, Array.getD_eq_getD_getElem?, Array.getElem?_setIfInBounds]
 by_cases h : d = t
 · subst h; simp [hd]
 rw [if_neg h, if_neg (fun e => h e.symm)]
theorem Rel0.set {F σ a w S G φ} (h : Rel0 F σ a w S G φ) {d : Nat} {v : V} {u : Value} (hd : d < σ.n) (hv : VR F.P w F.K S G v u) : Rel0 F (σ.put d v []) (a.put (some d) u) w S G φ := by
 refine ⟨h.nx, h.kd, by simpa [Act.put, St.put] using h.n, h.KS, h.Slt, fun t => ?_, h.obj, h.dj, h.own, h.kept, by simpa [Act.put] using h.defs, h.anc⟩
 rw [qAS (by rw [h.n]; exact hd)]
 show VR F.P w F.K S G (look .u ((d, v) :: σ.env) t) _
 rw [qL]
 split
 · exact hv
 exact h.env t
theorem Rel0.step {F σ a w S G φ} (h : Rel0 F σ a w S G φ) {w' : World} {G' : Gh} {φ' : Nat → Nat → Prop} {τ : Nat → Prop} (hk : Kept w w' τ) (hG : G.le G') (σ' : St) (hn : σ'.n = σ.n) (hnx : ∀ i, G'.dom i → i < σ'.nx ∨ hasKey σ'.objs i = true) (henv : σ'.env = σ.env)
  (hkd : ∀ i v x, G'.κ i v = some x → G'.dom i ∧ ∀ ver e sz rows, look .dead σ'.objs i = .row ver e sz rows → v ≤ ver)
  (hτ : ∀ b, τ b → b < w.heap.size → ¬ S b ∧ (F.w0.heap.size ≤ b ∨ F.φ0 b))
  (hobj : ∀ i, (look .dead σ'.objs i = look .dead σ.objs i ∧ φ' i = φ i ∧ ∀ b, φ i b → ¬ τ b) ∨ OR F.P w' F.K S G' (φ' i) i (look .dead σ'.objs i))
  (hdj : ∀ i j, i ≠ j → Dj (φ' i) (φ' j)) (hown : ∀ i b, φ' i b → φ i b ∨ (b < w'.heap.size ∧ ¬ S b ∧ (F.w0.heap.size ≤ b ∨ F.φ0 b))) : Rel0 F σ' a w' S G' φ' := by
 have hS : ∀ b, S b → w'.heap[b]? = w.heap[b]? := fun b hb => hk.block b (h.Slt b hb) (fun ht => (hτ b ht (h.Slt b hb)).1 hb)
 have hK : ∀ b, F.K b → w'.heap[b]? = w.heap[b]? := fun b hb => hS b (h.KS b hb)
 refine ⟨hnx, hkd, h.n.trans hn.symm, h.KS, fun b hb => Nat.lt_of_lt_of_le (h.Slt b hb) hk.size, fun t => by rw [henv]; exact (h.env t).move hK hS hG, fun i => ?_, hdj, fun i b hb => ?_, h.kept.trans hk (fun b hb hlt => ?_), h.defs, fun i v hi => ⟨hG.dom _ (h.anc i v hi).1, (hG.β _ (h.anc i v hi).1).trans (h.anc i v hi).2⟩⟩
 ·
  rcases hobj i with ⟨e1, e2, e3⟩ | ho
  · rw [e1, e2]; exact (h.obj i).move hK hS (fun b hb => hk.block b (h.own i b hb).1 (e3 b hb)) hG
  · exact ho
 ·
  rcases hown i b hb with hb | hb
  · exact ⟨Nat.lt_of_lt_of_le (h.own i b hb).1 hk.size, (h.own i b hb).2⟩
  · exact hb
 ·
  rcases (hτ b hb (Nat.lt_of_lt_of_le hlt h.kept.size)).2 with hx | hx
  · omega
  exact hx
theorem qj {α : Type} (d : α) (l r : List (Nat × α)) (n : Nat) : look d (l ++ r) n = if hasKey l n then look d l n else look d r n := by
 induction l with
 | nil => simp [hasKey]
 | cons p l ih =>
  obtain ⟨k, x⟩ := p
  rw [List.cons_append, qL, qL, ih]
  by_cases h : n = k
  · subst h; simp [hasKey, qGG]
  have hb : nq n k = false := by
   cases hc : nq n k with
   | false => rfl
   | true => exact absurd (nq_eq hc) h
  simp [hasKey, hb, h]
theorem qY {α : Type} (k : Nat) (x : α) (r : List (Nat × α)) (n : Nat) : hasKey ((k, x) :: r) n = true ↔ n = k ∨ hasKey r n = true := by
 by_cases h : n = k
 · subst h; simp [hasKey, qGG]
 have hb : nq n k = false := by
  cases hc : nq n k with
  | false => rfl
  | true => exact absurd (nq_eq hc) h
 simp [hasKey, hb, h]
theorem qZC {α : Type} (l r : List (Nat × α)) (n : Nat) : hasKey (l ++ r) n = true ↔ hasKey l n = true ∨ hasKey r n = true := by
 induction l with
 | nil => simp [hasKey]
 | cons p l ih => obtain ⟨k, x⟩ := p; rw [List.cons_append, qY, qY, ih, or_assoc]
theorem qLD (ds : List Nat) (n : Nat) : hasKey (deads ds) n = true ↔ n ∈ ds := by
 induction ds with
 | nil => simp [deads, hasKey]
 | cons d r ih => rw [deads, qY, ih, List.mem_cons]
theorem qqG (ds : List Nat) (n : Nat) : look O.dead (deads ds) n = .dead := by
 induction ds with
 | nil => rfl
 | cons d r ih => rw [deads, qL]; split <;> simp_all
theorem qoC : ∀ ds : List Nat, nodupB ds = true → ds.Nodup
 | [], _ => .nil
 | d :: r, h => by
  have mem : ∀ l : List Nat, nodupB.memB d l = false → d ∉ l := by
   intro l
   induction l with
   | nil => simp
   | cons x l ih =>
    intro h
    simp only [nodupB.memB] at h
    cases hb : nq d x with
    | true => simp [hb] at h
    | false =>
     rw [hb] at h
     intro hm
     rcases List.mem_cons.1 hm with rfl | hm
     · simp [qGG] at hb
     exact ih h hm
  simp only [nodupB] at h
  split at h
  · simp at h
  rename_i hm
  exact List.nodup_cons.2 ⟨mem r hm, qoC r h⟩
def Gh.add (G : Gh) (id : Nat) (v : Value) (sz : Nat) (k : Option (Rws × List Value)) : Gh where
 dom i := G.dom i ∨ i = id
 β i := if i = id then v else G.β i
 sz i := if i = id then sz else G.sz i
 κ i j := if i = id then (if j = 0 then k else none) else G.κ i j
theorem Gh.le_add {G : Gh} {id : Nat} (hid : ¬ G.dom id) (hk : ∀ v x, G.κ id v = some x → G.dom id) (v sz k) : G.le (G.add id v sz k) := by
 have ne : ∀ {i}, G.dom i → i ≠ id := by
  rintro i h rfl
  exact hid h
 refine ⟨fun i h => .inl h, fun i h => ?_, fun i h => ?_, fun i j x h => ?_⟩
 · simp only [Gh.add]; rw [if_neg (ne h)]
 · simp only [Gh.add]; rw [if_neg (ne h)]
 simp only [Gh.add]
 rw [if_neg (by rintro rfl; exact hid (hk j x h))]
 exact h
theorem Rel0.new {F σ a w S G φ} (h : Rel0 F σ a w S G φ) {w' : World} {τ : Nat → Prop} (hk : Kept w w' τ) {id : Nat} (hid : ¬ G.dom id) {ds : List Nat} {v : Value} {sz : Nat} {k : Option (Rws × List Value)} {o : O}
  (hτ : ∀ b, τ b → ∃ d ∈ ds, φ d b)
  (ho : OR F.P w' F.K S (G.add id v sz k) (fun b => (∃ d ∈ ds, φ d b) ∨ (w.heap.size ≤ b ∧ b < w'.heap.size)) id o) (hfr : ∀ d ∈ ds, d ≠ id) :
  Rel0 F ⟨σ.n, σ.nx, σ.env, (id, o) :: (deads ds ++ σ.objs)⟩ a w' S (G.add id v sz k) (fun i b => if i = id then (∃ d ∈ ds, φ d b) ∨ (w.heap.size ≤ b ∧ b < w'.heap.size) else if i ∈ ds then False else φ i b) := by
 have hle := Gh.le_add hid (fun v x hx => (h.kd id v x hx).1) v sz k
 have hlk : ∀ i, look O.dead ((id, o) :: (deads ds ++ σ.objs)) i = if i = id then o else if i ∈ ds then .dead else look .dead σ.objs i := by
  intro i
  rw [qL, qj, qqG]
  by_cases hi : i = id
  · simp [hi]
  ·
   rw [if_neg hi, if_neg hi]
   by_cases hd : i ∈ ds
   · rw [if_pos hd, if_pos ((qLD ds i).2 hd)]
   rw [if_neg hd, if_neg (fun e => hd ((qLD ds i).1 e))]
 have hnew : ∀ i b, φ i b → ¬ w.heap.size ≤ b := fun i b hb => by have := (h.own i b hb).1; omega
 refine h.step hk hle _ rfl (fun i hi => ?_) rfl (fun i j x hx => ?_) (fun b hb hlt => ?_) (fun i => ?_) (fun i j hij => ?_) (fun i b hb => ?_)
 ·
  rcases hi with hi | rfl
  ·
   rcases h.nx i hi with hi | hi
   · exact .inl hi
   exact .inr ((qY _ _ _ _).2 (.inr ((qZC _ _ _).2 (.inr hi))))
  · exact .inr ((qY _ _ _ _).2 (.inl rfl))
 ·
  simp only [Gh.add] at hx
  by_cases hi : i = id
  ·
   subst hi
   rw [if_pos rfl] at hx
   split at hx
   ·
    rename_i hj
    refine ⟨.inr rfl, fun ver e sz rows hl => ?_⟩
    omega
   simp at hx
  ·
   rw [if_neg hi] at hx
   obtain ⟨h1, h2⟩ := h.kd i j x hx
   refine ⟨.inl h1, fun ver e sz rows hl => ?_⟩
   rw [hlk, if_neg hi] at hl
   split at hl
   · simp at hl
   exact h2 _ _ _ _ hl
 ·
  obtain ⟨d, _, hb⟩ := hτ b hb
  exact (h.own d b hb).2
 ·
  rw [hlk]
  by_cases hi : i = id
  ·
   right
   rw [if_pos hi]
   subst hi
   simpa using ho
  ·
   rw [if_neg hi]
   by_cases hd : i ∈ ds
   · right; rw [if_pos hd]; trivial
   left
   rw [if_neg hd]
   refine ⟨rfl, by funext b; simp [hd, hi], fun b hb ht => ?_⟩
   obtain ⟨d, hdm, hb'⟩ := hτ b ht
   exact h.dj i d (fun e => hd (e ▸ hdm)) b hb hb'
 ·
  intro b hb hb'
  by_cases hi : i = id
  ·
   rw [if_pos hi] at hb
   rw [if_neg (fun e => hij (hi.trans e.symm))] at hb'
   split at hb'
   · exact hb'
   rename_i hjd
   rcases hb with ⟨d, hd, hb⟩ | hb
   · exact h.dj d j (fun e => hjd (e ▸ hd)) b hb hb'
   exact hnew j b hb' hb.1
  ·
   rw [if_neg hi] at hb
   split at hb
   · exact hb
   rename_i hid'
   by_cases hj : j = id
   ·
    rw [if_pos hj] at hb'
    rcases hb' with ⟨d, hd, hb'⟩ | hb'
    · exact h.dj i d (fun e => hid' (e ▸ hd)) b hb hb'
    exact hnew i b hb hb'.1
   rw [if_neg hj] at hb'
   split at hb'
   · exact hb'
   exact h.dj i j hij b hb hb'
 ·
  by_cases hi : i = id
  ·
   rw [if_pos hi] at hb
   rcases hb with ⟨d, hd, hb⟩ | hb
   ·
    have := h.own d b hb
    exact .inr ⟨Nat.lt_of_lt_of_le this.1 hk.size, this.2⟩
   refine .inr ⟨hb.2, fun hs => by have := h.Slt b hs; omega, .inl (Nat.le_trans h.kept.size hb.1)⟩
  rw [if_neg hi] at hb
  split at hb
  · exact hb.elim
  exact .inl hb
end Go.Proofs.YtcpekllcbimpmaaGreatDoor.L
namespace Go.Proofs.YtcpekllcbimpmaaGreatDoor.L
set_option linter.unusedVariables false
set_option linter.unusedSimpArgs false
open Go
inductive AS : List A → List Value → List Value → Prop
 | nil : AS [] [] []
 | v {x u as vs us} (h : AS as vs us) : AS (.v x :: as) (u :: vs) (u :: us)
 | ag {xs us0 as vs us} (hl : us0.length = xs.length) (h : AS as vs us) : AS (.ag xs :: as) (.agg us0.toArray :: vs) (us0 ++ us)
def acells : List A → List T
 | [] => []
 | a :: r => a.cells ++ acells r
def tup : List Value → Value
 | [v] => v
 | vs => .tuple vs.toArray
def AC (P : Program) (f : FuncId) (args outs res : List A) : Prop :=
 (∃ fn, P.funcs[f]? = some fn ∧ (fn.name == "runtime.NumGoroutine") = false ∧ fn.body.isNone = false) ∧ ∀ (w : World) (K S φ : Nat → Prop) (vs us : List Value), Sub K S → (∀ b, S b → b < w.heap.size) → (∀ b, φ b → b < w.heap.size ∧ ¬ S b) → Tb P w φ →
  AS args vs us → CR P w K S (acells args) us φ →
  Calls P f vs.toArray w fun e w' => ∃ rs us' φ' K', e = .returned (tup rs) ∧ AS res rs us' ∧ CR P w' K' K' (acells outs ++ acells res) (us ++ us') φ' ∧
   (∀ b, φ' b → b < w'.heap.size ∧ ¬ K' b ∧ (φ b ∨ w.heap.size ≤ b)) ∧ Kept w w' φ ∧ Sub K K' ∧ (∀ b, K' b → K b ∨ (b < w'.heap.size ∧ (φ b ∨ w.heap.size ≤ b)))
def jks : List A → List A
 | [] => []
 | a :: r => a.jk :: jks r
def AllP : List Prop → Prop
 | [] => True
 | p :: r => p ∧ AllP r
theorem qI (a b : List Prop) : AllP (a ++ b) ↔ AllP a ∧ AllP b := by
 induction a with
 | nil => simp [AllP]
 | cons p r ih => simp [AllP, ih, and_assoc]
def freshB (nx : Nat) (objs : List (Nat × O)) (id : Nat) : Bool := bif nl nx id then (bif hasKey objs id then false else true) else false
def ownCell (objs : List (Nat × O)) : V → Option (T × Option Nat)
 | .t (.s v) => some (.s v, none)
 | .t (.im true r) => some (.im true r, none)
 | .t .er => some (.er, none)
 | .rf id => match look .dead objs id with
  | .row _ e _ rows => some (.ow e rows, some id)
  | _ => none
 | _ => none
def ownCells (objs : List (Nat × O)) : List V → Option (List T × List (Option Nat))
 | [] => some ([], [])
 | c :: cs => match ownCell objs c with
  | none => none
  | some (x, d) => match ownCells objs cs with
   | none => none
   | some (xs, ds) => some (x :: xs, d :: ds)
def plainT : List V → Option (List T)
 | [] => some []
 | c :: cs => match plainT cs with
  | none => none
  | some ts => match c with
   | .t (.s v) => some (.s v :: ts)
   | .t (.im true r) => some (.im true r :: ts)
   | _ => none
def plainV : List T → Option (List V)
 | [] => some []
 | c :: cs => match plainV cs with
  | none => none
  | some vs => match c with
   | .s v => some (.t (.s v) :: vs)
   | .im true r => some (.t (.im true r) :: vs)
   | _ => none
def back : List (Nat × O) → List (Option Nat) → List T → Option (List (Nat × O))
 | objs, [], _ => some objs
 | objs, none :: ds, _ :: ts => back objs ds ts
 | objs, some id :: ds, t :: ts => match t, look .dead objs id with
  | .ow e' rows', .row ver e sz _ => match nq e e' with
   | true => back ((id, .row (ver + 1) e sz rows') :: objs) ds ts
   | false => none
  | .jk, _ => back ((id, .dead) :: objs) ds ts
  | .bx e' cs, .box e _ => match nq e e', plainV cs with
   | true, some vs => back ((id, .box e vs) :: objs) ds ts
   | _, _ => none
  | _, _ => none
 | _, _ :: _, [] => none
def openCells (tab : List (Nat × Ty)) (nx : Nat) : List (Nat × O) → Nat → List T → Option (List V × List (Nat × O) × Nat)
 | objs, id, [] => some ([], objs, id)
 | objs, id, c :: cs => match c with
  | .s v => match openCells tab nx objs id cs with
   | some (vs, os, id') => some (.t (.s v) :: vs, os, id')
   | none => none
  | .er => match openCells tab nx objs id cs with
   | some (vs, os, id') => some (.t .er :: vs, os, id')
   | none => none
  | .im true r => match openCells tab nx objs id cs with
   | some (vs, os, id') => some (.t (.im true r) :: vs, os, id')
   | none => none
  | .ow e rows => match getTy tab e, freshB nx objs id with
   | some ty, true => match openCells tab nx ((id, .row 0 e ty.size rows) :: objs) (id + 256) cs with
    | some (vs, os, id') => some (.rf id :: vs, os, id')
    | none => none
   | _, _ => none
  | .bx e xs => match plainV xs, freshB nx objs id with
   | some us, true => match openCells tab nx ((id, .box e us) :: objs) (id + 256) cs with
    | some (vs, os, id') => some (.pt id 0 0 :: vs, os, id')
    | none => none
   | _, _ => none
  | _ => none
def openRes (tab : List (Nat × Ty)) (nx : Nat) : List (Nat × O) → Nat → List A → Option (List V × List (Nat × O))
 | objs, _, [] => some ([], objs)
 | objs, id, .v x :: r => match openCells tab nx objs id [x] with
  | some ([v], os, id') => match openRes tab nx os id' r with
   | some (vs, os') => some (v :: vs, os')
   | none => none
  | _ => none
 | objs, id, .ag xs :: r => match openCells tab nx objs id xs with
  | some (cs, os, id') => match openRes tab nx os id' r with
   | some (vs, os') => some (.ag cs :: vs, os')
   | none => none
  | none => none
def Ls : Lf where
 ar op k x y := match op with
  | .add => k.wrap (x + y)
  | .sub => k.wrap (x - y)
  | .mul => k.wrap (x * y)
  | .quo => k.wrap (x.tdiv y)
  | .rem => x.tmod y
  | .and => k.wrap (BitVec.ofInt k.bits x &&& BitVec.ofInt k.bits y).toNat
  | .xor => k.wrap (BitVec.ofInt k.bits x ^^^ BitVec.ofInt k.bits y).toNat
  | .shr => x.fdiv (2 ^ min y.toNat k.bits)
  | .or => k.wrap x
  | _ => 0
 cm op x y := match op with
  | .eql => decide (x = y)
  | .neq => decide (x ≠ y)
  | .lss => decide (x < y)
  | .leq => decide (x ≤ y)
  | .gtr => decide (y < x)
  | .geq => decide (y ≤ x)
  | _ => false
 bo c x y := if c then x else y
 sc op x y := match op with
  | .eql => x.toList == y.toList
  | .neq => !(x.toList == y.toList)
  | .lss => Op.bytesLess x.toList y.toList
  | .leq => Op.bytesLess x.toList y.toList || x.toList == y.toList
  | .gtr => !(Op.bytesLess x.toList y.toList || x.toList == y.toList)
  | .geq => !Op.bytesLess x.toList y.toList
  | _ => false
 sa x y := x ++ y
 sx s i := ((s.data.toList.getD i.toNat 0).toNat : Int)
 ss s lo hi := s.extract lo.toNat hi.toNat
 sl s := (s.size : Int)
 bs rows := ⟨(rows.map fun r => match r with | [.s (.int _ n)] => UInt8.ofNat n.toNat | _ => 0).toArray⟩
 sb s := s.data.toList.map fun b => [.s (.int .u8 b.toNat)]
 ln rows := (rows.length : Int)
 sr rows lo hi := (rows.take hi.toNat).drop lo.toNat
 ap a b := a ++ b
 up rows i j cs := rows.set i.toNat ((rows.getD i.toNat []).take j ++ cs ++ (rows.getD i.toNat []).drop (j + cs.length))
 rp n z := List.replicate n.toNat z
 fr rows := fzR rows
 ge rows i := rows.getD i.toNat []
 le x y := x ≤ y
 lt x y := x < y
 nz y := y ≠ 0
 mm n b := n * b ≤ 140737488355328 ∧ n ≤ 140737488355328
 ma x y b := ((x.length : Int) + y.length) * b ≤ 140737488355328 ∧ (x.length : Int) + y.length ≤ 140737488355328
 sm x y := (x.size + y.size : Int) ≤ 9223372036854775807
 fl := Flat
 al sz rows := ∀ r ∈ rows, r.length = sz
 ci c x y := if c then x else y
structure TyOk (P : Program) (t : Nat) (ty : Ty) : Prop where
  info : ∃ i, P.info? t = some i ∧ i.size = ty.size ∧ i.bytes = ty.bytes ∧ (ty.zero ≠ [] → ∃ z, i.zero = some z ∧ z.cells.toList = ty.zero)
  desc : ∃ d, P.underlying t = some d ∧ (match d with | .struct _ | .array _ _ => true | _ => false) = ty.agg ∧
    (match d with
     | .struct fs => ty.ik = none ∧ ty.offs = fs.toList.map (fun f => (f.offset, P.cellsOf f.type)) ∧ ∀ f ∈ fs, ∃ i, P.info? f.type = some i ∧ i.size ≠ 0
     | .slice e => ty.ik = none ∧ ty.elem = e
     | .array _ _ => False
     | .int k => ty.ik = some k
     | _ => ty.ik = none)
  isB : ty.isB = true → P.underlying t = some .bool
  isI : ty.isI = true → ∃ ms, P.underlying t = some (.interface ms)
  isS : ty.isS = true → P.underlying t = some (.slice ty.elem)
  isT : ty.isT = true → P.underlying t = some .string
  pos : 0 < ty.size
  agg1 : ty.agg = false → ty.size = 1
  zero1 : ∀ z ∈ ty.zero, z.oneCell' = true
  zlen : ty.zero ≠ [] → ty.zero.length = ty.size
  eqI : ∀ ks, ty.eqI = some ks → P.eqGuardType P.depth t = false ∧ ∀ (w : World) (xs ys : List Int), xs.length = ks.length → ys.length = ks.length → (Op.equal t (.agg (List.zipWith Value.int ks xs).toArray) (.agg (List.zipWith Value.int ks ys).toArray)).run P w = .ok (decide (xs = ys)) w
def TabOk (P : Program) (tab : List (Nat × Ty)) : Prop := ∀ t ty, getTy tab t = some ty → TyOk P t ty
def constB : Operand → Bool
 | .const _ => true
 | _ => false
def argOne (L : Lf) (objs objsB : List (Nat × O)) (own : Bool) (v : V) : Option (A × List (Option Nat)) :=
 match own with
 | false => match v with
  | .ag cs => match lendCell.lendAll L objsB 200 cs with
   | some ts => some (.ag ts, ts.map fun _ => none)
   | none => none
  | v => match lendCell L objsB 200 v with
   | some x => some (.v x, [none])
   | none => none
 | true => match v with
  | .ag cs => match ownCells objs cs with
   | some (ts, ds) => some (.ag ts, ds)
   | none => none
  | .pt id 0 0 => match look .dead objs id with
   | .box e cs => match plainT cs with
    | some ts => some (.v (.bx e ts), [some id])
    | none => none
   | _ => none
  | v => match ownCell objs v with
   | some (x, d) => some (.v x, [d])
   | none => none
def argAll (L : Lf) (objs objsB : List (Nat × O)) : List Bool → List V → Option (List A × List (Option Nat))
 | [], [] => some ([], [])
 | b :: bs, v :: vs => match argOne L objs objsB b v with
  | none => none
  | some (a, d) => match argAll L objs objsB bs vs with
   | none => none
   | some (as, ds) => some (a :: as, d ++ ds)
 | _, _ => none
def subB : List Nat → List Nat → Bool
 | [], _ => true
 | x :: r, l => match nodupB.memB x l with
  | true => subB r l
  | false => false
def evs (env : List (Nat × V)) : List Operand → List Prop × List V
 | [] => ([], [])
 | x :: r => match strip (ev env x) with
  | (p, v) => match evs env r with
   | (ps, vs) => (p ++ ps, v :: vs)
def idsOf : List (Option Nat) → List Nat
 | [] => []
 | none :: r => idsOf r
 | some i :: r => i :: idsOf r
def lowOf (env : List (Nat × V)) : Option Operand → Option (List Prop × Int)
 | none => some ([], 0)
 | some x => match strip (ev env x) with
  | (p, .t (.s (.int _ n))) => some (p, n)
  | _ => none
def highOf (env : List (Nat × V)) : Option Operand → Int → Option (List Prop × Int)
 | none, d => some ([], d)
 | some x, _ => match strip (ev env x) with
  | (p, .t (.s (.int _ n))) => some (p, n)
  | _ => none
abbrev QR := Option (List Prop × V × Bool)
def qPick (L : Lf) (env : List (Nat × V)) (c a b : Operand) : QR :=
 match strip (ev env c) with
 | (pc, .t (.s (.bool c))) => match strip (ev env a), strip (ev env b) with
  | (pa, va), (pb, vb) => match pickV L c va vb with
   | some v => some (pc ++ [c = true → AllP pa, c = false → AllP pb], v, false)
   | none => none
 | _ => none
def okBin (tab : List (Nat × Ty)) (xt : Nat) (y : Operand) : Value → Value → Bool
 | .nilIface, .nilIface => match getTy tab xt with
  | some ty => match ty.isI with
   | true => constB y
   | false => false
  | none => false
 | .bool _, .bool _ => match getTy tab xt with
  | some ty => ty.isB
  | none => false
 | _, _ => true
def qBin (L : Lf) (tab : List (Nat × Ty)) (env : List (Nat × V)) (o : BinOp) (xt : Nat) (x y : Operand) : QR :=
 match strip (ev env x), strip (ev env y) with
 | (px, .t (.s vx)), (py, .t (.s vy)) => match binV L o vx vy, okBin tab xt y vx vy with
  | some (p, v), true => some (px ++ py ++ p, .t (.s v), false)
  | _, _ => none
 | (px, .t .er), (py, .t (.s .nilIface)) => match getTy tab xt with
  | some ty => match ty.isI, o with
   | true, .neq => some (px ++ py, .t (.s (.bool true)), false)
   | true, .eql => some (px ++ py, .t (.s (.bool false)), false)
   | _, _ => none
  | none => none
 | _, _ => none
def eqInts (L : Lf) : List IntKind → List V → List V → Option (List Prop × Bool)
 | [], [], [] => some ([], true)
 | k :: ks, .t (.s (.int k1 x)) :: r, .t (.s (.int k2 y)) :: r' => match eqInts L ks r r' with
  | some (ps, b) => some ((k1 = k) :: (k2 = k) :: ps, L.bo (L.cm .eql x y) b false)
  | none => none
 | _, _, _ => none
def qEqA (L : Lf) (tab : List (Nat × Ty)) (env : List (Nat × V)) (o : BinOp) (xt : Nat) (x y : Operand) : QR :=
 match strip (ev env x), strip (ev env y), getTy tab xt with
 | (px, .ag xs), (py, .ag ys), some ty => match ty.eqI with
  | some ks => match eqInts L ks xs ys, o with
   | some (ps, b), .eql => some (px ++ py ++ ps, .t (.s (.bool b)), false)
   | some (ps, b), .neq => some (px ++ py ++ ps, .t (.s (.bool (L.bo b false true))), false)
   | _, _ => none
  | none => none
 | _, _, _ => none
def qUn (L : Lf) (env : List (Nat × V)) (o : UnOp) (x : Operand) : QR :=
 match strip (ev env x) with
 | (px, .t (.s vx)) => match unV L o vx with
  | some v => some (px, .t (.s v), false)
  | none => none
 | _ => none
def qField (tab : List (Nat × Ty)) (env : List (Nat × V)) (t : Nat) (x : Operand) (f : Nat) : QR :=
 match getTy tab t with
 | some ty => match ty.agg, nth ty.offs f with
  | true, some (o, _) => match strip (ev env x) with
   | (px, .pt id i j) => some (px, .pt id i (j + o), false)
   | (px, .t (.ip cs)) => match nl o (lenN cs) with
    | true => some (px, .t (.ip (dropN o cs)), false)
    | false => none
   | _ => none
  | _, _ => none
 | none => none
def qLoad (L : Lf) (tab : List (Nat × Ty)) (σ : St) (t : Nat) (x : Operand) (sup : Option Sup) : QR :=
 match getTy tab t with
 | some ty => match strip (ev σ.env x) with
  | (px, .t (.ip cs)) => match nl ty.size (lenN cs), fit ty ((takeN ty.size cs).map .t) with
   | true, some v => some (px, v, false)
   | _, _ => none
  | (px, .pt id i j) => match look .dead σ.objs id with
   | .box _ cs => match nl (j + ty.size) (lenN cs), fit ty (takeN ty.size (dropN j cs)) with
    | true, some v => some (px ++ [i = 0], v, false)
    | _, _ => none
   | .row ver _ sz rows => match sup with
    | some (.el es) => match nl (j + ty.size) sz, rowCells id ver i j (takeN ty.size (dropN j es)) with
     | true, some cs => match fit ty cs with
      | some v => some (px ++ [L.le 0 i, L.lt i (L.ln rows), L.ge rows i = es], v, true)
      | none => none
     | _, _ => none
    | _ => none
   | .dead => none
  | _ => none
 | none => none
def elTy (tab : List (Nat × Ty)) (t : Nat) : Option Ty := match getTy tab t with
 | some ty => match ty.isS with
  | true => getTy tab ty.elem
  | false => none
 | none => none
def qIndexA (L : Lf) (tab : List (Nat × Ty)) (σ : St) (t : Nat) (x i : Operand) (sup : Option Sup) : QR :=
 match elTy tab t, strip (ev σ.env i) with
 | some te, (pi, .t (.s (.int _ n))) => match strip (ev σ.env x) with
  | (px, .t (.im _ rows)) => match sup with
   | some (.el es) => match nq (lenN es) te.size with
    | true => some (px ++ pi ++ [L.le 0 n, L.lt n (L.ln rows), L.ge rows n = es], .t (.ip es), true)
    | false => none
   | _ => none
  | (px, .rf id) => match look .dead σ.objs id with
   | .row _ _ sz rows => match nq sz te.size with
    | true => some (px ++ pi ++ [L.le 0 n, L.lt n (L.ln rows)], .pt id n 0, false)
    | false => none
   | _ => none
  | _ => none
 | _, _ => none
def qIndex (L : Lf) (tab : List (Nat × Ty)) (env : List (Nat × V)) (t : Nat) (x i : Operand) : QR :=
 match getTy tab t with
 | some ty => match ty.isT, strip (ev env i), strip (ev env x) with
  | true, (pi, .t (.s (.int _ n))), (px, .t (.s (.string s))) => some (px ++ pi ++ [L.le 0 n, L.lt n (L.sl s)], .t (.s (.int .u8 (L.sx s n))), false)
  | _, _, _ => none
 | none => none
def qExtract (env : List (Nat × V)) (x : Operand) (k : Nat) : QR :=
 match strip (ev env x) with
 | (px, .tu cs) => match nth cs k with
  | some v => some (px, v, false)
  | none => none
 | _ => none
def qNil (env : List (Nat × V)) (x : Operand) : QR :=
 match strip (ev env x) with
 | (px, .pt id i j) => some (px, .pt id i j, false)
 | (px, .t (.ip cs)) => some (px, .t (.ip cs), false)
 | _ => none
def qFunc (env : List (Nat × V)) (fn : Fn) (first caps : List Operand) : QR :=
 match fn, first with
 | .func f, [] => match evs env caps with
  | (ps, vs) => some (ps, .fn f vs, false)
 | _, _ => none
def qLen (L : Lf) (tab : List (Nat × Ty)) (σ : St) (args : List Operand) (ts : List Nat) : QR :=
 match args, ts with
 | [x], [t] => match getTy tab t, strip (ev σ.env x) with
  | some ty, (px, v) => match lenV L σ.objs v, ty.isS, ty.isT with
   | some n, true, _ => match v with
    | .t (.s (.string _)) => none
    | _ => some (px, .t (.s (.int .i64 n)), false)
   | some n, false, true => match v with
    | .t (.s (.string _)) => some (px, .t (.s (.int .i64 n)), false)
    | _ => none
   | _, _, _ => none
  | none, _ => none
 | _, _ => none
def qConv (L : Lf) (tab : List (Nat × Ty)) (env : List (Nat × V)) (src dst : Nat) (x : Operand) : QR :=
 match getTy tab src, getTy tab dst with
 | some ts, some ty => match ts.ik, ty.ik, strip (ev env x) with
  | some _, some k, (px, .t (.s (.int _ n))) => some (px, .t (.s (.int k (L.ar .or k n 0))), false)
  | _, _, _ => none
 | _, _ => none
def qBuild (tab : List (Nat × Ty)) (env : List (Nat × V)) (t : Nat) (parts : List (Nat × Operand)) : QR :=
 match getTy tab t with
 | some ty => match ty.agg, ty.zero, fillParts env ty.offs parts (ty.zero.map fun z => .t (.s z)) with
  | true, _ :: _, some (ps, cs) => some (ps, .ag cs, false)
  | _, _, _ => none
 | none => none
def qSlice (L : Lf) (tab : List (Nat × Ty)) (σ : St) (t : Nat) (x : Operand) (lo hi : Option Operand) : QR :=
 match getTy tab t, strip (ev σ.env x), lowOf σ.env lo with
 | some ty, (px, v), some (pl, l) => match v with
  | .t (.s (.string s)) => match ty.isT, highOf σ.env hi (L.sl s) with
   | true, some (ph, h) => some (px ++ pl ++ ph ++ [L.le 0 l, L.le l h, L.le h (L.sl s)], .t (.s (.string (L.ss s l h))), false)
   | _, _ => none
  | .t (.im k rows) => match elTy tab t, highOf σ.env hi (L.ln rows) with
   | some te, some (ph, h) => some (px ++ pl ++ ph ++ [L.le 0 l, L.le l h, L.le h (L.ln rows), L.al te.size rows], .t (.im k (L.sr rows l h)), false)
   | _, _ => none
  | .rf id => match look .dead σ.objs id with
   | .row _ _ sz rows => match elTy tab t, highOf σ.env hi (L.ln rows) with
    | some te, some (ph, h) => match nq sz te.size with
     | true => some (px ++ pl ++ ph ++ [L.le 0 l, L.le l h, L.le h (L.ln rows)], .sb id l h, false)
     | false => none
    | _, _ => none
   | _ => none
  | _ => none
 | _, _, _ => none
def stepQ (L : Lf) (tab : List (Nat × Ty)) (σ : St) (op : Op) (sup : Option Sup) : QR :=
 match op with
 | .move x => some ([], ev σ.env x, false)
 | .assign x => some ([], ev σ.env x, false)
 | .pick c a b => qPick L σ.env c a b
 | .binOp o xt x y _ => match qBin L tab σ.env o xt x y with
  | some r => some r
  | none => qEqA L tab σ.env o xt x y
 | .unOp o _ x => qUn L σ.env o x
 | .fieldAddr t x f => qField tab σ.env t x f
 | .load t x => qLoad L tab σ t x sup
 | .indexAddr t x i => qIndexA L tab σ t x i sup
 | .index t x i => qIndex L tab σ.env t x i
 | .extract x k => qExtract σ.env x k
 | .nilCheck x => qNil σ.env x
 | .makeFunc fn first caps => qFunc σ.env fn first.toList caps.toList
 | .convert src dst x => qConv L tab σ.env src dst x
 | .build t parts => qBuild tab σ.env t parts.toList
 | .slice t x lo hi mx => match mx with
  | none => qSlice L tab σ t x lo hi
  | some _ => none
 | .call c => match c.callee with
  | .builtin b => match b with
   | .len => qLen L tab σ c.args.toList c.argTypes.toList
   | _ => none
  | _ => none
 | _ => none
abbrev AR := Option (List Prop × V × List (Nat × O))
def jrL (L : Lf) (rows : Rws) (lo hi : Int) (sz : Nat) : Rws := L.ap (L.ap (L.sr rows 0 lo) (L.rp (L.ar .sub .i64 hi lo) (List.replicate sz .jk))) (L.sr rows hi (L.ln rows))
def hasSl : List Value → Bool
 | [] => false
 | .slice none 0 0 :: _ => true
 | _ :: r => hasSl r
def mvB (te : Ty) : V → Bool
 | .sb _ _ _ => hasSl te.zero
 | _ => false
def sourceM (L : Lf) (objs : List (Nat × O)) (size : Nat) : V → Option (List Prop × Rws × Nat × O)
 | .sb sid lo hi => match look .dead objs sid with
  | .row ver e sz rows => match nq sz size with
   | true => some ([L.le hi (L.ln rows)], L.sr rows lo hi, sid, .row (ver + 1) e sz (jrL L rows lo hi sz))
   | false => none
  | _ => none
 | _ => none
def lenEq (n : Nat) {α : Type} (l : List α) : Bool := nq n (lenN l)
def stepA (L : Lf) (tab : List (Nat × Ty)) (σ : St) (id : Nat) (op : Op) : AR :=
 match op with
 | .box e x => match strip (ev σ.env x) with
  | (p, v) => match cellsOf v with
   | some vc => some (p, .pt id 0 0, [(id, .box e vc)])
   | none => none
 | .alloc e => match getTy tab e with
  | some ty => match ty.zero with
   | z :: zr => some ([], .pt id 0 0, [(id, .box e ((z :: zr).map fun z => .t (.s z)))])
   | [] => none
  | none => none
 | .buildSlice t n parts => match getTy tab t with
  | some ty => match ty.isS, getTy tab ty.elem with
   | true, some te => match litRows σ.objs σ.env te.size 0 parts.toList with
    | some (ps, rows, ds) => match nodupB ds, nq n (lenN rows), nl (n * te.size) 65536, nq n 0, te.zero with
     | true, true, true, true, _ => some (ps, .rf id, (id, .row 0 ty.elem te.size rows) :: deads ds)
     | true, true, true, false, _ :: _ => some (ps, .rf id, (id, .row 0 ty.elem te.size rows) :: deads ds)
     | _, _, _, _, _ => none
    | none => none
   | _, _ => none
  | none => none
 | .makeSlice t l c => match getTy tab t with
  | some ty => match ty.isS, getTy tab ty.elem with
   | true, some te => match te.zero, strip (ev σ.env l), strip (ev σ.env c) with
    | z :: zr, (pl, .t (.s (.int _ n))), (pc, .t (.s (.int _ m))) => some (pl ++ pc ++ [n = m, L.le 0 n, L.mm n te.bytes], .rf id, [(id, .row 0 ty.elem te.size (L.rp n ((z :: zr).map .s)))])
    | _, _, _ => none
   | _, _ => none
  | none => none
 | .call c => match c.callee, c.args.toList, c.argTypes.toList with
  | .builtin .append, [s, x], [t, t'] => match nq t t', getTy tab t with
   | true, some ty => match ty.isS, getTy tab ty.elem with
    | true, some te => match strip (ev σ.env s), strip (ev σ.env x), te.zero with
     | (p1, v1), (p2, v2), _ :: _ => match mvB te v2 with
      | true => match target σ.objs ty.elem v1, sourceM L σ.objs te.size v2 with
       | some (r1, d1), some (p3, r2, sid, o) => match nodupB (sid :: d1), freshB σ.nx σ.objs (id + 1) with
        | true, true => some (p1 ++ p2 ++ p3 ++ [L.ma r1 r2 te.bytes], .rf id, (id, .row 0 ty.elem te.size (L.ap r1 r2)) :: (deads (d1 ++ [id + 1]) ++ [(id + 1, .dead), (sid, o)]))
        | _, _ => none
       | _, _ => none
      | false => match target σ.objs ty.elem v1, source L σ.objs te.size v2 with
       | some (r1, d1), some (p3, r2, d2) => match nodupB (d1 ++ d2) with
        | true => some (p1 ++ p2 ++ p3 ++ [L.ma r1 r2 te.bytes], .rf id, (id, .row 0 ty.elem te.size (L.ap r1 r2)) :: deads (d1 ++ d2))
        | false => none
       | _, _ => none
     | _, _, _ => none
    | _, _ => none
   | _, _ => none
  | _, _, _ => none
 | _ => none
def stepS (L : Lf) (tab : List (Nat × Ty)) (σ : St) (op : Op) : Option (List Prop × List (Nat × O)) :=
 match op with
 | .store t x y => match getTy tab t, strip (ev σ.env x), strip (ev σ.env y) with
  | some ty, (px, .pt id i j), (py, v) => match cellsOf v with
   | some vc => match (match atomsB vc with | true => nq (lenN vc) ty.size | false => false), look .dead σ.objs id with
    | true, .box e cs => match nl (j + ty.size) (lenN cs) with
     | true => some (px ++ py ++ [i = 0], [(id, .box e (takeN j cs ++ vc ++ dropN (j + ty.size) cs))])
     | false => none
    | true, .row ver e sz rows => match sinkCells σ.objs vc, nl (j + ty.size) sz with
     | some (ts, ds), true => match nodupB (id :: ds) with
      | true => some (px ++ py ++ [L.le 0 i, L.lt i (L.ln rows)], (id, .row (ver + 1) e sz (L.up rows i j ts)) :: deads ds)
      | false => none
     | _, _ => none
    | _, _ => none
   | none => none
  | _, _, _ => none
 | _ => none
def falses : List V → List Bool
 | [] => []
 | _ :: r => false :: falses r
def stepC (P : Program) (L : Lf) (tab : List (Nat × Ty)) (σ : St) (id : Nat) (c : Call) (sup : Option Sup) : Option (List Prop × V × List (Nat × O)) :=
 match c.callee, sup with
 | .value f, some (.call own outs res) => match strip (ev σ.env f), evs σ.env c.args.toList with
  | (pf, .fn g caps), (pa, vs) => match argAll L σ.objs σ.objs (own ++ falses caps) (vs ++ caps) with
   | some (_, ds0) => match argAll L σ.objs (deads (idsOf ds0) ++ σ.objs) (own ++ falses caps) (vs ++ caps) with
    | some (as, ds) => match subB (idsOf ds) (idsOf ds0), nodupB (idsOf ds), nq (lenN (acells outs)) (lenN ds), back σ.objs ds (acells outs) with
     | true, true, true, some objs => match openRes tab σ.nx objs id res with
      | some (rs, objs') => match rs with
       | [r] => some (pf ++ pa ++ [AC P g as outs res], r, objs')
       | rs => some (pf ++ pa ++ [AC P g as outs res], .tu rs, objs')
      | none => none
     | _, _, _, _ => none
    | none => none
   | none => none
  | _, _ => none
 | _, _ => none
def HandOk (P : Program) (op : Op) (vals : List V) (obs : List (Nat × O)) (v : V) (os : List (Nat × O)) : Prop :=
 ∀ (F : Fr) (σ : St) (a : Act) (w : World) (S : Nat → Prop) (G : Gh) (φ : Nat → Nat → Prop), F.P = P → Rel0 F σ a w S G φ → VRs F.P w F.K S G vals (op.operands.toList.map a.eval) → (∀ p ∈ obs, look .dead σ.objs p.1 = p.2) →
  (∀ p ∈ os, (∃ q ∈ obs, q.1 = p.1) ∨ freshB σ.nx σ.objs p.1 = true) →
  ∃ u w' G' φ', (∀ o : Oper, o.op = op → (execOp a.eval o).run F.P w = .ok (.value u) w') ∧ Rel0 F ⟨σ.n, σ.nx, σ.env, os ++ σ.objs⟩ a w' S G' φ' ∧ VR F.P w' F.K S G' v u
def handObs (objs : List (Nat × O)) : List Nat → Option (List (Nat × O))
 | [] => some []
 | i :: r => match handObs objs r with
  | none => none
  | some q => match look .dead objs i with
   | .dead => none
   | o => some ((i, o) :: q)
def keysB (nx : Nat) (objs : List (Nat × O)) (ids : List Nat) : List (Nat × O) → Bool
 | [] => true
 | (k, _) :: r => match nodupB.memB k ids with
  | true => keysB nx objs ids r
  | false => match freshB nx objs k with
   | true => keysB nx objs ids r
   | false => false
def stepH (P : Program) (σ : St) (op : Op) (ids : List Nat) (v : V) (os : List (Nat × O)) : Option (List Prop × V × List (Nat × O)) :=
 match handObs σ.objs ids, keysB σ.nx σ.objs ids os, evs σ.env op.operands.toList with
 | some obs, true, (ps, vals) => some (ps ++ [HandOk P op vals obs v os], v, os)
 | _, _, _ => none
end Go.Proofs.YtcpekllcbimpmaaGreatDoor.L
namespace Go.Proofs.YtcpekllcbimpmaaGreatDoor.L
set_option linter.unusedVariables false
set_option linter.unusedSimpArgs false
open Go
variable {F : Fr} {σ : St} {a : Act} {w : World} {S : Nat → Prop} {G : Gh} {φ : Nat → Nat → Prop} {tab : List (Nat × Ty)}
theorem VR.s {P K} {v : Value} (h : v.oneCell' = true) : VR P w K S G (.t (.s v)) v := .t (.s h .nil) .nil
theorem VR.s_inv {P K} {v u : Value} (h : VR P w K S G (.t (.s v)) u) : u = v ∧ v.oneCell' = true := by
 cases h with
 | t hx _ => cases hx with
  | s h1 _ => exact ⟨rfl, h1⟩
theorem VR.strip {P K} {v : V} {u : Value} (h : VR P w K S G v u) (hp : AllP (strip v).1) : VR P w K S G (strip v).2 u := by
 cases v with
 | cd b v =>
  have hb : b = true := hp.1
  subst hb
  cases h with
  | cd1 hv _ => exact hv
 | _ => exact h
theorem Rel0.ev (h : Rel0 F σ a w S G φ) (x : Operand) (hx : ∀ v, x = .const v → v.oneCell' = true) : VR F.P w F.K S G (ev σ.env x) (a.eval x) := by
 cases x with
 | tmp t => exact h.env t
 | const v => exact VR.s (hx v rfl)
 | func f => exact .fn (us' := []) .nil .nil
 | global g => exact .uu .nil
def ConstsOk (op : Op) : Prop := ∀ x ∈ op.operands, ∀ v, x = .const v → v.oneCell' = true
theorem qWT (x y : Int) : (x == y) = decide (x = y) := by by_cases h : x = y <;> simp [h]
theorem qXT (x y : Int) : (x != y) = decide (x ≠ y) := by by_cases h : x = y <;> simp [h, bne]
theorem qWD {P : Program} (op : BinOp) (t : TypeId) (x y : Operand) (u v : Value) (h : (match u, v with | .nilIface, .nilIface => False | .agg _, .agg _ => False | _, _ => True)) : (eqGuard op t x y u v).run P w = .ok () w := by
 unfold eqGuard
 by_cases ho : (op matches .eql | .neq) = true
 · cases u <;> cases v <;> simp_all
 cases op <;> simp_all
theorem qXJ {P : Program} {t : TypeId} (ht : P.underlying t = some .bool) (x y : Bool) : (Op.equal t (.bool x) (.bool y)).run P w = .ok (x == y) w := by
 obtain ⟨n, hn⟩ : ∃ n, Op.maxDepth = n + 1 := ⟨9999, rfl⟩
 unfold Op.equal
 rw [hn]
 simp [Op.equalIn, run_underlying ht]
theorem qTL {P : Program} {t : TypeId} {ms} (ht : P.underlying t = some (.interface ms)) : (Op.equal t .nilIface .nilIface).run P w = .ok true w := by
 obtain ⟨n, hn⟩ : ∃ n, Op.maxDepth = n + 1 := ⟨9999, rfl⟩
 unfold Op.equal
 rw [hn]
 simp [Op.equalIn, run_underlying ht]
theorem qJO {P : Program} {t : TypeId} {ms} (ht : P.underlying t = some (.interface ms)) (u : TypeId) (x : Value) : (Op.equal t (.iface u x) .nilIface).run P w = .ok false w := by
 obtain ⟨n, hn⟩ : ∃ n, Op.maxDepth = n + 1 := ⟨9999, rfl⟩
 unfold Op.equal
 rw [hn]
 simp [Op.equalIn, run_underlying ht]
theorem bo_eq (x y : Bool) : Ls.bo x y (Ls.bo y false true) = (x == y) := by cases x <;> cases y <;> rfl
theorem bo_ne (x y : Bool) : Ls.bo x (Ls.bo y false true) y = (x != y) := by cases x <;> cases y <;> rfl
theorem qYJ {P : Program} {o : BinOp} {x y v : Value} {ps : List Prop} (t : TypeId) (h : binV Ls o x y = some (ps, v)) (hp : AllP ps)
  (hB : ∀ a b, x = .bool a → y = .bool b → P.underlying t = some .bool) (hI : x = .nilIface → y = .nilIface → ∃ ms, P.underlying t = some (.interface ms)) : (binOp o t x y).run P w = .ok v w := by
 unfold binV at h
 split at h <;> simp only [Option.some.injEq, Prod.mk.injEq, reduceCtorEq] at h <;> obtain ⟨rfl, rfl⟩ := h
 case h_1 => obtain ⟨rfl, _⟩ := hp; simp [binOp, Op.intArith, Ls]
 case h_2 => obtain ⟨rfl, _⟩ := hp; simp [binOp, Op.intArith, Ls]
 case h_3 => obtain ⟨rfl, _⟩ := hp; simp [binOp, Op.intArith, Ls]
 case h_4 => obtain ⟨rfl, h0, _⟩ := hp; simp only [Ls] at h0; simp [binOp, Op.intDiv, Ls, h0]
 case h_5 => obtain ⟨rfl, h0, _⟩ := hp; simp only [Ls] at h0; simp [binOp, Op.intDiv, Ls, h0]
 case h_6 => obtain ⟨rfl, _⟩ := hp; simp [binOp, Op.intBits, Ls]
 case h_7 => obtain ⟨rfl, _⟩ := hp; simp [binOp, Op.intBits, Ls]
 case h_8 => obtain ⟨_, rfl, h0, _⟩ := hp; simp only [Ls] at h0; simp [binOp, Op.shift, Ls]; omega
 case h_9 => obtain ⟨rfl, _⟩ := hp; simp [binOp, Op.intCmp, Ls, qWT]
 case h_10 => obtain ⟨rfl, _⟩ := hp; simp [binOp, Op.intCmp, Ls, qXT]
 case h_11 => obtain ⟨rfl, _⟩ := hp; simp [binOp, Op.intCmp, Ls]
 case h_12 => obtain ⟨rfl, _⟩ := hp; simp [binOp, Op.intCmp, Ls]
 case h_13 => obtain ⟨rfl, _⟩ := hp; simp [binOp, Op.intCmp, Ls]
 case h_14 => obtain ⟨rfl, _⟩ := hp; simp [binOp, Op.intCmp, Ls]
 case h_15 => rw [bo_eq]; simp [binOp, qXJ (hB _ _ rfl rfl)]
 case h_16 => rw [bo_ne]; simp [binOp, qXJ (hB _ _ rfl rfl), bne]
 case h_17 => simp [binOp, Op.stringOp, Ls]
 case h_18 => simp [binOp, Op.stringOp, Ls]
 case h_19 => simp [binOp, Op.stringOp, Ls]
 case h_20 => simp [binOp, Op.stringOp, Ls]
 case h_21 => simp [binOp, Op.stringOp, Ls]
 case h_22 => simp [binOp, Op.stringOp, Ls]
 case h_23 =>
  have h0 := hp.1
  simp only [Ls] at h0
  simp only [binOp, Op.stringOp]
  rw [if_neg (by simp [IntKind.max, IntKind.signed, IntKind.bits] ; omega)]
  simp [Ls]
 case h_24 => obtain ⟨ms, hm⟩ := hI rfl rfl; simp [binOp, qTL hm]
 case h_25 => obtain ⟨ms, hm⟩ := hI rfl rfl; simp [binOp, qTL hm]
theorem qkP {P : Program} {o : UnOp} {x v : Value} (h : unV Ls o x = some v) : (Op.unary o x).run P w = .ok v w := by
 unfold unV at h
 split at h <;> simp only [Option.some.injEq, reduceCtorEq] at h <;> subst h
 · cases ‹Bool› <;> simp [Op.unary, Ls]
 simp [Op.unary, Op.intArith, Ls]
theorem qDN {P K} {c : Bool} {va vb v : V} {ua ub : Value} (h : pickV Ls c va vb = some v) (ha : c = true → VR P w K S G va ua) (hb : c = false → VR P w K S G vb ub) : VR P w K S G v (if c then ua else ub) := by
 unfold pickV at h
 split at h <;> simp only [Option.some.injEq, reduceCtorEq] at h
 subst h
 cases c with
 | true => obtain ⟨rfl, _⟩ := (ha rfl).s_inv; simpa [Ls] using VR.s rfl
 | false => obtain ⟨rfl, _⟩ := (hb rfl).s_inv; simpa [Ls] using VR.s rfl
theorem qED {α : Type} : ∀ (n : Nat) (l : List α), takeN n l = l.take n
 | 0, _ => by simp [takeN]
 | n + 1, [] => by simp [takeN]
 | n + 1, x :: r => by simp [takeN, qED n r]
theorem qXD {α : Type} : ∀ (n : Nat) (l : List α), dropN n l = l.drop n
 | 0, _ => by simp [dropN]
 | n + 1, [] => by simp [dropN]
 | n + 1, x :: r => by simp [dropN, qXD n r]
theorem quB {α : Type} : ∀ l : List α, lenN l = l.length
 | [] => rfl
 | _ :: r => by simp [lenN, quB r]
theorem qUL {α : Type} : ∀ (l : List α) (n : Nat), nth l n = l[n]?
 | [], _ => by simp [nth]
 | x :: r, 0 => by simp [nth]
 | x :: r, n + 1 => by simp [nth, qUL r n]
theorem qlP {P : Program} {t : Nat} {ty : Ty} (h : TyOk P t ty) : (isAgg t).run P w = .ok ty.agg w := by
 obtain ⟨d, hd, ha, _⟩ := h.desc
 unfold isAgg
 rw [Sem.run_bind, run_underlying hd w]
 rw [← ha]
 cases d <;> simp [Result.andThen]
theorem qdD {P : Program} {t : Nat} {ty : Ty} (h : TyOk P t ty) : (sizeOf t).run P w = .ok ty.size w := by
 obtain ⟨i, hi, h1, _⟩ := h.info
 simp [sizeOf, typeInfo, hi, h1]
theorem qyC {P : Program} {t : Nat} {ty : Ty} (h : TyOk P t ty) : P.cellsOf t = ty.size := by
 obtain ⟨i, hi, h1, _⟩ := h.info
 simp [Program.cellsOf, hi, h1]
def one (ty : Ty) (us : List Value) : Value := match ty.agg with
 | true => .agg us.toArray
 | false => us.headD undef
theorem qQE {P : Program} {t : Nat} {ty : Ty} (h : TyOk P t ty) {b o : Nat} {l : List Value} (hl : l.length = ty.size) (hc : ∀ j u, l[j]? = some u → w.cell? ⟨b, o + j, none⟩ = some u) :
  (loadVar t ⟨b, o, none⟩).run P w = .ok (one ty l) w := by
 have hc' : ∀ j v, l[j]? = some v → w.cell? ((⟨b, o, none⟩ : Addr).add j) = some v := by
  intro j v hv
  rw [Addr.add_lit]
  exact hc j v hv
 unfold loadVar
 rw [Sem.run_bind, qlP h]
 cases ha : ty.agg with
 | true =>
  simp only [Result.andThen_ok, if_true, Sem.run_bind, qdD h, ← hl, run_loadCells_list (P := P) w ⟨b, o, none⟩ l hc', one, ha]
  rfl
 | false =>
  have h1 := h.agg1 ha
  match l, hl.trans h1 with
  | [u], _ =>
   have := hc 0 u rfl
   simp only [Nat.add_zero] at this
   simp [one, ha, load, Sem.run, this]
theorem qPG {P K} {ty : Ty} {cs : List V} {us : List Value} {v : V} (h : fit ty cs = some v) (hv : VRs P w K S G cs us) : VR P w K S G v (one ty us) := by
 unfold fit at h
 cases ha : ty.agg with
 | true =>
  rw [ha] at h
  simp only [Option.some.injEq] at h
  subst h
  simp only [one, ha]
  exact .ag hv .nil
 | false =>
  rw [ha] at h
  match cs, h, hv with
  | [c], h, hv =>
   simp only [Option.some.injEq] at h
   subst h
   obtain ⟨u, us', rfl, h1, h2⟩ := hv.uncons
   simpa [one, ha] using h1
theorem VRs.drop {P K} {cs : List V} {us : List Value} (h : VRs P w K S G cs us) : ∀ j, VRs P w K S G (cs.drop j) (us.drop j)
 | 0 => by simpa using h
 | j + 1 => by
  cases cs with
  | nil => cases h; simpa using VRs.nil
  | cons c r => obtain ⟨u, us, rfl, h1, h2⟩ := h.uncons; simpa using VRs.drop h2 j
theorem VRs.take {P K} {cs : List V} {us : List Value} (h : VRs P w K S G cs us) : ∀ j, VRs P w K S G (cs.take j) (us.take j)
 | 0 => by simpa using VRs.nil
 | j + 1 => by
  cases cs with
  | nil => cases h; simpa using VRs.nil
  | cons c r => obtain ⟨u, us, rfl, h1, h2⟩ := h.uncons; simpa using .cons h1 (VRs.take h2 j)
theorem CR.drop {P K} {ts : List T} {us : List Value} {φ : Nat → Prop} (h : CR P w K S ts us φ) (j : Nat) : CR P w K S (ts.drop j) (us.drop j) φ := by
 rcases Nat.lt_or_ge j ts.length with hj | hj
 ·
  rw [← List.take_append_drop j ts] at h
  obtain ⟨u1, u2, φ1, φ2, rfl, h1, h2, _, _, s2⟩ := h.split
  have : u1.length = j := by rw [h1.len, List.length_take]; omega
  rw [← this, List.drop_left, this]
  exact h2.mono s2
 have := h.len
 rw [List.drop_eq_nil_of_le hj, List.drop_eq_nil_of_le (by omega)]
 exact .nil
theorem CR.take {P K} {ts : List T} {us : List Value} {φ : Nat → Prop} (h : CR P w K S ts us φ) (j : Nat) : CR P w K S (ts.take j) (us.take j) φ := by
 rcases Nat.lt_or_ge j ts.length with hj | hj
 ·
  rw [← List.take_append_drop j ts] at h
  obtain ⟨u1, u2, φ1, φ2, rfl, h1, h2, _, s1, _⟩ := h.split
  have : u1.length = j := by rw [h1.len, List.length_take]; omega
  rw [← this, List.take_left, this]
  exact h1.mono s1
 have := h.len
 rw [List.take_of_length_le hj, List.take_of_length_le (by omega)]
 exact h
theorem VR.ip_inv {P K} {cs : List T} {u : Value} (h : VR P w K S G (.t (.ip cs)) u) : ∃ b o vs, u = .pointer (some ⟨b, o, none⟩) ∧ (0 < cs.length → S b) ∧ (∀ j x, vs[j]? = some x → w.cell? ⟨b, o + j, none⟩ = some x) ∧ CR P w K S cs vs no := by
 cases h with
 | t hx _ => cases hx with
  | ip vs hS hA hr _ => exact ⟨_, _, vs, rfl, hS, hA, hr⟩
theorem VR.ip_mk {P K} {cs : List T} {b o : Nat} {vs : List Value} (hS : 0 < cs.length → S b) (hA : ∀ j x, vs[j]? = some x → w.cell? ⟨b, o + j, none⟩ = some x) (hr : CR P w K S cs vs no) : VR P w K S G (.t (.ip cs)) (.pointer (some ⟨b, o, none⟩)) :=
 .t (.ip vs hS hA hr .nil) .nil
theorem qYT {P K} {t : Nat} {ty : Ty} (ht : TyOk P t ty) {cs : List T} {u : Value} {v : V} (h : VR P w K S G (.t (.ip cs)) u) (hl : ty.size ≤ cs.length) (hf : fit ty ((cs.take ty.size).map .t) = some v) :
  ∃ x, (Instr.loadAt t u).run P w = .ok x w ∧ VR P w K S G v x := by
 obtain ⟨b, o, vs, rfl, hS, hA, hr⟩ := h.ip_inv
 have h1 := hr.take ty.size
 refine ⟨one ty (vs.take ty.size), ?_, qPG hf (VRs.of_CR h1)⟩
 simp only [Instr.loadAt, Instr.sureAddr, Sem.run_bind, Sem.run_pure, Result.andThen_ok]
 refine qQE ht (by rw [List.length_take, hr.len]; omega) (fun j x hx => hA j x ?_)
 rw [List.getElem?_take] at hx
 split at hx
 · exact hx
 · cases hx
theorem Rel0.blk_lt (h : Rel0 F σ a w S G φ) {id e cs} (ho : look .dead σ.objs id = .box e cs) : ∃ g us, G.β id = .pointer (some ⟨g, 0, none⟩) ∧ w.heap[g]? = some (.cells us.toArray e (0, 0)) ∧ VRs F.P w F.K S G cs us ∧ φ id g := by
 have := h.obj id
 rw [ho] at this
 obtain ⟨_, g, us, h1, h2, h3, h4⟩ := this
 exact ⟨g, us, h1, h2, h4, h3⟩
theorem qKO (h : Rel0 F σ a w S G φ) {t : Nat} {ty : Ty} (ht : TyOk F.P t ty) {id e j : Nat} {cs : List V} (ho : look .dead σ.objs id = .box e cs) {u : Value} {v : V} (hv : VR F.P w F.K S G (.pt id 0 j) u) (hl : j + ty.size ≤ cs.length) (hf : fit ty ((cs.drop j).take ty.size) = some v) :
  ∃ x, (Instr.loadAt t u).run F.P w = .ok x w ∧ VR F.P w F.K S G v x := by
 obtain ⟨g, us, h1, h2, h3, _⟩ := h.blk_lt ho
 cases hv with
 | pt hid hi hg _ =>
  rw [h1] at hg
  obtain rfl : g = _ := by simpa [blk] using hg
  refine ⟨one ty ((us.drop j).take ty.size), ?_, qPG hf ((h3.drop j).take _)⟩
  simp only [Instr.loadAt, Instr.sureAddr, Sem.run_bind, Sem.run_pure, Result.andThen_ok, Int.toNat_zero, Nat.zero_mul, Nat.zero_add]
  refine qQE ht (by rw [List.length_take, List.length_drop, h3.len]; omega) (fun k x hx => ?_)
  rw [cell_of_row w g (j + k) us.toArray e (0, 0) h2]
  rw [List.getElem?_take] at hx
  split at hx
  ·
   rw [List.getElem?_drop] at hx
   simpa using hx
  cases hx
end Go.Proofs.YtcpekllcbimpmaaGreatDoor.L
namespace Go.Proofs.YtcpekllcbimpmaaGreatDoor.L
set_option linter.unusedVariables false
set_option linter.unusedSimpArgs false
open Go
variable {F : Fr} {σ : St} {a : Act} {w : World} {S : Nat → Prop} {G : Gh} {φ : Nat → Nat → Prop} {tab : List (Nat × Ty)}
theorem qnF {P K} (hKS : Sub K S) {id ver : Nat} {i : Int} {rows0 : Rws} {us0 : List Value} (hid : G.dom id) (hi : 0 ≤ i) (hk : G.κ id ver = some (rows0, us0)) (hlt : i.toNat < rows0.length) {ψ : Nat → Prop} :
  ∀ (l : List T) (j : Nat) (us : List Value) (cs : List V), rowCells id ver i j l = some cs → (∀ k t, l[k]? = some t → (rows0.getD i.toNat [])[j + k]? = some t) → (∀ k u, us[k]? = some u → us0[i.toNat * G.sz id + (j + k)]? = some u) → j + l.length ≤ G.sz id →
   CR P w K K l us ψ → VRs P w K S G cs us
 | [], j, us, cs, h, _, _, _, hc => by
  simp only [rowCells, Option.some.injEq] at h
  subst h
  cases hc
  exact .nil
 | c :: l, j, us, cs, h, h1, h2, h3, hc => by
  simp only [rowCells] at h
  obtain ⟨u1, u2, φ1, φ2, rfl, ha, hb, _, _, _⟩ := CR.split (a := [c]) hc
  obtain ⟨u, rfl⟩ : ∃ u, u1 = [u] := by
   have := ha.len
   match u1, this with
   | [u], _ => exact ⟨u, rfl⟩
  cases hr : rowCells id ver i (j + 1) l with
  | none => simp [hr] at h
  | some vs =>
   have ih := qnF hKS hid hi hk hlt l (j + 1) u2 vs hr (fun k t hk => by have := h1 (k + 1) t (by simpa using hk); rwa [Nat.add_assoc, Nat.add_comm 1 k]) (fun k u hk => by have := h2 (k + 1) u (by simpa using hk); rwa [Nat.add_assoc, Nat.add_comm 1 k]) (by simp at h3 ⊢; omega) hb
   rw [hr] at h
   cases c with
   | s v =>
    simp only [Option.some.injEq] at h
    subst h
    cases ha with
    | s hv _ => exact .t (.s hv .nil) ih
   | im k r =>
    simp only [Option.some.injEq] at h
    subst h
    refine .t ?_ ih
    cases ha with
    | im0 hn hcc sz hs vs hA hr0 _ => exact .im0 hn hcc sz hs vs (fun hp => let ⟨b, o, e, hb, hx⟩ := hA hp; ⟨b, o, e, hKS b hb, hx⟩) (hr0.more hKS) .nil
    | im1 hn hcc sz hs vs hA hr0 _ => exact .im1 hn hcc sz hs vs hA hr0 .nil
   | ow e r =>
    simp only [Option.some.injEq] at h
    subst h
    refine .np hid hi rows0 us0 hk (by simp at h3; omega) (by simpa using h1 0 _ rfl) hlt (by simpa using h2 0 u rfl) ?_ ih
    cases ha with
    | ow hs vs ho _ _ _ _ _ _ _ _ =>
     rcases ho.2 with ⟨rfl, hn⟩ | ⟨g, cap, cur, rfl, _⟩
     · exact ⟨none, 0, by rw [hn]⟩
     exact ⟨_, cap, rfl⟩
   | _ => simp at h
theorem qeD {α : Type} {sz : Nat} : ∀ (rows : List (List α)) (i : Nat), (∀ r ∈ rows, r.length = sz) → i < rows.length → (rows.flatten.drop (i * sz)).take sz = rows.getD i []
 | [], i, _, h => by simp at h
 | r :: rows, 0, hs, _ => by
  have := hs r (by simp)
  simp [← this]
 | r :: rows, i + 1, hs, h => by
  have hr := hs r (by simp)
  have ih := qeD rows i (fun q hq => hs q (by simp [hq])) (by simpa using h)
  simp only [List.flatten_cons, List.getD_cons_succ]
  rw [← ih, Nat.succ_mul, Nat.add_comm, ← hr, List.drop_append, List.drop_eq_nil_of_le (by omega), List.nil_append]
  congr 2
  omega
theorem qvB {α : Type} {sz : Nat} : ∀ (rows : List (List α)), (∀ r ∈ rows, r.length = sz) → rows.flatten.length = rows.length * sz
 | [], _ => by simp
 | r :: rows, hs => by
  have hr := hs r (by simp)
  have ih := qvB rows (fun q hq => hs q (by simp [hq]))
  rw [List.flatten_cons, List.length_append, ih, hr, List.length_cons, Nat.add_mul]
  omega
theorem Rel0.row (h : Rel0 F σ a w S G φ) {id ver e sz rows} (ho : look .dead σ.objs id = .row ver e sz rows) : G.dom id ∧ sz = F.P.cellsOf e ∧ G.sz id = sz ∧ ∃ us, G.κ id ver = some (rows, us) ∧ (∀ r ∈ rows, r.length = sz) ∧ w.ownsRow 0 e sz (G.β id) rows.length us ∧
      ∃ ψ : Nat → Prop, (∀ b, (G.β id).ownBlock = some b → φ id b ∧ ¬ ψ b) ∧ Sub ψ (φ id) ∧ CR F.P w F.K F.K rows.flatten us ψ := by
  have := h.obj id
  rwa [ho] at this
theorem qqD {e sz n : Nat} {v : Value} {us : List Value} (h : w.ownsRow 0 e sz v n us) {g : Nat} (hg : blk v = some g) {j : Nat} {u : Value} (hu : us[j]? = some u) : w.cell? ⟨g, j, none⟩ = some u := by
 rcases h.2 with ⟨rfl, _⟩ | ⟨g', cap, cur, rfl, _, hh, _, _, _, htk⟩
 · simp [blk] at hg
 obtain rfl : g' = g := by simpa [blk] using hg
 rw [cell_of_row w g' j cur e (0, 0) hh]
 rw [← htk, List.getElem?_take] at hu
 split at hu
 · simpa using hu
 cases hu
theorem ge_eq {rows : Rws} {i : Int} {es : List T} (h : Ls.ge rows i = es) : rows.getD i.toNat [] = es := h
theorem qBS (h : Rel0 F σ a w S G φ) {t : Nat} {ty : Ty} (ht : TyOk F.P t ty) {id ver e sz j : Nat} {i : Int} {rows : Rws} {es : List T} {cs : List V} (ho : look .dead σ.objs id = .row ver e sz rows) {u : Value} {v : V} (hv : VR F.P w F.K S G (.pt id i j) u)
  (hl : j + ty.size ≤ sz) (h0 : 0 ≤ i) (h1 : i < Ls.ln rows) (he : Ls.ge rows i = es) (hc : rowCells id ver i j ((es.drop j).take ty.size) = some cs) (hf : fit ty cs = some v) :
  ∃ x, (Instr.loadAt t u).run F.P w = .ok x w ∧ VR F.P w F.K S G v x := by
 obtain ⟨hid, hsz, hGs, us, hk, hrs, hown, ψ, _, _, hcr⟩ := h.row ho
 have hlt : i.toNat < rows.length := by simp only [Ls] at h1; omega
 have hfl := qvB rows hrs
 have hul : us.length = rows.length * sz := hcr.len.trans hfl
 have hesl : es.length = sz := by
  rw [← ge_eq he, List.getD_eq_getElem?_getD, List.getElem?_eq_getElem hlt]
  exact hrs _ (List.getElem_mem hlt)
 have hbd : i.toNat * sz + sz ≤ rows.length * sz := by rw [← Nat.succ_mul]; exact Nat.mul_le_mul_right _ hlt
 have hcr' : CR F.P w F.K F.K ((es.drop j).take ty.size) ((us.drop (i.toNat * sz + j)).take ty.size) ψ := by
  have h2 := (hcr.drop (i.toNat * sz + j)).take ty.size
  have : (rows.flatten.drop (i.toNat * sz + j)).take ty.size = (es.drop j).take ty.size := by
   rw [← ge_eq he, ← qeD rows i.toNat hrs hlt, List.drop_take, List.drop_drop, List.take_take]
   congr 1
   omega
  rwa [this] at h2
 cases hv with
 | pt hid' hi' hg _ =>
  rename_i g _
  refine ⟨one ty ((us.drop (i.toNat * sz + j)).take ty.size), ?_, qPG hf (qnF h.KS hid h0 hk hlt _ j _ cs hc ?_ ?_ ?_ hcr')⟩
  ·
   simp only [Instr.loadAt, Instr.sureAddr, Sem.run_bind, Sem.run_pure, Result.andThen_ok]
   refine qQE ht (by rw [List.length_take, List.length_drop, hul]; omega) (fun k x hx => ?_)
   rw [List.getElem?_take] at hx
   split at hx
   ·
    rw [List.getElem?_drop] at hx
    rw [hGs]
    exact qqD hown hg hx
   cases hx
  ·
   intro k t hk
   rw [List.getElem?_take] at hk
   split at hk
   ·
    rw [List.getElem?_drop] at hk
    rw [ge_eq he]
    exact hk
   cases hk
  ·
   intro k u hu
   rw [List.getElem?_take] at hu
   split at hu
   ·
    rw [List.getElem?_drop] at hu
    rw [hGs, ← Nat.add_assoc]
    exact hu
   cases hu
  rw [hGs, List.length_take, List.length_drop]
  omega
end Go.Proofs.YtcpekllcbimpmaaGreatDoor.L