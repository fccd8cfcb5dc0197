/- Two elements of a row change places: both are taken out, both are laid back. -/
import Derived.Test.YtcpekllcbimpmaaGreatDoorFnTextLib6
import Derived.Laws.BytesString
import Derived.Laws.Cells
import Derived.Laws.Small
namespace Go.Proofs.YtcpekllcbimpmaaGreatDoor.L
set_option linter.unusedVariables false
set_option linter.unusedSimpArgs false
open Go
variable {F : Fr} {w : World} {S : Nat → Prop} {G : Gh} {φ : Nat → Nat → Prop} {tab : List (Nat × Ty)}
def neO (i j : Int) : Option Unit := if i = j then none else some ()
variable {α : Type} {f : α → List T} {l r : List α} {i i1 i2 i3 : Int} {x x1 x2 : α} {j j' j3 : Nat} {c d cs ds : List T}
end Go.Proofs.YtcpekllcbimpmaaGreatDoor.L
namespace Go.Proofs.YtcpekllcbimpmaaGreatDoor.L
set_option linter.unusedVariables false
set_option linter.unusedSimpArgs false
open Go
variable {P : Program} {F : Fr} {w : World} {S : Nat → Prop} {G : Gh} {φ : Nat → Nat → Prop} {tab : List (Nat × Ty)}
theorem qLG : ∀ (ns : List Int) (s : ByteArray), (ns.foldl (fun r n => r.push (UInt8.ofNat n.toNat)) s) = ⟨s.data ++ (ns.map fun n => UInt8.ofNat n.toNat).toArray⟩
 | [], s => by simp
 | n :: ns, s => by
  rw [List.foldl_cons, qLG ns]
  apply congrArg ByteArray.mk
  show (s.push _).data ++ _ = _
  simp [ByteArray.push]
theorem CR.u8 {K S : Nat → Prop} : ∀ {ns : List Int} {us : List Value} {ψ : Nat → Prop}, CR P w K S (ns.map fun n => T.s (.int .u8 n)) us ψ → us = ns.map (Value.int .u8)
 | [], us, ψ, h => by cases h; rfl
 | n :: ns, us, ψ, h => by
  cases h with
  | s _ h => rw [CR.u8 h]; rfl
def u8rows (ns : List Int) : Rws := ns.map fun n => [T.s (.int .u8 n)]
theorem qeN : ∀ ns : List Int, (u8rows ns).flatten = ns.map fun n => T.s (.int .u8 n)
 | [] => rfl
 | n :: ns => by
  have := qeN ns
  unfold u8rows at *
  rw [List.map_cons, List.flatten_cons, this]; rfl
theorem bs_u8 (ns : List Int) : Ls.bs (u8rows ns) = ⟨(ns.map fun n => UInt8.ofNat n.toNat).toArray⟩ := by
 show (⟨((u8rows ns).map _).toArray⟩ : ByteArray) = _
 unfold u8rows
 rw [List.map_map]
 rfl
theorem qYG (htab : TabOk P tab) {src dst : Nat} {ts te td : Ty} (h1 : getTy tab src = some ts) (h2 : ts.isS = true) (h3 : getTy tab ts.elem = some te) (h4 : te.ik = some .u8) (h5 : getTy tab dst = some td) (h6 : td.isT = true) {x : Operand} {id ver e : Nat} {ns : List Int} {rows : Rws} {s : ByteArray} (hr : rows = u8rows ns) (hs : Ls.bs rows = s) :
  HandOk P (.convert src dst x) [.rf id] [(id, .row ver e 1 rows)] (.t (.s (.string s))) [] := by
 subst hr hs
 intro F σ a w S G φ hP hr hv ho _
 subst hP
 have ho := ho _ (List.mem_singleton.2 rfl)
 obtain ⟨hdom, hsz, hGs, us, hkk, hrs, hown, ψ, hψb, hψ, hcr⟩ := hr.row ho
 have hu8 : F.P.underlying ts.elem = some (.int .u8) := by
  obtain ⟨d, hd, _, hx⟩ := (htab _ _ h3).desc
  cases d <;> simp_all
 have hsrc := (htab _ _ h1).isS h2
 have hdst := (htab _ _ h5).isT h6
 simp [Op.operands] at hv
 obtain ⟨u, us1, e1, v1, r1⟩ := hv.uncons
 cases r1
 simp only [List.cons.injEq, and_true] at e1
 rw [qeN] at hcr
 have hus := hcr.u8
 have hlen : (u8rows ns).length = ns.length := by simp [u8rows]
 have hval : a.eval x = G.β id := by
  rw [e1]; cases v1 with | rf _ hu _ _ => exact hu
 have hrun : (convert src dst (a.eval x)).run F.P w = .ok (.string (Ls.bs (u8rows ns))) w := by
  rw [hval, bs_u8]
  rcases hown.2 with ⟨hb, hn⟩ | ⟨g, cap, cur, hb, _, hh, hle, hcap, hcs, htk⟩
  ·
   rw [hb, run_convert_bytes_string w src dst ts.elem none 0 0 hsrc hu8 hdst]
   have : ns = [] := by rw [hlen] at hn; exact List.length_eq_zero_iff.1 hn
   subst this
   simp [Conv.bytesToString]
   rfl
  ·
   rw [hb, run_convert_bytes_string w src dst ts.elem _ _ _ hsrc hu8 hdst]
   rw [run_bytesToString (ns := ns) w ⟨g, 0, none⟩ _ _ (by
    rw [hlen]
    have := run_loadCells_list (P := F.P) (w := w) ⟨g, 0, none⟩ us (fun j v hj => by
     have := qqD hown (g := g) (by rw [hb]; rfl) hj
     by_cases h0 : j = 0
     · subst h0; simpa [Addr.add] using this
     simpa [Addr.add, h0] using this)
    rw [hus] at this
    simpa using this)]
   rw [qLG]
   simp [ByteArray.empty, ByteArray.emptyWithCapacity]
   rfl
 refine ⟨_, w, G, φ, fun o hop => ?_, by simpa using hr, VR.s rfl⟩
 obtain ⟨dst', op, type, pos, after, guard⟩ := o
 simp only at hop
 subst hop
 simp [execOp, hrun]
def smO (x y : ByteArray) : Option Unit := if (x.size + y.size : Int) ≤ 9223372036854775807 then some () else none
theorem sm_t {x y : ByteArray} {u : Unit} (h : smO x y = some u) : Ls.sm x y := by unfold smO at h; split at h <;> simp_all [Ls]
def inS (s : ByteArray) (i : Int) : Option Unit := if 0 ≤ i ∧ i < (s.size : Int) then some () else none
theorem inS_0 {s : ByteArray} {i : Int} {u : Unit} (h : inS s i = some u) : Ls.le 0 i := by unfold inS at h; split at h <;> simp_all [Ls]
theorem inS_1 {s : ByteArray} {i : Int} {u : Unit} (h : inS s i = some u) : Ls.lt i (Ls.sl s) := by unfold inS at h; split at h <;> simp_all [Ls]
def cutS (s : ByteArray) (lo hi : Int) : Option Unit := if 0 ≤ lo ∧ lo ≤ hi ∧ hi ≤ (s.size : Int) then some () else none
theorem quE {s : ByteArray} {lo hi : Int} {u : Unit} (h : cutS s lo hi = some u) : Ls.le 0 lo := by unfold cutS at h; split at h <;> simp_all [Ls]
theorem qvE {s : ByteArray} {lo hi : Int} {u : Unit} (h : cutS s lo hi = some u) : Ls.le lo hi := by unfold cutS at h; split at h <;> simp_all [Ls]
theorem qwE {s : ByteArray} {lo hi : Int} {u : Unit} (h : cutS s lo hi = some u) : Ls.le hi (Ls.sl s) := by unfold cutS at h; split at h <;> simp_all [Ls]
def bsO (ns : List Int) : ByteArray := ⟨(ns.map fun n => UInt8.ofNat n.toNat).toArray⟩
theorem qbO {l : List Int} {r : ByteArray} {f : Int → List T} (h : some (bsO l) = some r) (hf : ∀ n, f n = [T.s (.int .u8 n)] := by intro _; rfl) : Ls.bs (rowsOf f l) = r := by
 obtain rfl : f = fun n => [T.s (.int .u8 n)] := funext hf
 cases h; exact bs_u8 l
theorem qcO {l lit : List Int} {r : ByteArray} (hl : some lit = some l) (h : some (bsO l) = some r) : Ls.bs (u8rows lit) = r := by
 cases hl; cases h; exact bs_u8 _
variable {α : Type} {f u : α → List T} {l r lit : List α} {i : Int} {x y : α} {j : Nat} {c d : T} {raw : Rws} {cs : List T}
theorem qxE (hu : ∀ x, f x = u x) (h : getO l i = some x) : Ls.ge (rowsOf f l) i = u x := by rw [← hu]; exact qdC h
theorem qOB (hu : ∀ x, f x = u x) (h : some lit = some l) (e : RLe P raw (rowsOf u lit)) : RLe P raw (rowsOf f l) := by
 obtain rfl : f = u := funext hu
 exact qU h e
end Go.Proofs.YtcpekllcbimpmaaGreatDoor.L
namespace Go.Proofs.YtcpekllcbimpmaaGreatDoor.L
set_option linter.unusedVariables false
set_option linter.unusedSimpArgs false
open Go
variable {P : Program} {F : Fr} {σ : St} {a : Act} {w : World} {S : Nat → Prop} {G G' : Gh} {φ : Nat → Nat → Prop} {tab : List (Nat × Ty)}
theorem Weak.keepL {n nx : Nat} {env : List (Nat × V)} {objs : List (Nat × O)} (id : Nat) {ver e sz : Nat} {rows : Rws} (ho : look .dead objs id = .row ver e sz rows) (rows' : Rws) (hk : LLe F.P [.im true (Ls.fr rows)] [.im true rows']) :
  Weak F ⟨n, nx, env, objs⟩ ⟨n, nx, frzE id (.im true rows') env, (id, .dead) :: frzO id (.im true rows') objs⟩ := by
 refine Weak.of_keep fun F' hP _ a w S G φ hr => ?_
 rw [← hP] at hk
 clear hP
 revert hk hr
 generalize F' = F
 intro hk hr
 have hx0 : ∀ S', CR F.P w (fun b => F.K b ∨ φ id b) S' [.im true (Ls.fr rows)] [G.β id] no := fun S' => by
  have := ((qcJ hr ho).moreK (K' := fun b => F.K b ∨ φ id b) (fun _ h => .inl h) (S' := fun b => F.K b ∨ φ id b) (fun _ h => .inl h)).lend (S' := fun b => F.K b ∨ φ id b) (fun _ h => h) (fun _ h => h) (fun _ h => .inr h)
  refine CR.im01 ?_
  simpa [fzL, T.fz, Ls] using this
 have hx : ∀ S', Sub (fun b => F.K b ∨ φ id b) S' → CR F.P w (fun b => F.K b ∨ φ id b) S' [.im true rows'] [G.β id] no := fun S' hs => hk _ _ _ _ _ hs (hx0 S')
 have hsb : Sub (fun b => F.K b ∨ φ id b) (fun b => S b ∨ φ id b) := fun b h => h.imp (hr.KS b) (fun h => h)
 refine hr.keep (χ := φ id) (φ' := fun i b => if i = id then False else φ i b) (Gh.le.refl G) (fun _ h => h) (fun b h => ⟨id, h⟩) (fun i b h => ?_) rfl rfl (fun i h => (qY _ _ _ _).2 (.inr ((qlD _ _ _ _).2.trans h))) (fun i v y hy => ⟨(hr.kd i v y hy).1, fun ver' e' sz' r' hl => ?_⟩) (fun t h => ?_) fun i => ?_
 ·
  have h : if i = id then False else φ i b := h
  split at h
  · exact h.elim
  ·
   rename_i hne
   exact ⟨h, fun h' => hr.dj i id hne b h h'⟩
 ·
  rw [qL] at hl
  split at hl
  · cases hl
  ·
   rw [(qlD _ _ _ _).1] at hl
   cases hq : look .dead objs i with
   | box e2 cs => rw [hq] at hl; cases hl
   | dead => rw [hq] at hl; cases hl
   | row v1 e1 s1 r1 =>
    rw [hq] at hl
    simp only [O.row.injEq] at hl
    have := (hr.kd i v y hy).2 _ _ _ _ hq
    omega
 ·
  show VR F.P w _ _ G (look .u (frzE id (.im true rows') env) t) _
  rw [qQI]
  have := qWG (fun _ h => h) (hx _ hsb) h
  simpa [frzL] using this
 ·
  have key : ∀ k : Nat, OR F.P w (fun b => F.K b ∨ φ id b) (fun b => S b ∨ φ id b) G (fun b => if k = id then False else φ k b) k (look .dead ((id, .dead) :: frzO id (.im true rows') objs) k) := by
   intro k
   rw [qL]
   by_cases hk : k = id
   · rw [if_pos hk]; trivial
   rw [if_neg hk, (qlD _ _ _ _).1]
   have e : (fun b => if k = id then False else φ k b) = φ k := by funext b; rw [if_neg hk]
   rw [e]
   have hok : OR F.P w (fun b => F.K b ∨ φ id b) (fun b => S b ∨ φ id b) G (φ k) k (look .dead objs k) := (hr.obj k).moreK (fun _ h => .inl h) (fun _ h => .inl h)
   cases hq : look .dead objs k with
   | dead => trivial
   | row v1 e1 s1 r1 => rw [hq] at hok; exact hok
   | box e1 cs =>
    rw [hq] at hok
    obtain ⟨h1, g, us, h2, h3, h4, h5⟩ := hok
    exact ⟨h1, g, us, h2, h3, h4, qWG (fun _ h => h) (hx _ hsb) h5⟩
  exact key i
def maxO (x y : Int) : Int := if x < y then y else x
def minO (x y : Int) : Int := if y < x then y else x
theorem WeakS.cellB {n nx : Nat} {env : List (Nat × V)} {objs : List (Nat × O)} (b : Nat) {eb : Nat} {l r : List V} {x y : T} (hb : look .dead objs b = .box eb (l ++ .t x :: r)) (hle : LLe F.P [x] [y]) :
  WeakS F ⟨n, nx, env, objs⟩ ⟨n, nx, env, (b, .box eb (l ++ .t y :: r)) :: objs⟩ := by
 rintro a w ⟨S, G, φ, hr⟩
 refine ⟨S, G, φ, fun i hi => ?_, fun i v x hx => ⟨(hr.kd i v x hx).1, fun ver e' sz rows hl => ?_⟩, hr.n, hr.KS, hr.Slt, hr.env, fun i => ?_, hr.dj, hr.own, hr.kept, hr.defs, hr.anc⟩
 ·
  rcases hr.nx i hi with h | h
  · exact .inl h
  · exact .inr ((qY _ _ _ _).2 (.inr h))
 ·
  rw [qL] at hl
  split at hl
  · cases hl
  · exact (hr.kd i v x hx).2 _ _ _ _ hl
 ·
  show OR F.P w F.K S G (φ i) i (look .dead ((b, .box eb (l ++ .t y :: r)) :: objs) i)
  rw [qL]
  split
  ·
   rename_i he
   subst he
   have h := hr.obj i
   change OR F.P w F.K S G (φ i) i (look .dead objs i) at h
   rw [hb] at h
   obtain ⟨h1, g, us, h2, h3, h4, h5⟩ := h
   obtain ⟨ua, ub, rfl, h6, h7⟩ := h5.unappend
   obtain ⟨u, us', rfl, h8, h9⟩ := h7.uncons
   refine ⟨h1, g, _, h2, h3, h4, h6.append (.cons ?_ h9)⟩
   cases h8 with
   | t hx _ => exact .t (hle _ _ _ _ _ hr.KS hx) .nil
  exact hr.obj i
theorem Weak.cellB {n nx : Nat} {env : List (Nat × V)} {objs : List (Nat × O)} (b : Nat) {eb : Nat} {l r : List V} {x y : T} (hb : look .dead objs b = .box eb (l ++ .t x :: r)) (hle : LLe F.P [x] [y]) :
  Weak F ⟨n, nx, env, objs⟩ ⟨n, nx, env, (b, .box eb (l ++ .t y :: r)) :: objs⟩ := Weak.up fun K => WeakS.cellB (F := F.up K) b hb hle
def KLL (P : Program) (xs ys : List T) : Prop := ∀ (w : World) (K : Nat → Prop) (us : List Value) (φ : Nat → Prop), CR P w K K xs us φ → CR P w K K ys us φ
theorem KLL.r {xs : List T} : KLL P xs xs := fun _ _ _ _ h => h
theorem KLL.app {a a' b b' : List T} (h : KLL P a a') (k : KLL P b b') : KLL P (a ++ b) (a' ++ b') := by
 intro w K us φ hc
 obtain ⟨u1, u2, φ1, φ2, rfl, ha, hb, hd, s1, s2⟩ := CR.split hc
 exact (h _ _ _ _ ha).join (k _ _ _ _ hb) hd s1 s2
theorem KLL.cons {x y : T} {xs ys : List T} (h : KLL P [x] [y]) (t : KLL P xs ys) : KLL P (x :: xs) (y :: ys) := KLL.app h t
theorem KLL.c {x : T} {xs ys : List T} (t : KLL P xs ys) : KLL P (x :: xs) (x :: ys) := KLL.app (a := [x]) (a' := [x]) .r t
inductive KRe (P : Program) : Rws → Rws → Prop
 | nil : KRe P [] []
 | cons {r r' rs rs'} (hl : r.length = r'.length) (h : KLL P r r') (t : KRe P rs rs') : KRe P (r :: rs) (r' :: rs')
theorem KRe.r : ∀ {rows : Rws}, KRe P rows rows
 | [] => .nil
 | _ :: _ => .cons rfl .r KRe.r
theorem KRe.len {a b : Rws} (h : KRe P a b) : a.length = b.length := by induction h <;> simp_all
theorem KRe.flat {a b : Rws} (h : KRe P a b) : KLL P a.flatten b.flatten := by
 induction h with
 | nil => exact .r
 | cons hl h _ ih => simpa using KLL.app h ih
theorem KRe.row {a b : Rws} {n : Nat} (h : KRe P a b) : (∀ r ∈ a, r.length = n) → ∀ r ∈ b, r.length = n := by
 induction h with
 | nil => exact fun h => h
 | cons hl h _ ih =>
  intro ha r hr
  rcases List.mem_cons.1 hr with rfl | hr
  · rw [← hl]; exact ha _ (by simp)
  exact ih (fun r hr => ha r (by simp [hr])) r hr
theorem KLL.im {k : Bool} {a b : Rws} (h : KRe P a b) : KLL P [.im k a] [.im true b] := by
 intro w K us φ c
 cases c with
 | im0 hn hc sz hs vs hA hr h0 =>
  cases h0
  exact .im1 (hn.trans h.len) hc sz (h.row hs) vs hA (h.flat _ _ _ _ hr) .nil
 | im1 hn hc sz hs vs hA hr h0 =>
  cases h0
  exact .im1 (hn.trans h.len) hc sz (h.row hs) vs hA (h.flat _ _ _ _ hr) .nil
theorem LLe.kk {a b : Rws} (h : KRe P a b) : LLe P [.im true a] [.im true b] := by
 intro w K S us φ _ c
 cases c with
 | im1 hn hc sz hs vs hA hr h0 =>
  cases h0
  exact .im1 (hn.trans h.len) hc sz (h.row hs) vs hA (h.flat _ _ _ _ hr) .nil
theorem LLe.kk_eq {a b c : Rws} (e : a = c) (h : KRe P c b) : LLe P [.im true a] [.im true b] := e ▸ LLe.kk h
end Go.Proofs.YtcpekllcbimpmaaGreatDoor.L