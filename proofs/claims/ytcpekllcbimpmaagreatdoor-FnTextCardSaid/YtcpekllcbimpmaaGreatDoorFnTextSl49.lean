/- strings.Join's contract, out of the shelf's. -/
import Derived.Test.YtcpekllcbimpmaaGreatDoorFnTextSl48
import Derived.Below
import Derived.Lib.Join
import Derived.Shelf.Strings.OnBuilder
namespace Go.Proofs.YtcpekllcbimpmaaGreatDoor.L
set_option linter.unusedVariables false
set_option linter.unusedSimpArgs false
open Go Go.RowKit
variable {P : Program}
def joinO (xs : List ByteArray) (sep : ByteArray) : Option ByteArray :=
 if xs.length ≤ 140737488355328 ∧ (Lib.join (xs.map (·.data.toList)) sep.data.toList).length ≤ 140737488355328 then some ⟨(Lib.join (xs.map (·.data.toList)) sep.data.toList).toArray⟩ else none
theorem qRQ {w : World} {K S φ : Nat → Prop} : ∀ {l : List ByteArray} {vs : List Value}, CR P w K S (l.map fun x => T.s (.string x)) vs φ → vs = l.map Value.string
 | [], vs, h => by cases h; rfl
 | x :: l, vs, h => by
  rw [List.map_cons] at h
  cases h with
  | s _ h => rw [qRQ h]; rfl
theorem qtL {E : ByteArray → List T} (hE : ∀ x, E x = [.s (.string x)]) : ∀ l : List ByteArray, (rowsOf E l).flatten = l.map fun x => T.s (.string x)
 | [] => rfl
 | x :: l => by
  show (E x :: rowsOf E l).flatten = _
  rw [List.flatten_cons, qtL hE l, hE]; rfl
theorem qwG {w w' : World} {φ : Nat → Prop} (h : Below w.heap.size w w') : Kept w w' φ := ⟨h.os, h.tape, h.output, h.size, fun b hb _ => h.block b hb⟩
theorem AC.of_join {f : FuncId} {E : ByteArray → List T} (hE : ∀ x, E x = [.s (.string x)]) (hx : ∃ fn, P.funcs[f]? = some fn ∧ (fn.name == "runtime.NumGoroutine") = false ∧ fn.body.isNone = false)
  (h0 : ∀ (a : Option Addr) (c : Nat) (sep : ByteArray) (w : World), Calls P f #[.slice a 0 c, .string sep] w fun e w' => e = .returned (.string ⟨#[]⟩) ∧ w' = w)
  (hc : ∀ (bk o c : Nat) (xs : List ByteArray) (sep : ByteArray) (w : World), (∀ (j : Nat) x, xs[j]? = some x → w.cell? ⟨bk, o + j, none⟩ = some (.string x)) → bk < w.heap.size → xs.length ≤ 140737488355328 → xs.length ≤ c →
   (Lib.join (xs.map (·.data.toList)) sep.data.toList).length ≤ 140737488355328 → Calls P f #[.slice (some ⟨bk, o, none⟩) xs.length c, .string sep] w fun e w' => e = .returned (.string ⟨(Lib.join (xs.map (·.data.toList)) sep.data.toList).toArray⟩) ∧ Below w.heap.size w w')
  {a0 : List ByteArray} {a1 r : ByteArray} (h : joinO a0 a1 = some r) : AC P f [.v (.im false (rowsOf E a0)), .v (.s (.string a1))] [.v .jk, .v .jk] [.v (.s (.string r))] := by
 unfold joinO at h
 split at h
 ·
  rename_i hb
  cases h
  refine AC.of0 hx fun w K S φ vs us hKS hS hφ htb has hcr => ?_
  cases has with
  | v has =>
  cases has with
  | v has =>
  cases has
  simp only [acells, A.cells, List.singleton_append, List.append_nil] at hcr
  cases hcr with
  | @im0 _ _ rows ad n c ts us hn hcap sz hs vs hA hr h =>
  cases h with
  | s h1 h =>
  cases h
  rw [qtL hE] at hr
  have hvs := qRQ hr
  subst hvs
  rw [rowsOf_len] at hn
  subst hn
  have key : Calls P f #[.slice ad a0.length c, .string a1] w fun e w' => e = .returned (.string ⟨(Lib.join (a0.map (·.data.toList)) a1.data.toList).toArray⟩) ∧ Below w.heap.size w w' := by
   cases hl : a0 with
   | nil => exact (h0 ad c a1 w).mono fun e w' ⟨he, hw⟩ => ⟨he, hw ▸ Below.refl _ _⟩
   | cons x l =>
    rw [← hl]
    obtain ⟨b, o, rfl, hSb, hcell⟩ := hA (by rw [hl]; exact Nat.succ_pos _)
    exact hc b o c a0 a1 w (fun j x hx => hcell j _ (by rw [List.getElem?_map, hx]; rfl)) (hS b hSb) hb.1 hcap hb.2
  refine key.mono ?_
  rintro e w' ⟨rfl, hw⟩
  refine ⟨[.string ⟨(Lib.join (a0.map (·.data.toList)) a1.data.toList).toArray⟩], [.string ⟨(Lib.join (a0.map (·.data.toList)) a1.data.toList).toArray⟩], no, rfl, .v .nil, ?_, fun b hb => hb.elim, qwG hw⟩
  simp only [acells, A.cells, List.append_nil, List.cons_append, List.nil_append]
  exact .jk rfl (.jk rfl (.s rfl .nil))
 · cases h
theorem ql {L : Lf} {tab : List (Nat × Ty)} {ops : List Oper} {sups : List (Nat × Sup)} {i : Nat} {σ : St} : collect P L tab ops sups i [] σ = some [] := by rw [collect]
theorem qA {L : Lf} {tab : List (Nat × Ty)} {ops r : List Oper} {sups : List (Nat × Sup)} {i : Nat} {o : Oper} {σ σ' : St} {ps : List Prop} {v : V} {os : List (Nat × O)} {l : List Ent} (h : stepR P L tab σ (σ.nx + i) ops o (supOf sups i) = some (ps, v, os)) (hs : σ.upd o.dst v os = σ')
  (h2 : collect P L tab ops sups (i + 1) r σ' = some l) : collect P L tab ops sups i (o :: r) σ = some (⟨o.dst, ps, v, os⟩ :: l) := by
 rw [collect, h]
 dsimp only
 rw [hs, h2]
def addO (x y : ByteArray) : Option ByteArray := if (x.size + y.size : Int) ≤ 9223372036854775807 then some (x ++ y) else none
theorem qyB {x y : Operand} {t t2 : TypeId} {a b r : ByteArray} (h : addO a b = some r) : HandOk P (.binOp .add t x y t2) [.t (.s (.string a)), .t (.s (.string b))] [] (.t (.s (.string r))) [] := by
 unfold addO at h
 split at h
 ·
  rename_i hc
  cases h
  intro F σ c w S G φ hP hr hv _ _
  refine ⟨.string (a ++ b), w, G, φ, fun o hop => ?_, by simpa using hr, VR.s rfl⟩
  simp [Op.operands] at hv
  obtain ⟨u1, us1, e1, v1, r1⟩ := hv.uncons
  obtain ⟨u2, us2, e2, v2, r2⟩ := r1.uncons
  cases r2
  subst e2
  simp only [List.cons.injEq, and_true] at e1
  have w1 := v1.s_inv.1
  have w2 := v2.s_inv.1
  have hg := qWD (P := F.P) (w := w) .add t x y (.string a) (.string b) (by simp)
  have hb := qYJ (P := F.P) (w := w) (o := .add) (x := .string a) (y := .string b) (v := .string (Ls.sa a b)) (ps := [Ls.sm a b]) t rfl ⟨hc, trivial⟩ (by simp) (by simp)
  obtain ⟨dst, op, type, pos, after, guard⟩ := o
  simp only at hop
  subst hop
  simp [execOp, e1.1, e1.2, w1, w2, hg, hb]
  rfl
 cases h
theorem qzS {α : Type} {f : α → List T} {lit l : List α} {i : Int} {x : α} (hl : some lit = some l) (h : getO l i = some x) : Ls.lt i (Ls.ln (rowsOf f lit)) := by
 cases hl; exact qqB h
theorem qOU {α : Type} {f : α → List T} {lit l : List α} {i : Int} {x : α} (hl : some lit = some l) (h : getO l i = some x) : Ls.ge (rowsOf f lit) i = f x := by
 cases hl; exact qdC h
theorem qrJ {tab : List (Nat × Ty)} (htab : TabOk P tab) {src dst : Nat} {ts te td : Ty} (h1 : getTy tab src = some ts) (h2 : ts.isS = true) (h3 : getTy tab ts.elem = some te) (h4 : te.ik = some .u8) (h5 : getTy tab dst = some td) (h6 : td.isT = true) {x : Operand} {id ver e : Nat} {ns : List Int} {rows : Rws} {s : ByteArray} (hle : RLe P rows (u8rows ns)) (hs : some (bsO ns) = some s) :
  HandOk P (.convert src dst x) [.rf id] [(id, .row ver e 1 rows)] (.t (.s (.string s))) [] := by
 cases hs
 intro F σ a w S G φ hP hr hv ho _
 subst hP
 have ho := ho _ (List.mem_singleton.2 rfl)
 obtain ⟨hdom, hsz, hGs, us, hkk, hrs, hown, ψ, hψb, hψ, hcr⟩ := hr.row ho
 have hu8 : F.P.underlying ts.elem = some (.int .u8) := by
  obtain ⟨d, hd, _, hx⟩ := (htab _ _ h3).desc
  cases d <;> simp_all
 have hsrc := (htab _ _ h1).isS h2
 have hdst := (htab _ _ h5).isT h6
 simp [Op.operands] at hv
 obtain ⟨u, us1, e1, v1, r1⟩ := hv.uncons
 cases r1
 simp only [List.cons.injEq, and_true] at e1
 have hcr := hle.flat _ _ _ _ _ (fun _ h => h) hcr
 rw [hle.len] at hown
 rw [qeN] at hcr
 have hus := hcr.u8
 have hlen : (u8rows ns).length = ns.length := by simp [u8rows]
 have hval : a.eval x = G.β id := by
  rw [e1]; cases v1 with | rf _ hu _ _ => exact hu
 have hrun : (convert src dst (a.eval x)).run F.P w = .ok (.string (bsO ns)) w := by
  rw [hval]
  rcases hown.2 with ⟨hb, hn⟩ | ⟨g, cap, cur, hb, _, hh, hle, hcap, hcs, htk⟩
  ·
   rw [hb, run_convert_bytes_string w src dst ts.elem none 0 0 hsrc hu8 hdst]
   have : ns = [] := by rw [hlen] at hn; exact List.length_eq_zero_iff.1 hn
   subst this
   simp [Conv.bytesToString]
   rfl
  ·
   rw [hb, run_convert_bytes_string w src dst ts.elem _ _ _ hsrc hu8 hdst]
   rw [run_bytesToString (ns := ns) w ⟨g, 0, none⟩ _ _ (by
    rw [hlen]
    have := run_loadCells_list (P := F.P) (w := w) ⟨g, 0, none⟩ us (fun j v hj => by
     have := qqD hown (g := g) (by rw [hb]; rfl) hj
     by_cases h0 : j = 0
     · subst h0; simpa [Addr.add] using this
     simpa [Addr.add, h0] using this)
    rw [hus] at this
    simpa using this)]
   rw [qLG]
   simp [ByteArray.empty, ByteArray.emptyWithCapacity, bsO]
   try rfl
 refine ⟨_, w, G, φ, fun o hop => ?_, by simpa using hr, VR.s rfl⟩
 obtain ⟨dst', op, type, pos, after, guard⟩ := o
 simp only at hop
 subst hop
 simp [execOp, hrun]
end Go.Proofs.YtcpekllcbimpmaaGreatDoor.L