/- The contracts of the program's functions. -/
import Derived.Test.YtbhleignjmcdiaaGreatDoorProg
import Derived.Test.YtbhleignjmcdiaaGreatDoorFnUntouchedU
import Derived.KernelRfl
namespace Go.Proofs.YtbhleignjmcdiaaGreatDoor.L
open Go Go.Proofs
theorem Tt : True := True.intro
set_option linter.unusedVariables false
set_option linter.unusedSimpArgs false
set_option maxRecDepth 8000
def u8_c (x : Int) : List T := [.s (.int .u8 x)]
def Int_c (x : Int) : List T := [.s (.int .i64 x)]
theorem qic : ∀ x, (Int_c x).length = 1 := fun _ => rfl
theorem qhU : ∀ x, (Int_c x).length = 1 ∧ ∀ c ∈ Int_c x, ∃ v, c = T.s v := fun x => ⟨rfl, by simp [Int_c]⟩
theorem qKD : ∀ x, fzL (Int_c x) = Int_c x := fun _ => rfl
def Row_i (x : Row) : List T := [.s (.int .i64 x.Id), .im false (rowsOf Int_c x.Cells)]
theorem qjc : ∀ x, (Row_i x).length = 2 := fun _ => rfl
def qZB (x : (List Row)) : List T := [.im false (rowsOf Row_i x)]
def qGB (x : Cond) : List T := [.s (.int .i64 x.Col), .s (.int .i64 x.Op), .s (.int .i64 x.V)]
theorem qua : ∀ x, fzL (qGB x) = qGB x := fun _ => rfl
def Mut_i (x : Mut) : List T := [.s (.int .i64 x.Kind), .s (.int .i64 x.Table), .s (.int .i64 x.Row.Id), .im false (rowsOf Int_c x.Row.Cells)]
def Row_o (x : Row) : List T := [.s (.int .i64 x.Id), .ow 3 (rowsOf Int_c x.Cells)]
theorem qUR : ∀ x, (Row_o x).length = 2 := fun _ => rfl
theorem qzI : ∀ x, fzL (Row_o x) = Row_i x := by
 intro x
 simp only [Row_o, Row_i, fzL, T.fz, qaL qKD]
def qcB (x : (List Row)) : List T := [.ow 56 (rowsOf Row_o x)]
theorem qAN : ∀ x, (qcB x).length = 1 := fun _ => rfl
theorem qBL : ∀ x, fzL (qcB x) = qZB x := by
 intro x
 simp only [qcB, qZB, fzL, T.fz, qaL qzI]
def qaE (x : Change) : List T := [.s (.int .i64 x.Table), .s (.bool x.Had), .s (.bool x.Has), .s (.int .i64 x.Old.Id), .im false (rowsOf Int_c x.Old.Cells), .s (.int .i64 x.New.Id), .im false (rowsOf Int_c x.New.Cells)]
def qjD (x : Change) : List T := [.s (.int .i64 x.Table), .s (.bool x.Had), .s (.bool x.Has), .s (.int .i64 x.Old.Id), .ow 3 (rowsOf Int_c x.Old.Cells), .s (.int .i64 x.New.Id), .ow 3 (rowsOf Int_c x.New.Cells)]
theorem qlL : ∀ x, fzL (qjD x) = qaE x := by
 intro x
 simp only [qjD, qaE, fzL, T.fz, qaL qKD, qaL qKD]
def qQK (x : Query) : List T := [.s (.int .i64 x.Table), .im false (rowsOf qGB x.Where), .s (.int .i64 x.Order), .s (.bool x.Down), .s (.int .i64 x.First), .im false (rowsOf Int_c x.Show), .s (.bool x.Kids), .s (.int .i64 x.KidTable), .s (.int .i64 x.KidCol)]
def qVR (x : Query) : List T := [.s (.int .i64 x.Table), .im true (rowsOf qGB x.Where), .s (.int .i64 x.Order), .s (.bool x.Down), .s (.int .i64 x.First), .im true (rowsOf Int_c x.Show), .s (.bool x.Kids), .s (.int .i64 x.KidTable), .s (.int .i64 x.KidCol)]
theorem qmY : ∀ x, fzL (qVR x) = qQK x := fun _ => rfl
def Str_c (x : ByteArray) : List T := [.s (.string x)]
theorem qLO : ∀ x, fzL (Str_c x) = Str_c x := fun _ => rfl
mutual
def qLB : Json → List T
 | ⟨x_Kind, x_N, x_S, x_List_, x_Names⟩ => [.s (.int .i64 x_Kind), .s (.int .i64 x_N), .s (.string x_S), .im false (qWR x_List_), .im false (rowsOf Str_c x_Names)]
def qWR : List Json → Rws
 | [] => []
 | x :: l => qLB x :: qWR l
end
theorem qHT : ∀ l, qWR l = rowsOf qLB l
 | [] => rfl
 | x :: l => by rw [qWR, qHT l]; rfl
def qnY (x : Json) : List T := [.s (.int .i64 x.Kind), .s (.int .i64 x.N), .s (.string x.S), .im false (rowsOf qLB x.List_), .im false (rowsOf Str_c x.Names)]
theorem qHH : ∀ x, qLB x = qnY x
 | ⟨x_Kind, x_N, x_S, x_List_, x_Names⟩ => by rw [qLB, qHT]; rfl
theorem qfV : ∀ x, (qLB x).length = 5 := fun x => by rw [qHH]; rfl
mutual
def qIH : Json → List T
 | ⟨x_Kind, x_N, x_S, x_List_, x_Names⟩ => [.s (.int .i64 x_Kind), .s (.int .i64 x_N), .s (.string x_S), .im true (qXR x_List_), .im true (rowsOf Str_c x_Names)]
def qXR : List Json → Rws
 | [] => []
 | x :: l => qIH x :: qXR l
end
theorem qIT : ∀ l, qXR l = rowsOf qIH l
 | [] => rfl
 | x :: l => by rw [qXR, qIT l]; rfl
def qkc (x : Json) : List T := [.s (.int .i64 x.Kind), .s (.int .i64 x.N), .s (.string x.S), .im true (rowsOf qIH x.List_), .im true (rowsOf Str_c x.Names)]
theorem qYR : ∀ x, qIH x = qkc x
 | ⟨x_Kind, x_N, x_S, x_List_, x_Names⟩ => by rw [qIH, qIT]; rfl
theorem qgV : ∀ x, (qIH x).length = 5 := fun x => by rw [qYR]; rfl
mutual
theorem qcW {P : Program} : ∀ x, KLL P (qLB x) (qIH x)
 | ⟨x_Kind, x_N, x_S, x_List_, x_Names⟩ => by
  rw [qHH, qYR]
  exact (KLL.c (KLL.c (KLL.c (KLL.cons (KLL.im (qmL x_List_)) (KLL.cons (KLL.im KRe.r) KLL.r)))))
theorem qmL {P : Program} : ∀ l, KRe P (rowsOf qLB l) (rowsOf qIH l)
 | [] => KRe.nil
 | x :: l => KRe.cons (by rw [qfV, qgV]) (qcW x) (qmL l)
end
mutual
theorem qdW {P : Program} : ∀ x, LLe P (qIH x) (qLB x)
 | ⟨x_Kind, x_N, x_S, x_List_, x_Names⟩ => by
  rw [qHH, qYR]
  exact (LLe.c (LLe.c (LLe.c (LLe.cons (LLe.k (qCL x_List_)) (LLe.cons (LLe.k RLe.r) LLe.nil)))))
theorem qCL {P : Program} : ∀ l, RLe P (rowsOf qIH l) (rowsOf qLB l)
 | [] => RLe.nil
 | x :: l => RLe.cons (by rw [qfV, qgV]) (qdW x) (qCL l)
end
mutual
def qND : Json → List T
 | ⟨x_Kind, x_N, x_S, x_List_, x_Names⟩ => [.s (.int .i64 x_Kind), .s (.int .i64 x_N), .s (.string x_S), .ow 46 (qZR x_List_), .ow 9 (rowsOf Str_c x_Names)]
def qZR : List Json → Rws
 | [] => []
 | x :: l => qND x :: qZR l
end
theorem qJT : ∀ l, qZR l = rowsOf qND l
 | [] => rfl
 | x :: l => by rw [qZR, qJT l]; rfl
def qoY (x : Json) : List T := [.s (.int .i64 x.Kind), .s (.int .i64 x.N), .s (.string x.S), .ow 46 (rowsOf qND x.List_), .ow 9 (rowsOf Str_c x.Names)]
theorem qDL : ∀ x, qND x = qoY x
 | ⟨x_Kind, x_N, x_S, x_List_, x_Names⟩ => by rw [qND, qJT]; rfl
mutual
theorem qaR : ∀ x, fzL (qND x) = qLB x
 | ⟨x_Kind, x_N, x_S, x_List_, x_Names⟩ => by
  rw [qDL, qHH]
  simp only [qoY, qnY, fzL, T.fz, qaL qLO, qMO x_List_]
theorem qMO : ∀ l, fzR (rowsOf qND l) = rowsOf qLB l
 | [] => rfl
 | x :: l => by
  show fzR (qND x :: rowsOf qND l) = qLB x :: rowsOf qLB l
  rw [fzR, qaR x, qMO l]
end
def Mut_o (x : Mut) : List T := [.s (.int .i64 x.Kind), .s (.int .i64 x.Table), .s (.int .i64 x.Row.Id), .ow 3 (rowsOf Int_c x.Row.Cells)]
theorem qlc : ∀ x, fzL (Mut_o x) = Mut_i x := by
 intro x
 simp only [Mut_o, Mut_i, fzL, T.fz, qaL qKD]
theorem qpY {P : Program} (l : List Json) : LLe P [.im true (Ls.fr (rowsOf qND l))] [.im true (rowsOf qIH l)] := LLe.kk_eq (qMO l) (qmL l)
def tab : List (Nat × Ty) := [(3, Ty.mk false 1 8 0 [] [.int .i64 0] (some .i64) false false false false none),
 (4, Ty.mk false 1 1 0 [] [.bool false] (none) true false false false none),
 (5, Ty.mk false 1 1 0 [] [.int .u8 0] (some .u8) false false false false none),
 (9, Ty.mk false 1 16 0 [] [.string ByteArray.empty] (none) false false false true none),
 (22, Ty.mk false 1 24 5 [] [.slice none 0 0] (none) false false true false none),
 (24, Ty.mk false 1 24 3 [] [.slice none 0 0] (none) false false true false none),
 (26, Ty.mk true 1 24 0 [(0, 1)] [.slice none 0 0] (none) false false false false none),
 (27, Ty.mk false 1 24 50 [] [.slice none 0 0] (none) false false true false none),
 (29, Ty.mk true 3 56 0 [(0, 1), (1, 1), (2, 1)] [.slice none 0 0, .int .i64 0, .slice none 0 0] (none) false false false false none),
 (30, Ty.mk false 1 24 98 [] [.slice none 0 0] (none) false false true false none),
 (32, Ty.mk true 9 104 0 [(0, 1), (1, 1), (2, 1), (3, 1), (4, 1), (5, 1), (6, 1), (7, 1), (8, 1)] [.int .i64 0, .slice none 0 0, .int .i64 0, .bool false, .int .i64 0, .slice none 0 0, .bool false, .int .i64 0, .int .i64 0] (none) false false false false none),
 (33, Ty.mk false 1 24 79 [] [.slice none 0 0] (none) false false true false none),
 (36, Ty.mk false 1 24 82 [] [.slice none 0 0] (none) false false true false none),
 (41, Ty.mk false 1 24 32 [] [.slice none 0 0] (none) false false true false none),
 (43, Ty.mk false 1 24 46 [] [.slice none 0 0] (none) false false true false none),
 (44, Ty.mk false 1 24 9 [] [.slice none 0 0] (none) false false true false none),
 (46, Ty.mk true 5 80 0 [(0, 1), (1, 1), (2, 1), (3, 1), (4, 1)] [.int .i64 0, .int .i64 0, .string ByteArray.empty, .slice none 0 0, .slice none 0 0] (none) false false false false none),
 (50, Ty.mk false 1 24 56 [] [.slice none 0 0] (none) false false true false none),
 (56, Ty.mk true 2 32 0 [(0, 1), (1, 1)] [.int .i64 0, .slice none 0 0] (none) false false false false none),
 (73, Ty.mk false 1 8 0 [] [.pointer none] (none) false false false false none),
 (79, Ty.mk true 4 48 0 [(0, 1), (1, 1), (2, 2)] [.int .i64 0, .int .i64 0, .int .i64 0, .slice none 0 0] (none) false false false false none),
 (82, Ty.mk true 7 80 0 [(0, 1), (1, 1), (2, 1), (3, 2), (5, 2)] [.int .i64 0, .bool false, .bool false, .int .i64 0, .slice none 0 0, .int .i64 0, .slice none 0 0] (none) false false false false none),
 (98, Ty.mk true 3 24 0 [(0, 1), (1, 1), (2, 1)] [.int .i64 0, .int .i64 0, .int .i64 0] (none) false false false false none),
 (119, Ty.mk true 3 40 0 [(0, 1), (1, 1), (2, 1)] [.slice none 0 0, .int .i64 0, .int .i64 0] (none) false false false false none),
 (152, Ty.mk false 1 8 0 [] [.int .u64 0] (some .u64) false false false false none)]
theorem qqE : TabOk Tryz.prog tab := TabOk.of (l := [(3, false), (4, false), (5, false), (9, false), (22, false), (24, false), (26, false), (27, false), (29, false), (30, false), (32, false), (33, false), (36, false), (41, false), (43, false), (44, false), (46, false), (50, false), (56, false), (73, false), (79, false), (82, false), (98, false), (119, false), (152, false)]) (by kernel_rfl)
theorem mixed : Tryz.prog.follows .mixedOrders = true := by rfl
theorem run3 {f : FuncId} {fn : Func} {c : Code} {args outs res : List A} {σ : St} {ds : List (Option Nat)} (hf : Tryz.prog.funcs[f]? = some fn) (hnm : (fn.name == "runtime.NumGoroutine") = false) (hb : fn.body = some c) (he : entry tab fn.ntmps args = some (σ, ds)) (hds : (idsOf ds).Nodup ∧ ds.length = (acells args).length)
  (h : let ar := Ls.ar; let cm := Ls.cm; let bo := Ls.bo; let sc := Ls.sc; let sa := Ls.sa; let sx := Ls.sx; let ss := Ls.ss; let sl := Ls.sl; let bs := Ls.bs; let sb := Ls.sb; let ln := Ls.ln; let sr := Ls.sr; let ap := Ls.ap; let up := Ls.up; let rp := Ls.rp; let fr := Ls.fr; let ge := Ls.ge; let le := Ls.le; let lt := Ls.lt; let nz := Ls.nz; let mm := Ls.mm; let ma := Ls.ma; let sm := Ls.sm; let fl := Ls.fl; let al := Ls.al; let ci := Ls.ci; (⟨ar, cm, bo, sc, sa, sx, ss, sl, bs, sb, ln, sr, ap, up, rp, fr, ge, le, lt, nz, mm, ma, sm, fl, al, ci⟩ : Lf) = Ls → ∀ F : Fr, F.P = Tryz.prog → (∀ i v, F.anc i = some v → i ∈ idsOf ds) → TabOk F.P tab → F.P.follows .mixedOrders = true → (∀ {f a o r}, AC Tryz.prog f a o r → AC F.P f a o r) → Run F σ c (endQ (EndL Tryz.prog tab fn.results.toList ds outs res))) : AC Tryz.prog f args outs res :=
 AC.of_run2 qqE hf hnm hb he hds fun F hP hA => h rfl F hP hA (hP ▸ qqE) (hP ▸ mixed) fun h => hP ▸ h
theorem qSB {a0 : Int} {a1 : Int} {a2 : Int} {r : Bool} (h : qdB.f a0 a1 a2 = some r) : AC Tryz.prog 43 [.v (.s (.int .i64 a0)), .v (.s (.int .i64 a1)), .v (.s (.int .i64 a2))] [.v (.jk), .v (.jk), .v (.jk)] [.v (.s (.bool r))] := by
 unfold qdB.f at h
 show AC Tryz.prog 43 [.v (.s (.int .i64 a0)), .v (.s (.int .i64 a1)), .v (.s (.int .i64 a2))] _ _
 refine run3 Tryz.func43 (by rfl) (by rfl) (by cbv) ⟨by decide, rfl⟩ ?_
 intro ar cm bo sc sa sx ss sl bs sb ln sr ap up rp fr ge le lt nz mm ma sm fl al ci hL F hP hA hT hM hC
 refine Run.seq ?_
 refine Run.region hL hT [] (by cbv) hq0 ?_
 refine Run.seq ?_
 refine Run.region hL hT [] (by cbv) ?_ ?_
 · exact (hq Tt (hq (fun _ => hq0) (hq (fun _ => hq0) (hq (fun g3 => (hq g3 (hq g3 (hq Tt hq0)))) (hq (fun q4 => (hq q4 hq0)) (hq (fun _ => hq0) hq0))))))
 refine Run.ret ?_
 cases h
 refine ⟨_, _, by cbv, ?_, ?_⟩
 · exact LLe.r
 exact (ALe.v LLe.r ALe.nil)
theorem qbR {qRK : Int} {qNO : Int} {a0v_V : Int} {qLC : Int} {qk : List Int} {r : Bool} (h : qiH.f (Cond.mk qRK qNO a0v_V) (Row.mk qLC qk) = some r) : AC Tryz.prog 66 [.ag [.s (.int .i64 qRK), .s (.int .i64 qNO), .s (.int .i64 a0v_V)], .ag [.s (.int .i64 qLC), .im false (rowsOf Int_c qk)]] [.ag [.jk, .jk, .jk], .ag [.jk, .jk]] [.v (.s (.bool r))] := by
 unfold qiH.f at h
 let qB := rowsOf Int_c
 let qQ := @lenI Int
 show AC Tryz.prog 66 [.ag [.s (.int .i64 qRK), .s (.int .i64 qNO), .s (.int .i64 a0v_V)], .ag [.s (.int .i64 qLC), .im false (qB qk)]] _ _
 refine run3 Tryz.func66 (by rfl) (by rfl) (by cbv) ⟨by decide, rfl⟩ ?_
 intro ar cm bo sc sa sx ss sl bs sb ln sr ap up rp fr ge le lt nz mm ma sm fl al ci hL F hP hA hT hM hC
 refine Run.seq ?_
 refine Run.region hL hT [] (by cbv) hq0 ?_
 refine Run.seq ?_
 refine Run.seq ?_
 obtain ⟨r1, h_r1, h⟩ := bnd h
 refine Run.region hL hT [(6, .call [false, false, false] [.v (.jk), .v (.jk), .v (.jk)] [.v (.s (.bool r1))])] (by cbv) ?_ ?_
 · exact (hq Tt (hq Tt (hq Tt (hq (by rw [show ln (qB qk) = qQ qk from ln_eq Int_c _]; exact (hC (qSB h_r1))) hq0))))
 rw [show ln (qB qk) = qQ qk from ln_eq Int_c _]
 refine Run.cond (by cbv) (hq0) (fun c2 => ?_) (fun c2 => ?_)
 ·
  have h := if_t c2 h
  refine Run.seq ?_
  refine Run.region hL hT [] (by cbv) hq0 ?_
  refine Run.ret ?_
  cases h
  refine ⟨_, _, by cbv, ?_, ?_⟩
  · exact LLe.r
  exact (ALe.v LLe.r ALe.nil)
 have h := if_f c2 h
 refine Run.skip ?_
 refine Run.seq ?_
 obtain ⟨x3, h_x3, h⟩ := bnd h
 refine Run.region hL hT [(4, .el [.s (.int .i64 x3)])] (by cbv) ?_ ?_
 · exact (hq Tt (hq Tt (hq (qS h_x3) (hq (ql (f := Int_c) h_x3) (hq (qt (f := Int_c) h_x3) hq0)))))
 refine Run.seq ?_
 refine Run.seq ?_
 refine Run.region hL hT [] (by cbv) ?_ ?_
 · exact (hq Tt hq0)
 refine Run.block ?_
 refine Run.seq ?_
 refine Run.region hL hT [] (by cbv) ?_ ?_
 · exact (hq Tt hq0)
 refine Run.cond (by cbv) (hq0) (fun c4 => ?_) (fun c4 => ?_)
 ·
  have h := if_t c4 h
  refine Run.seq ?_
  refine Run.region hL hT [] (by cbv) ?_ ?_
  · exact (hq Tt (hq Tt hq0))
  refine Run.ret ?_
  cases h
  refine ⟨_, _, by cbv, ?_, ?_⟩
  · exact LLe.r
  exact (ALe.v LLe.r ALe.nil)
 have h := if_f c4 h
 refine Run.seq ?_
 refine Run.region hL hT [] (by cbv) ?_ ?_
 · exact (hq Tt hq0)
 refine Run.cond (by cbv) (hq0) (fun c5 => ?_) (fun c5 => ?_)
 ·
  have h := if_t c5 h
  refine Run.seq ?_
  refine Run.region hL hT [] (by cbv) ?_ ?_
  · exact (hq Tt (hq Tt hq0))
  refine Run.ret ?_
  cases h
  refine ⟨_, _, by cbv, ?_, ?_⟩
  · exact LLe.r
  exact (ALe.v LLe.r ALe.nil)
 have h := if_f c5 h
 refine Run.seq ?_
 refine Run.region hL hT [] (by cbv) ?_ ?_
 · exact (hq Tt hq0)
 refine Run.cond (by cbv) (hq0) (fun c6 => ?_) (fun c6 => ?_)
 ·
  have h := if_t c6 h
  refine Run.seq ?_
  refine Run.region hL hT [] (by cbv) ?_ ?_
  · exact (hq Tt (hq Tt hq0))
  refine Run.ret ?_
  cases h
  refine ⟨_, _, by cbv, ?_, ?_⟩
  · exact LLe.r
  exact (ALe.v LLe.r ALe.nil)
 have h := if_f c6 h
 refine Run.skip ?_
 refine Run.seq ?_
 refine Run.region hL hT [] (by cbv) ?_ ?_
 · exact (hq Tt (hq Tt (hq (fun _ => hq0) (hq (fun _ => hq0) (hq (fun g9 => (hq g9 (hq Tt hq0))) (hq (fun g10 => (hq g10 (hq g10 (hq Tt hq0)))) (hq (fun q11 => (hq q11 hq0)) (hq (fun _ => hq0) hq0))))))))
 refine Run.ret ?_
 cases h
 refine ⟨_, _, by cbv, ?_, ?_⟩
 · exact LLe.r
 exact (ALe.v LLe.r ALe.nil)
theorem qnG {qg : Int} {qd : List Cond} {qh : Int} {qw : Bool} {qi : Int} {qp : List Int} {qx : Bool} {qM : Int} {qZ : Int} {qLC : Int} {qk : List Int} {r : Bool} (h : qUC.f (Query.mk qg qd qh qw qi qp qx qM qZ) (Row.mk qLC qk) = some r) : AC Tryz.prog 22 [.ag [.s (.int .i64 qg), .im false (rowsOf qGB qd), .s (.int .i64 qh), .s (.bool qw), .s (.int .i64 qi), .im false (rowsOf Int_c qp), .s (.bool qx), .s (.int .i64 qM), .s (.int .i64 qZ)], .ag [.s (.int .i64 qLC), .im false (rowsOf Int_c qk)]] [.ag [.jk, .jk, .jk, .jk, .jk, .jk, .jk, .jk, .jk], .ag [.jk, .jk]] [.v (.s (.bool r))] := by
 unfold qUC.f at h
 let qO := rowsOf qGB
 let qB := rowsOf Int_c
 let qGD := @lenI Cond
 show AC Tryz.prog 22 [.ag [.s (.int .i64 qg), .im false (qO qd), .s (.int .i64 qh), .s (.bool qw), .s (.int .i64 qi), .im false (qB qp), .s (.bool qx), .s (.int .i64 qM), .s (.int .i64 qZ)], .ag [.s (.int .i64 qLC), .im false (qB qk)]] _ _
 refine run3 Tryz.func22 (by rfl) (by rfl) (by cbv) ⟨by decide, rfl⟩ ?_
 intro ar cm bo sc sa sx ss sl bs sb ln sr ap up rp fr ge le lt nz mm ma sm fl al ci hL F hP hA hT hM hC
 refine Run.seq ?_
 refine Run.region hL hT [] (by cbv) hq0 ?_
 refine Run.seq ?_
 refine Run.seq ?_
 refine Run.region hL hT [] (by cbv) ?_ ?_
 · exact (hq Tt hq0)
 rw [show ln (qO qd) = qGD qd from ln_eq qGB _]
 refine Run.block ?_
 refine Run.loop1 (fun (z6 : Int) => ⟨19, 100000, [(3, .pt 1 0 0), (8, .t (.im false (qO qd))), (9, .t (.s (.int .i64 (qGD qd)))), (10, .t (.s (.int .i64 z6)))], [(1, .box 56 [.t (.s (.int .i64 qLC)), .t (.im false (qB qk))])]⟩) (x0 := 0) h (Weak.of _ [(1, 1)] hA (by cbv) ?_) (fun _ => rfl) ?_
 · repeat (first | exact hq0 | refine hq (by first | exact Tt | rfl) ?_)
 intro k z6 h
 rw [qUC.l0] at h
 refine Run.seq ?_
 refine Run.region hL hT [] (by cbv) ?_ ?_
 · exact (hq Tt hq0)
 refine Run.seq ?_
 refine Run.cond (by cbv) (hq0) (fun c7 => ?_) (fun c7 => ?_)
 ·
  have h := if_t c7 h
  refine Run.skip ?_
  refine Run.seq ?_
  refine Run.block ?_
  refine Run.seq ?_
  obtain ⟨⟨qmc, qdd, x8v_V⟩, h_x8, h⟩ := bnd h
  refine Run.region hL hT [(0, .el [.s (.int .i64 qmc), .s (.int .i64 qdd), .s (.int .i64 x8v_V)])] (by cbv) ?_ ?_
  · exact (hq (qS h_x8) (hq (ql (f := qGB) h_x8) (hq (qt (f := qGB) h_x8) (hq Tt hq0))))
  refine Run.seq ?_
  obtain ⟨r9, h_r9, h⟩ := bnd h
  refine Run.region hL hT [(2, .call [false, false] [.ag [.jk, .jk, .jk], .ag [.jk, .jk]] [.v (.s (.bool r9))])] (by cbv) ?_ ?_
  · exact (hq Tt (hq Tt (hq (hC (qbR h_r9)) hq0)))
  refine Run.cond (by cbv) (hq0) (fun c10 => ?_) (fun c10 => ?_)
  ·
   have h := if_t c10 h
   refine Run.seq ?_
   refine Run.region hL hT [] (by cbv) hq0 ?_
   refine Run.ret ?_
   cases h
   refine ⟨_, _, by cbv, ?_, ?_⟩
   · exact LLe.r
   exact (ALe.v LLe.r ALe.nil)
  have h := if_f c10 h
  refine Run.skip ?_
  refine Run.region hL hT [] (by cbv) ?_ ?_
  · exact (hq Tt hq0)
  refine ⟨(ar .add .i64 z6 1), h, Weak.of _ [(1, 1)] hA (by cbv) ?_⟩
  repeat (first | exact hq0 | refine hq (by first | exact Tt | rfl) ?_)
 have h := if_f c7 h
 refine Run.exit ?_
 refine Run.seq ?_
 refine Run.region hL hT [] (by cbv) hq0 ?_
 refine Run.ret ?_
 cases h
 refine ⟨_, _, by cbv, ?_, ?_⟩
 · exact LLe.r
 exact (ALe.v LLe.r ALe.nil)
theorem qvE {qqD : Int} {qQB : List Int} {a1 : Int} {r : Int} (h : qAE.f (Row.mk qqD qQB) a1 = some r) : AC Tryz.prog 67 [.ag [.s (.int .i64 qqD), .im false (rowsOf Int_c qQB)], .v (.s (.int .i64 a1))] [.ag [.jk, .jk], .v (.jk)] [.v (.s (.int .i64 r))] := by
 unfold qAE.f at h
 let qB := rowsOf Int_c
 let qQ := @lenI Int
 show AC Tryz.prog 67 [.ag [.s (.int .i64 qqD), .im false (qB qQB)], .v (.s (.int .i64 a1))] _ _
 refine run3 Tryz.func67 (by rfl) (by rfl) (by cbv) ⟨by decide, rfl⟩ ?_
 intro ar cm bo sc sa sx ss sl bs sb ln sr ap up rp fr ge le lt nz mm ma sm fl al ci hL F hP hA hT hM hC
 refine Run.seq ?_
 refine Run.region hL hT [] (by cbv) hq0 ?_
 refine Run.seq ?_
 refine Run.seq ?_
 obtain ⟨r1, h_r1, h⟩ := bnd h
 refine Run.region hL hT [(5, .call [false, false, false] [.v (.jk), .v (.jk), .v (.jk)] [.v (.s (.bool r1))])] (by cbv) ?_ ?_
 · exact (hq Tt (hq Tt (hq (by rw [show ln (qB qQB) = qQ qQB from ln_eq Int_c _]; exact (hC (qSB h_r1))) hq0)))
 rw [show ln (qB qQB) = qQ qQB from ln_eq Int_c _]
 refine Run.cond (by cbv) (hq0) (fun c2 => ?_) (fun c2 => ?_)
 ·
  have h := if_t c2 h
  refine Run.seq ?_
  refine Run.region hL hT [] (by cbv) hq0 ?_
  refine Run.ret ?_
  cases h
  refine ⟨_, _, by cbv, ?_, ?_⟩
  · exact LLe.r
  exact (ALe.v LLe.r ALe.nil)
 have h := if_f c2 h
 refine Run.skip ?_
 refine Run.seq ?_
 obtain ⟨x3, h_x3, h⟩ := bnd h
 refine Run.region hL hT [(3, .el [.s (.int .i64 x3)])] (by cbv) ?_ ?_
 · exact (hq Tt (hq (qS h_x3) (hq (ql (f := Int_c) h_x3) (hq (qt (f := Int_c) h_x3) hq0))))
 refine Run.ret ?_
 cases h
 refine ⟨_, _, by cbv, ?_, ?_⟩
 · exact LLe.r
 exact (ALe.v LLe.r ALe.nil)
theorem qOO {qg : Int} {qd : List Cond} {qh : Int} {qw : Bool} {qi : Int} {qp : List Int} {qx : Bool} {qM : Int} {qZ : Int} {qN : Int} {qoG : Bool} {qpG : Bool} {qUD : Int} {qWC : List Int} {qVD : Int} {qXC : List Int} {r : Bool} (h : qrF.f (Query.mk qg qd qh qw qi qp qx qM qZ) (Change.mk qN qoG qpG (Row.mk qUD qWC) (Row.mk qVD qXC)) = some r) : AC Tryz.prog 49 [.ag [.s (.int .i64 qg), .im false (rowsOf qGB qd), .s (.int .i64 qh), .s (.bool qw), .s (.int .i64 qi), .im false (rowsOf Int_c qp), .s (.bool qx), .s (.int .i64 qM), .s (.int .i64 qZ)], .ag [.s (.int .i64 qN), .s (.bool qoG), .s (.bool qpG), .s (.int .i64 qUD), .im false (rowsOf Int_c qWC), .s (.int .i64 qVD), .im false (rowsOf Int_c qXC)]] [.ag [.jk, .jk, .jk, .jk, .jk, .jk, .jk, .jk, .jk], .ag [.jk, .jk, .jk, .jk, .jk, .jk, .jk]] [.v (.s (.bool r))] := by
 unfold qrF.f at h
 let qO := rowsOf qGB
 let qB := rowsOf Int_c
 show AC Tryz.prog 49 [.ag [.s (.int .i64 qg), .im false (qO qd), .s (.int .i64 qh), .s (.bool qw), .s (.int .i64 qi), .im false (qB qp), .s (.bool qx), .s (.int .i64 qM), .s (.int .i64 qZ)], .ag [.s (.int .i64 qN), .s (.bool qoG), .s (.bool qpG), .s (.int .i64 qUD), .im false (qB qWC), .s (.int .i64 qVD), .im false (qB qXC)]] _ _
 refine run3 Tryz.func49 (by rfl) (by rfl) (by cbv) ⟨by decide, rfl⟩ ?_
 intro ar cm bo sc sa sx ss sl bs sb ln sr ap up rp fr ge le lt nz mm ma sm fl al ci hL F hP hA hT hM hC
 refine Run.seq ?_
 refine Run.region hL hT [] (by cbv) hq0 ?_
 refine Run.seq ?_
 refine Run.seq ?_
 obtain ⟨r1, h_r1, h⟩ := bnd h
 obtain ⟨r2, h_r2, h⟩ := bnd h
 refine Run.region hL hT [(12, .call [false, false] [.ag [.jk, .jk, .jk, .jk, .jk, .jk, .jk, .jk, .jk], .ag [.jk, .jk]] [.v (.s (.bool r1))]), (21, .call [false, false] [.ag [.jk, .jk, .jk, .jk, .jk, .jk, .jk, .jk, .jk], .ag [.jk, .jk]] [.v (.s (.bool r2))])] (by cbv) ?_ ?_
 · exact (hq Tt (hq Tt (hq Tt (hq (fun _ => hq0) (hq (fun g4 => (hq g4 (hq Tt hq0))) (hq (fun g5 => (hq g5 hq0)) (hq (fun g6 => (hq Tt hq0)) (hq (fun _ => hq0) (hq (fun g8 => (hq g8 (hq Tt hq0))) (hq (fun g9 => (hq g9 (hq g9 (hq (hC (qnG (gd_t h_r1 g9))) hq0)))) (hq (fun g10 => (hq g10 (hq (fun q11 => (hq (bo_a g10 q11) hq0)) (hq (fun _ => hq0) hq0)))) (hq (fun g13 => (hq g13 hq0)) (hq (fun _ => hq0) (hq (fun g15 => (hq g15 (hq Tt hq0))) (hq (fun g16 => (hq g16 hq0)) (hq (fun g17 => (hq Tt hq0)) (hq (fun _ => hq0) (hq (fun g19 => (hq g19 (hq Tt hq0))) (hq (fun g20 => (hq g20 (hq g20 (hq (hC (qnG (gd_t h_r2 g20))) hq0)))) (hq (fun g21 => (hq g21 (hq (fun q22 => (hq (bo_a g21 q22) hq0)) (hq (fun _ => hq0) hq0)))) (hq (fun g24 => (hq g24 (hq (fun _ => hq0) (hq (fun q26 => (hq (bo_a g24 (bo_m q26)) hq0)) hq0)))) (hq (fun q27 => (hq q27 hq0)) (hq (fun _ => hq0) hq0)))))))))))))))))))))))
 refine Run.cond (by cbv) (hq0) (fun c29 => ?_) (fun c29 => ?_)
 ·
  have h := if_t c29 h
  refine Run.seq ?_
  refine Run.region hL hT [] (by cbv) hq0 ?_
  refine Run.ret ?_
  cases h
  refine ⟨_, _, by cbv, ?_, ?_⟩
  · exact LLe.r
  exact (ALe.v LLe.r ALe.nil)
 have h := if_f c29 h
 refine Run.skip ?_
 refine Run.seq ?_
 refine Run.seq ?_
 refine Run.region hL hT [] (by cbv) ?_ ?_
 · exact (hq Tt (hq (fun _ => hq0) (hq (fun g31 => (hq g31 (hq Tt hq0))) (hq (fun _ => hq0) (hq (fun g33 => (hq g33 (hq Tt hq0))) (hq (fun g34 => (hq g34 (hq g34 (hq Tt hq0)))) (hq (fun _ => hq0) (hq (fun q36 => (hq (bo_m q36) hq0)) hq0))))))))
 refine Run.cond (by cbv) (hq0) (fun c37 => ?_) (fun c37 => ?_)
 ·
  have h := if_t c37 h
  refine Run.seq ?_
  refine Run.region hL hT [] (by cbv) hq0 ?_
  refine Run.ret ?_
  cases h
  refine ⟨_, _, by cbv, ?_, ?_⟩
  · exact LLe.r
  exact (ALe.v LLe.r ALe.nil)
 have h := if_f c37 h
 refine Run.skip ?_
 refine Run.seq ?_
 obtain ⟨r38, h_r38, h⟩ := bnd h
 obtain ⟨r39, h_r39, h⟩ := bnd h
 refine Run.draw hL hT hM [(13, .call [false, false] [.ag [.jk, .jk], .v (.jk)] [.v (.s (.int .i64 r38))]), (18, .call [false, false] [.ag [.jk, .jk], .v (.jk)] [.v (.s (.int .i64 r39))])] (by cbv) (by cbv) (by cbv) (by cbv) (by cbv) ?_ ?_
 · exact (hq Tt (hq Tt (hq (fun _ => hq0) (hq (fun g41 => (hq g41 (hq Tt hq0))) (hq (fun g42 => (hq g42 hq0)) (hq (fun _ => hq0) (hq (fun g44 => (hq g44 (hq Tt hq0))) (hq (fun _ => hq0) (hq (fun g46 => (hq g46 (hq Tt hq0))) (hq (fun g47 => (hq g47 (hq g47 (hq (hC (qvE (gd_t h_r38 g47))) hq0)))) (hq (fun _ => hq0) (hq (fun g49 => (hq g49 (hq Tt hq0))) (hq (fun _ => hq0) (hq (fun g51 => (hq g51 (hq Tt hq0))) (hq (fun g52 => (hq g52 (hq g52 (hq (hC (qvE (gd_t h_r39 g52))) hq0)))) (hq (fun g53 => (hq g53 (hq g53 (hq Tt hq0)))) (hq (fun g54 => (hq g54 (hq (fun q55 => (hq (bo_a g54 q55) hq0)) (hq (fun _ => hq0) hq0)))) (hq (fun _ => hq0) (hq (fun q58 => (hq (bo_m q58) hq0)) hq0)))))))))))))))))))
 refine Run.ret ?_
 cases h
 refine ⟨_, _, by cbv, ?_, ?_⟩
 · exact LLe.r
 exact (ALe.v LLe.r ALe.nil)
theorem qJH {qg : Int} {qd : List Cond} {qh : Int} {qw : Bool} {qi : Int} {qp : List Int} {qx : Bool} {qM : Int} {qZ : Int} {a1 : List Change} {r : Bool} (h : qpB.f (Query.mk qg qd qh qw qi qp qx qM qZ) a1 = some r) : AC Tryz.prog 10 [.ag [.s (.int .i64 qg), .im false (rowsOf qGB qd), .s (.int .i64 qh), .s (.bool qw), .s (.int .i64 qi), .im false (rowsOf Int_c qp), .s (.bool qx), .s (.int .i64 qM), .s (.int .i64 qZ)], .v (.im false (rowsOf qaE a1))] [.ag [.jk, .jk, .jk, .jk, .jk, .jk, .jk, .jk, .jk], .v (.jk)] [.v (.s (.bool r))] := by
 unfold qpB.f at h
 let qwE := rowsOf qaE
 let qO := rowsOf qGB
 let qB := rowsOf Int_c
 let qbF := @lenI Change
 show AC Tryz.prog 10 [.ag [.s (.int .i64 qg), .im false (qO qd), .s (.int .i64 qh), .s (.bool qw), .s (.int .i64 qi), .im false (qB qp), .s (.bool qx), .s (.int .i64 qM), .s (.int .i64 qZ)], .v (.im false (qwE a1))] _ _
 refine run3 Tryz.func10 (by rfl) (by rfl) (by cbv) ⟨by decide, rfl⟩ ?_
 intro ar cm bo sc sa sx ss sl bs sb ln sr ap up rp fr ge le lt nz mm ma sm fl al ci hL F hP hA hT hM hC
 refine Run.seq ?_
 refine Run.region hL hT [] (by cbv) hq0 ?_
 refine Run.seq ?_
 refine Run.seq ?_
 refine Run.region hL hT [] (by cbv) hq0 ?_
 rw [show ln (qwE a1) = qbF a1 from ln_eq qaE _]
 refine Run.block ?_
 refine Run.loop1 (fun (z13 : Int) => ⟨17, 100000, [(2, .pt 1 0 0), (7, .t (.im false (qwE a1))), (8, .t (.s (.int .i64 (qbF a1)))), (9, .t (.s (.int .i64 z13)))], [(1, .box 32 [.t (.s (.int .i64 qg)), .t (.im false (qO qd)), .t (.s (.int .i64 qh)), .t (.s (.bool qw)), .t (.s (.int .i64 qi)), .t (.im false (qB qp)), .t (.s (.bool qx)), .t (.s (.int .i64 qM)), .t (.s (.int .i64 qZ))])]⟩) (x0 := 0) h (Weak.of _ [(1, 0)] hA (by cbv) ?_) (fun _ => rfl) ?_
 · repeat (first | exact hq0 | refine hq (by first | exact Tt | rfl) ?_)
 intro k z13 h
 rw [qpB.l0] at h
 refine Run.seq ?_
 refine Run.region hL hT [] (by cbv) ?_ ?_
 · exact (hq Tt hq0)
 refine Run.seq ?_
 refine Run.cond (by cbv) (hq0) (fun c14 => ?_) (fun c14 => ?_)
 ·
  have h := if_t c14 h
  refine Run.skip ?_
  refine Run.seq ?_
  refine Run.block ?_
  refine Run.seq ?_
  obtain ⟨⟨qeW, qva, qwa, ⟨qKT, qPO⟩, ⟨qLT, qQO⟩⟩, h_x15, h⟩ := bnd h
  refine Run.region hL hT [(0, .el [.s (.int .i64 qeW), .s (.bool qva), .s (.bool qwa), .s (.int .i64 qKT), .im false (qB qPO), .s (.int .i64 qLT), .im false (qB qQO)])] (by cbv) ?_ ?_
  · exact (hq (qS h_x15) (hq (ql (f := qaE) h_x15) (hq (qt (f := qaE) h_x15) (hq Tt hq0))))
  refine Run.seq ?_
  obtain ⟨r16, h_r16, h⟩ := bnd h
  refine Run.region hL hT [(2, .call [false, false] [.ag [.jk, .jk, .jk, .jk, .jk, .jk, .jk, .jk, .jk], .ag [.jk, .jk, .jk, .jk, .jk, .jk, .jk]] [.v (.s (.bool r16))])] (by cbv) ?_ ?_
  · exact (hq Tt (hq Tt (hq (hC (qOO h_r16)) hq0)))
  refine Run.cond (by cbv) (hq0) (fun c17 => ?_) (fun c17 => ?_)
  ·
   have h := if_t c17 h
   refine Run.seq ?_
   refine Run.region hL hT [] (by cbv) hq0 ?_
   refine Run.ret ?_
   cases h
   refine ⟨_, _, by cbv, ?_, ?_⟩
   · exact LLe.r
   exact (ALe.v LLe.r ALe.nil)
  have h := if_f c17 h
  refine Run.skip ?_
  refine Run.region hL hT [] (by cbv) ?_ ?_
  · exact (hq Tt hq0)
  refine ⟨(ar .add .i64 z13 1), h, Weak.of _ [(1, 1)] hA (by cbv) ?_⟩
  repeat (first | exact hq0 | refine hq (by first | exact Tt | rfl) ?_)
 have h := if_f c14 h
 refine Run.exit ?_
 refine Run.seq ?_
 refine Run.region hL hT [] (by cbv) hq0 ?_
 refine Run.ret ?_
 cases h
 refine ⟨_, _, by cbv, ?_, ?_⟩
 · exact LLe.r
 exact (ALe.v LLe.r ALe.nil)
theorem qcC {a0 : Int} {a1 : Int} {a2 : Int} {r : Bool} (h : qnC.f a0 a1 a2 = some r) : AC Tryz.prog 47 [.v (.s (.int .i64 a0)), .v (.s (.int .i64 a1)), .v (.s (.int .i64 a2))] [.v (.jk), .v (.jk), .v (.jk)] [.v (.s (.bool r))] := by
 unfold qnC.f at h
 show AC Tryz.prog 47 [.v (.s (.int .i64 a0)), .v (.s (.int .i64 a1)), .v (.s (.int .i64 a2))] _ _
 refine run3 Tryz.func47 (by rfl) (by rfl) (by cbv) ⟨by decide, rfl⟩ ?_
 intro ar cm bo sc sa sx ss sl bs sb ln sr ap up rp fr ge le lt nz mm ma sm fl al ci hL F hP hA hT hM hC
 refine Run.seq ?_
 refine Run.region hL hT [] (by cbv) hq0 ?_
 refine Run.seq ?_
 refine Run.region hL hT [] (by cbv) ?_ ?_
 · exact (hq Tt (hq (fun _ => hq0) (hq (fun _ => hq0) (hq (fun g3 => (hq g3 (hq g3 (hq Tt hq0)))) (hq (fun q4 => (hq q4 hq0)) (hq (fun _ => hq0) hq0))))))
 refine Run.ret ?_
 cases h
 refine ⟨_, _, by cbv, ?_, ?_⟩
 · exact LLe.r
 exact (ALe.v LLe.r ALe.nil)
theorem qRO {qRK : Int} {qNO : Int} {a0v_V : Int} {qLC : Int} {qk : List Int} {r : Bool} (h : qsF.f (Cond.mk qRK qNO a0v_V) (Row.mk qLC qk) = some r) : AC Tryz.prog 123 [.ag [.s (.int .i64 qRK), .s (.int .i64 qNO), .s (.int .i64 a0v_V)], .ag [.s (.int .i64 qLC), .im false (rowsOf Int_c qk)]] [.ag [.jk, .jk, .jk], .ag [.jk, .jk]] [.v (.s (.bool r))] := by
 unfold qsF.f at h
 let qB := rowsOf Int_c
 let qQ := @lenI Int
 show AC Tryz.prog 123 [.ag [.s (.int .i64 qRK), .s (.int .i64 qNO), .s (.int .i64 a0v_V)], .ag [.s (.int .i64 qLC), .im false (qB qk)]] _ _
 refine run3 Tryz.func123 (by rfl) (by rfl) (by cbv) ⟨by decide, rfl⟩ ?_
 intro ar cm bo sc sa sx ss sl bs sb ln sr ap up rp fr ge le lt nz mm ma sm fl al ci hL F hP hA hT hM hC
 refine Run.seq ?_
 refine Run.region hL hT [] (by cbv) hq0 ?_
 refine Run.seq ?_
 refine Run.seq ?_
 obtain ⟨r1, h_r1, h⟩ := bnd h
 refine Run.region hL hT [(6, .call [false, false, false] [.v (.jk), .v (.jk), .v (.jk)] [.v (.s (.bool r1))])] (by cbv) ?_ ?_
 · exact (hq Tt (hq Tt (hq Tt (hq (by rw [show ln (qB qk) = qQ qk from ln_eq Int_c _]; exact (hC (qcC h_r1))) hq0))))
 rw [show ln (qB qk) = qQ qk from ln_eq Int_c _]
 refine Run.cond (by cbv) (hq0) (fun c2 => ?_) (fun c2 => ?_)
 ·
  have h := if_t c2 h
  refine Run.seq ?_
  refine Run.region hL hT [] (by cbv) hq0 ?_
  refine Run.ret ?_
  cases h
  refine ⟨_, _, by cbv, ?_, ?_⟩
  · exact LLe.r
  exact (ALe.v LLe.r ALe.nil)
 have h := if_f c2 h
 refine Run.skip ?_
 refine Run.seq ?_
 obtain ⟨x3, h_x3, h⟩ := bnd h
 refine Run.region hL hT [(4, .el [.s (.int .i64 x3)])] (by cbv) ?_ ?_
 · exact (hq Tt (hq Tt (hq (qS h_x3) (hq (ql (f := Int_c) h_x3) (hq (qt (f := Int_c) h_x3) hq0)))))
 refine Run.seq ?_
 refine Run.seq ?_
 refine Run.region hL hT [] (by cbv) ?_ ?_
 · exact (hq Tt hq0)
 refine Run.block ?_
 refine Run.seq ?_
 refine Run.region hL hT [] (by cbv) ?_ ?_
 · exact (hq Tt hq0)
 refine Run.cond (by cbv) (hq0) (fun c4 => ?_) (fun c4 => ?_)
 ·
  have h := if_t c4 h
  refine Run.seq ?_
  refine Run.region hL hT [] (by cbv) ?_ ?_
  · exact (hq Tt (hq Tt hq0))
  refine Run.ret ?_
  cases h
  refine ⟨_, _, by cbv, ?_, ?_⟩
  · exact LLe.r
  exact (ALe.v LLe.r ALe.nil)
 have h := if_f c4 h
 refine Run.seq ?_
 refine Run.region hL hT [] (by cbv) ?_ ?_
 · exact (hq Tt hq0)
 refine Run.cond (by cbv) (hq0) (fun c5 => ?_) (fun c5 => ?_)
 ·
  have h := if_t c5 h
  refine Run.seq ?_
  refine Run.region hL hT [] (by cbv) ?_ ?_
  · exact (hq Tt (hq Tt hq0))
  refine Run.ret ?_
  cases h
  refine ⟨_, _, by cbv, ?_, ?_⟩
  · exact LLe.r
  exact (ALe.v LLe.r ALe.nil)
 have h := if_f c5 h
 refine Run.seq ?_
 refine Run.region hL hT [] (by cbv) ?_ ?_
 · exact (hq Tt hq0)
 refine Run.cond (by cbv) (hq0) (fun c6 => ?_) (fun c6 => ?_)
 ·
  have h := if_t c6 h
  refine Run.seq ?_
  refine Run.region hL hT [] (by cbv) ?_ ?_
  · exact (hq Tt (hq Tt hq0))
  refine Run.ret ?_
  cases h
  refine ⟨_, _, by cbv, ?_, ?_⟩
  · exact LLe.r
  exact (ALe.v LLe.r ALe.nil)
 have h := if_f c6 h
 refine Run.seq ?_
 refine Run.region hL hT [] (by cbv) ?_ ?_
 · exact (hq Tt hq0)
 refine Run.cond (by cbv) (hq0) (fun c7 => ?_) (fun c7 => ?_)
 ·
  have h := if_t c7 h
  refine Run.seq ?_
  refine Run.region hL hT [] (by cbv) ?_ ?_
  · exact (hq Tt (hq Tt hq0))
  refine Run.ret ?_
  cases h
  refine ⟨_, _, by cbv, ?_, ?_⟩
  · exact LLe.r
  exact (ALe.v LLe.r ALe.nil)
 have h := if_f c7 h
 refine Run.skip ?_
 refine Run.seq ?_
 refine Run.region hL hT [] (by cbv) hq0 ?_
 refine Run.ret ?_
 cases h
 refine ⟨_, _, by cbv, ?_, ?_⟩
 · exact LLe.r
 exact (ALe.v LLe.r ALe.nil)
theorem qAJ {qg : Int} {qd : List Cond} {qh : Int} {qw : Bool} {qi : Int} {qp : List Int} {qx : Bool} {qM : Int} {qZ : Int} {qLC : Int} {qk : List Int} {r : Bool} (h : qaC.f (Query.mk qg qd qh qw qi qp qx qM qZ) (Row.mk qLC qk) = some r) : AC Tryz.prog 59 [.ag [.s (.int .i64 qg), .im false (rowsOf qGB qd), .s (.int .i64 qh), .s (.bool qw), .s (.int .i64 qi), .im false (rowsOf Int_c qp), .s (.bool qx), .s (.int .i64 qM), .s (.int .i64 qZ)], .ag [.s (.int .i64 qLC), .im false (rowsOf Int_c qk)]] [.ag [.jk, .jk, .jk, .jk, .jk, .jk, .jk, .jk, .jk], .ag [.jk, .jk]] [.v (.s (.bool r))] := by
 unfold qaC.f at h
 let qO := rowsOf qGB
 let qB := rowsOf Int_c
 let qGD := @lenI Cond
 show AC Tryz.prog 59 [.ag [.s (.int .i64 qg), .im false (qO qd), .s (.int .i64 qh), .s (.bool qw), .s (.int .i64 qi), .im false (qB qp), .s (.bool qx), .s (.int .i64 qM), .s (.int .i64 qZ)], .ag [.s (.int .i64 qLC), .im false (qB qk)]] _ _
 refine run3 Tryz.func59 (by rfl) (by rfl) (by cbv) ⟨by decide, rfl⟩ ?_
 intro ar cm bo sc sa sx ss sl bs sb ln sr ap up rp fr ge le lt nz mm ma sm fl al ci hL F hP hA hT hM hC
 refine Run.seq ?_
 refine Run.region hL hT [] (by cbv) hq0 ?_
 refine Run.seq ?_
 refine Run.seq ?_
 refine Run.region hL hT [] (by cbv) hq0 ?_
 refine Run.block ?_
 refine Run.loop1 (fun (z13 : Int) => ⟨21, 100000, [(2, .pt 1 0 0), (3, .pt 2 0 0), (5, .t (.s (.int .i64 z13)))], [(1, .box 32 [.t (.s (.int .i64 qg)), .t (.im false (qO qd)), .t (.s (.int .i64 qh)), .t (.s (.bool qw)), .t (.s (.int .i64 qi)), .t (.im false (qB qp)), .t (.s (.bool qx)), .t (.s (.int .i64 qM)), .t (.s (.int .i64 qZ))]), (2, .box 56 [.t (.s (.int .i64 qLC)), .t (.im false (qB qk))])]⟩) (x0 := 0) h (Weak.of _ [(1, 0), (2, 1)] hA (by cbv) ?_) (fun _ => rfl) ?_
 · repeat (first | exact hq0 | refine hq (by first | exact Tt | rfl) ?_)
 intro k z13 h
 rw [qaC.l0] at h
 refine Run.seq ?_
 refine Run.seq ?_
 refine Run.region hL hT [] (by cbv) ?_ ?_
 · exact (hq Tt (hq Tt hq0))
 rw [show ln (qO qd) = qGD qd from ln_eq qGB _]
 refine Run.cond (by cbv) (hq0) (fun c14 => ?_) (fun c14 => ?_)
 ·
  have h := if_t c14 h
  refine Run.skip ?_
  refine Run.seq ?_
  refine Run.block ?_
  refine Run.seq ?_
  obtain ⟨⟨qxa, qnc, qed⟩, h_x15, h⟩ := bnd h
  obtain ⟨r16, h_r16, h⟩ := bnd h
  refine Run.draw hL hT hM [(3, .el [.s (.int .i64 qxa), .s (.int .i64 qnc), .s (.int .i64 qed)]), (6, .call [false, false] [.ag [.jk, .jk, .jk], .ag [.jk, .jk]] [.v (.s (.bool r16))])] (by cbv) (by cbv) (by cbv) (by cbv) (by cbv) ?_ ?_
  · exact (hq Tt (hq (qS h_x15) (hq (ql (f := qGB) h_x15) (hq (qt (f := qGB) h_x15) (hq Tt (hq (hC (qRO h_r16)) hq0))))))
  refine Run.cond (by cbv) (hq0) (fun c17 => ?_) (fun c17 => ?_)
  ·
   have h := if_t c17 h
   refine Run.seq ?_
   refine Run.region hL hT [] (by cbv) hq0 ?_
   refine Run.ret ?_
   cases h
   refine ⟨_, _, by cbv, ?_, ?_⟩
   · exact LLe.r
   exact (ALe.v LLe.r ALe.nil)
  have h := if_f c17 h
  refine Run.skip ?_
  refine Run.region hL hT [] (by cbv) ?_ ?_
  · exact (hq Tt hq0)
  refine ⟨(ar .add .i64 z13 1), h, Weak.of _ [(1, 1), (2, 2)] hA (by cbv) ?_⟩
  repeat (first | exact hq0 | refine hq (by first | exact Tt | rfl) ?_)
 have h := if_f c14 h
 refine Run.exit ?_
 refine Run.seq ?_
 refine Run.region hL hT [] (by cbv) hq0 ?_
 refine Run.ret ?_
 cases h
 refine ⟨_, _, by cbv, ?_, ?_⟩
 · exact LLe.r
 exact (ALe.v LLe.r ALe.nil)
theorem qcR {qg : Int} {qd : List Cond} {qh : Int} {qw : Bool} {qi : Int} {qp : List Int} {qx : Bool} {qM : Int} {qZ : Int} {qN : Int} {qoG : Bool} {qpG : Bool} {qUD : Int} {qWC : List Int} {qVD : Int} {qXC : List Int} {r : Bool} (h : qjH.f (Query.mk qg qd qh qw qi qp qx qM qZ) (Change.mk qN qoG qpG (Row.mk qUD qWC) (Row.mk qVD qXC)) = some r) : AC Tryz.prog 109 [.ag [.s (.int .i64 qg), .im false (rowsOf qGB qd), .s (.int .i64 qh), .s (.bool qw), .s (.int .i64 qi), .im false (rowsOf Int_c qp), .s (.bool qx), .s (.int .i64 qM), .s (.int .i64 qZ)], .ag [.s (.int .i64 qN), .s (.bool qoG), .s (.bool qpG), .s (.int .i64 qUD), .im false (rowsOf Int_c qWC), .s (.int .i64 qVD), .im false (rowsOf Int_c qXC)]] [.ag [.jk, .jk, .jk, .jk, .jk, .jk, .jk, .jk, .jk], .ag [.jk, .jk, .jk, .jk, .jk, .jk, .jk]] [.v (.s (.bool r))] := by
 unfold qjH.f at h
 let qO := rowsOf qGB
 let qB := rowsOf Int_c
 show AC Tryz.prog 109 [.ag [.s (.int .i64 qg), .im false (qO qd), .s (.int .i64 qh), .s (.bool qw), .s (.int .i64 qi), .im false (qB qp), .s (.bool qx), .s (.int .i64 qM), .s (.int .i64 qZ)], .ag [.s (.int .i64 qN), .s (.bool qoG), .s (.bool qpG), .s (.int .i64 qUD), .im false (qB qWC), .s (.int .i64 qVD), .im false (qB qXC)]] _ _
 refine run3 Tryz.func109 (by rfl) (by rfl) (by cbv) ⟨by decide, rfl⟩ ?_
 intro ar cm bo sc sa sx ss sl bs sb ln sr ap up rp fr ge le lt nz mm ma sm fl al ci hL F hP hA hT hM hC
 refine Run.seq ?_
 refine Run.region hL hT [] (by cbv) hq0 ?_
 refine Run.seq ?_
 obtain ⟨r1, h_r1, h⟩ := bnd h
 obtain ⟨r2, h_r2, h⟩ := bnd h
 refine Run.region hL hT [(12, .call [false, false] [.ag [.jk, .jk, .jk, .jk, .jk, .jk, .jk, .jk, .jk], .ag [.jk, .jk]] [.v (.s (.bool r1))]), (21, .call [false, false] [.ag [.jk, .jk, .jk, .jk, .jk, .jk, .jk, .jk, .jk], .ag [.jk, .jk]] [.v (.s (.bool r2))])] (by cbv) ?_ ?_
 · exact (hq Tt (hq Tt (hq Tt (hq (fun _ => hq0) (hq (fun g4 => (hq g4 (hq Tt hq0))) (hq (fun g5 => (hq g5 hq0)) (hq (fun g6 => (hq Tt hq0)) (hq (fun _ => hq0) (hq (fun g8 => (hq g8 (hq Tt hq0))) (hq (fun g9 => (hq g9 (hq g9 (hq (hC (qAJ (gd_t h_r1 g9))) hq0)))) (hq (fun g10 => (hq g10 (hq (fun q11 => (hq (bo_a g10 q11) hq0)) (hq (fun _ => hq0) hq0)))) (hq (fun g13 => (hq g13 hq0)) (hq (fun _ => hq0) (hq (fun g15 => (hq g15 (hq Tt hq0))) (hq (fun g16 => (hq g16 hq0)) (hq (fun g17 => (hq Tt hq0)) (hq (fun _ => hq0) (hq (fun g19 => (hq g19 (hq Tt hq0))) (hq (fun g20 => (hq g20 (hq g20 (hq (hC (qAJ (gd_t h_r2 g20))) hq0)))) (hq (fun g21 => (hq g21 (hq (fun q22 => (hq (bo_a g21 q22) hq0)) (hq (fun _ => hq0) hq0)))) (hq (fun g24 => (hq g24 (hq (fun _ => hq0) (hq (fun q26 => (hq (bo_a g24 (bo_m q26)) hq0)) hq0)))) (hq (fun q27 => (hq q27 hq0)) (hq (fun _ => hq0) hq0)))))))))))))))))))))))
 refine Run.ret ?_
 cases h
 refine ⟨_, _, by cbv, ?_, ?_⟩
 · exact LLe.r
 exact (ALe.v LLe.r ALe.nil)
theorem qtJ {qqD : Int} {qQB : List Int} {a1 : Int} {r : Int} (h : qXF.f (Row.mk qqD qQB) a1 = some r) : AC Tryz.prog 110 [.ag [.s (.int .i64 qqD), .im false (rowsOf Int_c qQB)], .v (.s (.int .i64 a1))] [.ag [.jk, .jk], .v (.jk)] [.v (.s (.int .i64 r))] := by
 unfold qXF.f at h
 let qB := rowsOf Int_c
 let qQ := @lenI Int
 show AC Tryz.prog 110 [.ag [.s (.int .i64 qqD), .im false (qB qQB)], .v (.s (.int .i64 a1))] _ _
 refine run3 Tryz.func110 (by rfl) (by rfl) (by cbv) ⟨by decide, rfl⟩ ?_
 intro ar cm bo sc sa sx ss sl bs sb ln sr ap up rp fr ge le lt nz mm ma sm fl al ci hL F hP hA hT hM hC
 refine Run.seq ?_
 refine Run.region hL hT [] (by cbv) hq0 ?_
 refine Run.seq ?_
 refine Run.seq ?_
 obtain ⟨r1, h_r1, h⟩ := bnd h
 refine Run.region hL hT [(5, .call [false, false, false] [.v (.jk), .v (.jk), .v (.jk)] [.v (.s (.bool r1))])] (by cbv) ?_ ?_
 · exact (hq Tt (hq Tt (hq (by rw [show ln (qB qQB) = qQ qQB from ln_eq Int_c _]; exact (hC (qcC h_r1))) hq0)))
 rw [show ln (qB qQB) = qQ qQB from ln_eq Int_c _]
 refine Run.cond (by cbv) (hq0) (fun c2 => ?_) (fun c2 => ?_)
 ·
  have h := if_t c2 h
  refine Run.seq ?_
  refine Run.region hL hT [] (by cbv) hq0 ?_
  refine Run.ret ?_
  cases h
  refine ⟨_, _, by cbv, ?_, ?_⟩
  · exact LLe.r
  exact (ALe.v LLe.r ALe.nil)
 have h := if_f c2 h
 refine Run.skip ?_
 refine Run.seq ?_
 obtain ⟨x3, h_x3, h⟩ := bnd h
 refine Run.region hL hT [(3, .el [.s (.int .i64 x3)])] (by cbv) ?_ ?_
 · exact (hq Tt (hq (qS h_x3) (hq (ql (f := Int_c) h_x3) (hq (qt (f := Int_c) h_x3) hq0))))
 refine Run.ret ?_
 cases h
 refine ⟨_, _, by cbv, ?_, ?_⟩
 · exact LLe.r
 exact (ALe.v LLe.r ALe.nil)
theorem qSO {qg : Int} {qd : List Cond} {qh : Int} {qw : Bool} {qi : Int} {qp : List Int} {qx : Bool} {qM : Int} {qZ : Int} {qN : Int} {qoG : Bool} {qpG : Bool} {qUD : Int} {qWC : List Int} {qVD : Int} {qXC : List Int} {r : Bool} (h : qtF.f (Query.mk qg qd qh qw qi qp qx qM qZ) (Change.mk qN qoG qpG (Row.mk qUD qWC) (Row.mk qVD qXC)) = some r) : AC Tryz.prog 50 [.ag [.s (.int .i64 qg), .im false (rowsOf qGB qd), .s (.int .i64 qh), .s (.bool qw), .s (.int .i64 qi), .im false (rowsOf Int_c qp), .s (.bool qx), .s (.int .i64 qM), .s (.int .i64 qZ)], .ag [.s (.int .i64 qN), .s (.bool qoG), .s (.bool qpG), .s (.int .i64 qUD), .im false (rowsOf Int_c qWC), .s (.int .i64 qVD), .im false (rowsOf Int_c qXC)]] [.ag [.jk, .jk, .jk, .jk, .jk, .jk, .jk, .jk, .jk], .ag [.jk, .jk, .jk, .jk, .jk, .jk, .jk]] [.v (.s (.bool r))] := by
 unfold qtF.f at h
 let qO := rowsOf qGB
 let qB := rowsOf Int_c
 show AC Tryz.prog 50 [.ag [.s (.int .i64 qg), .im false (qO qd), .s (.int .i64 qh), .s (.bool qw), .s (.int .i64 qi), .im false (qB qp), .s (.bool qx), .s (.int .i64 qM), .s (.int .i64 qZ)], .ag [.s (.int .i64 qN), .s (.bool qoG), .s (.bool qpG), .s (.int .i64 qUD), .im false (qB qWC), .s (.int .i64 qVD), .im false (qB qXC)]] _ _
 refine run3 Tryz.func50 (by rfl) (by rfl) (by cbv) ⟨by decide, rfl⟩ ?_
 intro ar cm bo sc sa sx ss sl bs sb ln sr ap up rp fr ge le lt nz mm ma sm fl al ci hL F hP hA hT hM hC
 refine Run.seq ?_
 refine Run.region hL hT [] (by cbv) hq0 ?_
 refine Run.seq ?_
 refine Run.seq ?_
 obtain ⟨r1, h_r1, h⟩ := bnd h
 refine Run.region hL hT [(2, .call [false, false] [.ag [.jk, .jk, .jk, .jk, .jk, .jk, .jk, .jk, .jk], .ag [.jk, .jk, .jk, .jk, .jk, .jk, .jk]] [.v (.s (.bool r1))])] (by cbv) ?_ ?_
 · exact (hq Tt (hq Tt (hq (hC (qcR h_r1)) hq0)))
 refine Run.cond (by cbv) (hq0) (fun c2 => ?_) (fun c2 => ?_)
 ·
  have h := if_t c2 h
  refine Run.seq ?_
  refine Run.region hL hT [] (by cbv) hq0 ?_
  refine Run.ret ?_
  cases h
  refine ⟨_, _, by cbv, ?_, ?_⟩
  · exact LLe.r
  exact (ALe.v LLe.r ALe.nil)
 have h := if_f c2 h
 refine Run.skip ?_
 refine Run.seq ?_
 refine Run.seq ?_
 refine Run.region hL hT [] (by cbv) ?_ ?_
 · exact (hq Tt (hq (fun _ => hq0) (hq (fun g4 => (hq g4 (hq Tt hq0))) (hq (fun _ => hq0) (hq (fun g6 => (hq g6 (hq Tt hq0))) (hq (fun g7 => (hq g7 (hq g7 (hq Tt hq0)))) (hq (fun _ => hq0) (hq (fun q9 => (hq (bo_m q9) hq0)) (hq (fun _ => hq0) (hq (fun g11 => (hq g11 (hq Tt hq0))) (hq (fun g12 => (hq g12 hq0)) (hq (fun g13 => (hq g13 hq0)) (hq (fun _ => hq0) (hq (fun g15 => (hq g15 (hq Tt hq0))) (hq (fun g16 => (hq g16 hq0)) (hq (fun g17 => (hq g17 (hq (fun q18 => (hq (bo_a g17 q18) hq0)) (hq (fun _ => hq0) hq0)))) (hq (fun _ => hq0) (hq (fun q21 => (hq (bo_m q21) hq0)) hq0))))))))))))))))))
 refine Run.cond (by cbv) (hq0) (fun c22 => ?_) (fun c22 => ?_)
 ·
  have h := if_t c22 h
  refine Run.seq ?_
  refine Run.region hL hT [] (by cbv) hq0 ?_
  refine Run.ret ?_
  cases h
  refine ⟨_, _, by cbv, ?_, ?_⟩
  · exact LLe.r
  exact (ALe.v LLe.r ALe.nil)
 have h := if_f c22 h
 refine Run.skip ?_
 refine Run.seq ?_
 obtain ⟨r23, h_r23, h⟩ := bnd h
 obtain ⟨r24, h_r24, h⟩ := bnd h
 refine Run.draw hL hT hM [(10, .call [false, false] [.ag [.jk, .jk], .v (.jk)] [.v (.s (.int .i64 r23))]), (15, .call [false, false] [.ag [.jk, .jk], .v (.jk)] [.v (.s (.int .i64 r24))])] (by cbv) (by cbv) (by cbv) (by cbv) (by cbv) ?_ ?_
 · exact (hq Tt (hq Tt (hq (fun _ => hq0) (hq (fun g26 => (hq g26 (hq Tt hq0))) (hq (fun _ => hq0) (hq (fun g28 => (hq g28 (hq Tt hq0))) (hq (fun g29 => (hq g29 (hq g29 (hq (hC (qtJ (gd_t h_r23 g29))) hq0)))) (hq (fun _ => hq0) (hq (fun g31 => (hq g31 (hq Tt hq0))) (hq (fun _ => hq0) (hq (fun g33 => (hq g33 (hq Tt hq0))) (hq (fun g34 => (hq g34 (hq g34 (hq (hC (qtJ (gd_t h_r24 g34))) hq0)))) (hq (fun g35 => (hq g35 (hq g35 (hq Tt hq0)))) (hq (fun _ => hq0) (hq (fun q37 => (hq (bo_m q37) hq0)) hq0)))))))))))))))
 refine Run.ret ?_
 cases h
 refine ⟨_, _, by cbv, ?_, ?_⟩
 · exact LLe.r
 exact (ALe.v LLe.r ALe.nil)
theorem qEL {qg : Int} {qd : List Cond} {qh : Int} {qw : Bool} {qi : Int} {qp : List Int} {qx : Bool} {qM : Int} {qZ : Int} {a1 : List Change} {r : Bool} (h : qvB.f (Query.mk qg qd qh qw qi qp qx qM qZ) a1 = some r) : AC Tryz.prog 11 [.ag [.s (.int .i64 qg), .im false (rowsOf qGB qd), .s (.int .i64 qh), .s (.bool qw), .s (.int .i64 qi), .im false (rowsOf Int_c qp), .s (.bool qx), .s (.int .i64 qM), .s (.int .i64 qZ)], .v (.im false (rowsOf qaE a1))] [.ag [.jk, .jk, .jk, .jk, .jk, .jk, .jk, .jk, .jk], .v (.jk)] [.v (.s (.bool r))] := by
 unfold qvB.f at h
 let qwE := rowsOf qaE
 let qO := rowsOf qGB
 let qB := rowsOf Int_c
 let qbF := @lenI Change
 show AC Tryz.prog 11 [.ag [.s (.int .i64 qg), .im false (qO qd), .s (.int .i64 qh), .s (.bool qw), .s (.int .i64 qi), .im false (qB qp), .s (.bool qx), .s (.int .i64 qM), .s (.int .i64 qZ)], .v (.im false (qwE a1))] _ _
 refine run3 Tryz.func11 (by rfl) (by rfl) (by cbv) ⟨by decide, rfl⟩ ?_
 intro ar cm bo sc sa sx ss sl bs sb ln sr ap up rp fr ge le lt nz mm ma sm fl al ci hL F hP hA hT hM hC
 refine Run.seq ?_
 refine Run.region hL hT [] (by cbv) hq0 ?_
 refine Run.seq ?_
 refine Run.seq ?_
 refine Run.region hL hT [] (by cbv) hq0 ?_
 refine Run.block ?_
 refine Run.loop1 (fun (z12 : Int) => ⟨18, 100000, [(1, .t (.im false (qwE a1))), (2, .pt 1 0 0), (5, .t (.s (.int .i64 z12)))], [(1, .box 32 [.t (.s (.int .i64 qg)), .t (.im false (qO qd)), .t (.s (.int .i64 qh)), .t (.s (.bool qw)), .t (.s (.int .i64 qi)), .t (.im false (qB qp)), .t (.s (.bool qx)), .t (.s (.int .i64 qM)), .t (.s (.int .i64 qZ))])]⟩) (x0 := 0) h (Weak.of _ [(1, 0)] hA (by cbv) ?_) (fun _ => rfl) ?_
 · repeat (first | exact hq0 | refine hq (by first | exact Tt | rfl) ?_)
 intro k z12 h
 rw [qvB.l0] at h
 refine Run.seq ?_
 refine Run.seq ?_
 refine Run.region hL hT [] (by cbv) ?_ ?_
 · exact (hq Tt hq0)
 rw [show ln (qwE a1) = qbF a1 from ln_eq qaE _]
 refine Run.cond (by cbv) (hq0) (fun c13 => ?_) (fun c13 => ?_)
 ·
  have h := if_t c13 h
  refine Run.skip ?_
  refine Run.seq ?_
  refine Run.block ?_
  refine Run.seq ?_
  obtain ⟨⟨qfW, qya, qza, ⟨qMT, qTO⟩, ⟨qNT, qUO⟩⟩, h_x14, h⟩ := bnd h
  obtain ⟨r15, h_r15, h⟩ := bnd h
  refine Run.draw hL hT hM [(3, .el [.s (.int .i64 qfW), .s (.bool qya), .s (.bool qza), .s (.int .i64 qMT), .im false (qB qTO), .s (.int .i64 qNT), .im false (qB qUO)]), (5, .call [false, false] [.ag [.jk, .jk, .jk, .jk, .jk, .jk, .jk, .jk, .jk], .ag [.jk, .jk, .jk, .jk, .jk, .jk, .jk]] [.v (.s (.bool r15))])] (by cbv) (by cbv) (by cbv) (by cbv) (by cbv) ?_ ?_
  · exact (hq Tt (hq (qS h_x14) (hq (ql (f := qaE) h_x14) (hq (qt (f := qaE) h_x14) (hq (hC (qSO h_r15)) hq0)))))
  refine Run.cond (by cbv) (hq0) (fun c16 => ?_) (fun c16 => ?_)
  ·
   have h := if_t c16 h
   refine Run.seq ?_
   refine Run.region hL hT [] (by cbv) hq0 ?_
   refine Run.ret ?_
   cases h
   refine ⟨_, _, by cbv, ?_, ?_⟩
   · exact LLe.r
   exact (ALe.v LLe.r ALe.nil)
  have h := if_f c16 h
  refine Run.skip ?_
  refine Run.region hL hT [] (by cbv) ?_ ?_
  · exact (hq Tt hq0)
  refine ⟨(ar .add .i64 z12 1), h, Weak.of _ [(1, 1)] hA (by cbv) ?_⟩
  repeat (first | exact hq0 | refine hq (by first | exact Tt | rfl) ?_)
 have h := if_f c13 h
 refine Run.exit ?_
 refine Run.seq ?_
 refine Run.region hL hT [] (by cbv) hq0 ?_
 refine Run.ret ?_
 cases h
 refine ⟨_, _, by cbv, ?_, ?_⟩
 · exact LLe.r
 exact (ALe.v LLe.r ALe.nil)
theorem qLE {qK : List Int} {a1 : Int} {r : Bool} (h : qHD.f (Schema.mk qK) a1 = some r) : AC Tryz.prog 111 [.ag [.im false (rowsOf Int_c qK)], .v (.s (.int .i64 a1))] [.ag [.jk], .v (.jk)] [.v (.s (.bool r))] := by
 unfold qHD.f at h
 let qB := rowsOf Int_c
 let qQ := @lenI Int
 show AC Tryz.prog 111 [.ag [.im false (qB qK)], .v (.s (.int .i64 a1))] _ _
 refine run3 Tryz.func111 (by rfl) (by rfl) (by cbv) ⟨by decide, rfl⟩ ?_
 intro ar cm bo sc sa sx ss sl bs sb ln sr ap up rp fr ge le lt nz mm ma sm fl al ci hL F hP hA hT hM hC
 refine Run.seq ?_
 refine Run.region hL hT [] (by cbv) hq0 ?_
 refine Run.seq ?_
 obtain ⟨r1, h_r1, h⟩ := bnd h
 refine Run.region hL hT [(5, .call [false, false, false] [.v (.jk), .v (.jk), .v (.jk)] [.v (.s (.bool r1))])] (by cbv) ?_ ?_
 · exact (hq Tt (hq Tt (hq (by rw [show ln (qB qK) = qQ qK from ln_eq Int_c _]; exact (hC (qSB h_r1))) hq0)))
 rw [show ln (qB qK) = qQ qK from ln_eq Int_c _]
 refine Run.ret ?_
 cases h
 refine ⟨_, _, by cbv, ?_, ?_⟩
 · exact LLe.r
 exact (ALe.v LLe.r ALe.nil)
theorem qMI {a0 : Int} {r : Bool} (h : qYF.f a0 = some r) : AC Tryz.prog 112 [.v (.s (.int .i64 a0))] [.v (.jk)] [.v (.s (.bool r))] := by
 unfold qYF.f at h
 show AC Tryz.prog 112 [.v (.s (.int .i64 a0))] _ _
 refine run3 Tryz.func112 (by rfl) (by rfl) (by cbv) ⟨by decide, rfl⟩ ?_
 intro ar cm bo sc sa sx ss sl bs sb ln sr ap up rp fr ge le lt nz mm ma sm fl al ci hL F hP hA hT hM hC
 refine Run.seq ?_
 refine Run.region hL hT [] (by cbv) hq0 ?_
 refine Run.seq ?_
 obtain ⟨r1, h_r1, h⟩ := bnd h
 refine Run.region hL hT [(1, .call [false, false, false] [.v (.jk), .v (.jk), .v (.jk)] [.v (.s (.bool r1))])] (by cbv) ?_ ?_
 · exact (hq (hC (qSB h_r1)) hq0)
 refine Run.ret ?_
 cases h
 refine ⟨_, _, by cbv, ?_, ?_⟩
 · exact LLe.r
 exact (ALe.v LLe.r ALe.nil)
theorem qVO {qK : List Int} {qN : Int} {qn : List Cond} {qkB : Int} {qCC : Bool} {qlB : Int} {qtB : List Int} {qDC : Bool} {qBB : Int} {qaB : Int} {r : Bool} (h : quF.f (Schema.mk qK) (Query.mk qN qn qkB qCC qlB qtB qDC qBB qaB) = some r) : AC Tryz.prog 113 [.ag [.im false (rowsOf Int_c qK)], .ag [.s (.int .i64 qN), .im false (rowsOf qGB qn), .s (.int .i64 qkB), .s (.bool qCC), .s (.int .i64 qlB), .im false (rowsOf Int_c qtB), .s (.bool qDC), .s (.int .i64 qBB), .s (.int .i64 qaB)]] [.ag [.jk], .ag [.jk, .jk, .jk, .jk, .jk, .jk, .jk, .jk, .jk]] [.v (.s (.bool r))] := by
 unfold quF.f at h
 let qO := rowsOf qGB
 let qB := rowsOf Int_c
 show AC Tryz.prog 113 [.ag [.im false (qB qK)], .ag [.s (.int .i64 qN), .im false (qO qn), .s (.int .i64 qkB), .s (.bool qCC), .s (.int .i64 qlB), .im false (qB qtB), .s (.bool qDC), .s (.int .i64 qBB), .s (.int .i64 qaB)]] _ _
 refine run3 Tryz.func113 (by rfl) (by rfl) (by cbv) ⟨by decide, rfl⟩ ?_
 intro ar cm bo sc sa sx ss sl bs sb ln sr ap up rp fr ge le lt nz mm ma sm fl al ci hL F hP hA hT hM hC
 refine Run.seq ?_
 refine Run.region hL hT [] (by cbv) hq0 ?_
 refine Run.seq ?_
 refine Run.seq ?_
 refine Run.region hL hT [] (by cbv) ?_ ?_
 · exact (hq Tt hq0)
 refine Run.cond (by cbv) (hq0) (fun c1 => ?_) (fun c1 => ?_)
 ·
  have h := if_t c1 h
  refine Run.seq ?_
  refine Run.region hL hT [] (by cbv) ?_ ?_
  · exact (hq Tt (hq Tt (hq (fun _ => hq0) (hq (fun g3 => (hq g3 (hq Tt hq0))) (hq (fun g4 => (hq g4 (hq Tt hq0))) (hq (fun q5 => (hq q5 hq0)) (hq (fun _ => hq0) hq0)))))))
  refine Run.ret ?_
  cases h
  refine ⟨_, _, by cbv, ?_, ?_⟩
  · exact LLe.r
  exact (ALe.v LLe.r ALe.nil)
 have h := if_f c1 h
 refine Run.skip ?_
 refine Run.seq ?_
 obtain ⟨r7, h_r7, h⟩ := bnd h
 obtain ⟨x8, h_x8, h⟩ := bnd h
 obtain ⟨r9, h_r9, h⟩ := bnd h
 refine Run.draw hL hT hM [(3, .call [false, false] [.ag [.jk], .v (.jk)] [.v (.s (.bool r7))]), (11, .el [.s (.int .i64 x8)]), (14, .call [false, false, false] [.v (.jk), .v (.jk), .v (.jk)] [.v (.s (.bool r9))])] (by cbv) (by cbv) (by cbv) (by cbv) (by cbv) ?_ ?_
 · exact (hq Tt (hq Tt (hq (hC (qLE h_r7)) (hq (fun _ => hq0) (hq (fun g11 => (hq g11 (hq Tt hq0))) (hq (fun _ => hq0) (hq (fun g13 => (hq g13 (hq Tt hq0))) (hq (fun _ => hq0) (hq (fun g15 => (hq g15 (hq Tt hq0))) (hq (fun g16 => (hq g16 (hq g16 (hq (qS (gd_t h_x8 g16)) (hq (ql (f := Int_c) (gd_t h_x8 g16)) (hq (qt (f := Int_c) (gd_t h_x8 g16)) hq0)))))) (hq (fun g17 => (hq g17 hq0)) (hq (fun g18 => (hq g18 (hq Tt hq0))) (hq (fun g19 => (hq g19 (hq g19 (hq (hC (qSB (gd_t h_r9 g19))) hq0)))) (hq (fun q20 => (hq q20 hq0)) (hq (fun _ => hq0) hq0)))))))))))))))
 refine Run.ret ?_
 cases h
 refine ⟨_, _, by cbv, ?_, ?_⟩
 · exact LLe.r
 exact (ALe.v LLe.r ALe.nil)
theorem qME {qK : List Int} {r : Bool} (h : qmB.f (Schema.mk qK) = some r) : AC Tryz.prog 99 [.ag [.im false (rowsOf Int_c qK)]] [.ag [.jk]] [.v (.s (.bool r))] := by
 unfold qmB.f at h
 let qB := rowsOf Int_c
 let qQ := @lenI Int
 show AC Tryz.prog 99 [.ag [.im false (qB qK)]] _ _
 refine run3 Tryz.func99 (by rfl) (by rfl) (by cbv) ⟨by decide, rfl⟩ ?_
 intro ar cm bo sc sa sx ss sl bs sb ln sr ap up rp fr ge le lt nz mm ma sm fl al ci hL F hP hA hT hM hC
 refine Run.seq ?_
 refine Run.region hL hT [] (by cbv) hq0 ?_
 obtain ⟨K2, h_K2, h⟩ := joinE h
 refine Run.join1 K2 (r := r) (fun (y1 : Unit) => ⟨20, 100000, [(1, .pt 1 0 0)], [(1, .box 26 [.t (.im false (qB qK))])]⟩) ?_ ?_
 ·
  skip
  refine Run.seq ?_
  refine Run.region hL hT [] (by cbv) ?_ ?_
  · exact (hq Tt hq0)
  rw [show ln (qB qK) = qQ qK from ln_eq Int_c _]
  refine Run.block ?_
  refine Run.loop1 (fun (z7 : Int) => ⟨20, 100000, [(1, .pt 1 0 0), (6, .t (.im false (qB qK))), (7, .t (.s (.int .i64 (qQ qK)))), (8, .t (.s (.int .i64 z7)))], [(1, .box 26 [.t (.im false (qB qK))])]⟩) (x0 := 0) h (Weak.of _ [(1, 0)] hA (by cbv) ?_) (fun _ => rfl) ?_
  · repeat (first | exact hq0 | refine hq (by first | exact Tt | rfl) ?_)
  intro k z7 h
  rw [qmB.l0] at h
  refine Run.seq ?_
  refine Run.region hL hT [] (by cbv) ?_ ?_
  · exact (hq Tt hq0)
  refine Run.seq ?_
  refine Run.cond (by cbv) (hq0) (fun c8 => ?_) (fun c8 => ?_)
  ·
   have h := if_t c8 h
   refine Run.skip ?_
   refine Run.seq ?_
   refine Run.block ?_
   refine Run.seq ?_
   obtain ⟨x9, h_x9, h⟩ := bnd h
   refine Run.region hL hT [(0, .el [.s (.int .i64 x9)])] (by cbv) ?_ ?_
   · exact (hq (qS h_x9) (hq (ql (f := Int_c) h_x9) (hq (qt (f := Int_c) h_x9) hq0)))
   refine Run.seq ?_
   obtain ⟨r10, h_r10, h⟩ := bnd h
   refine Run.region hL hT [(1, .call [false, false, false] [.v (.jk), .v (.jk), .v (.jk)] [.v (.s (.bool r10))])] (by cbv) ?_ ?_
   · exact (hq (hC (qSB h_r10)) hq0)
   refine Run.cond (by cbv) (hq0) (fun c11 => ?_) (fun c11 => ?_)
   ·
    have h := if_t c11 h
    refine Run.seq ?_
    refine Run.region hL hT [] (by cbv) hq0 ?_
    refine Run.ret ?_
    cases h
    refine ⟨_, _, by cbv, ?_, ?_⟩
    · exact LLe.r
    exact (ALe.v LLe.r ALe.nil)
   have h := if_f c11 h
   refine Run.skip ?_
   refine Run.region hL hT [] (by cbv) ?_ ?_
   · exact (hq Tt hq0)
   refine ⟨(ar .add .i64 z7 1), h, Weak.of _ [(1, 1)] hA (by cbv) ?_⟩
   repeat (first | exact hq0 | refine hq (by first | exact Tt | rfl) ?_)
  have h := if_f c8 h
  refine Run.exit ?_
  refine ⟨(), h, Weak.of _ [(1, 1)] hA (by cbv) ?_⟩
  repeat (first | exact hq0 | refine hq (by first | exact Tt | rfl) ?_)
 intro y1 h
 rw [h_K2] at h
 refine Run.seq ?_
 obtain ⟨r12, h_r12, h⟩ := bnd h
 refine Run.region hL hT [(3, .call [false, false, false] [.v (.jk), .v (.jk), .v (.jk)] [.v (.s (.bool r12))])] (by cbv) ?_ ?_
 · exact (hq Tt (hq (by rw [show ln (qB qK) = qQ qK from ln_eq Int_c _]; exact (hC (qSB h_r12))) hq0))
 rw [show ln (qB qK) = qQ qK from ln_eq Int_c _]
 refine Run.ret ?_
 cases h
 refine ⟨_, _, by cbv, ?_, ?_⟩
 · exact LLe.r
 exact (ALe.v LLe.r ALe.nil)
theorem qSF {qK : List Int} {qN : Int} {qn : List Cond} {qkB : Int} {qCC : Bool} {qlB : Int} {qtB : List Int} {qDC : Bool} {qBB : Int} {qaB : Int} {r : Bool} (h : qXB.f (Schema.mk qK) (Query.mk qN qn qkB qCC qlB qtB qDC qBB qaB) = some r) : AC Tryz.prog 51 [.ag [.im false (rowsOf Int_c qK)], .ag [.s (.int .i64 qN), .im false (rowsOf qGB qn), .s (.int .i64 qkB), .s (.bool qCC), .s (.int .i64 qlB), .im false (rowsOf Int_c qtB), .s (.bool qDC), .s (.int .i64 qBB), .s (.int .i64 qaB)]] [.ag [.jk], .ag [.jk, .jk, .jk, .jk, .jk, .jk, .jk, .jk, .jk]] [.v (.s (.bool r))] := by
 unfold qXB.f at h
 let qO := rowsOf qGB
 let qB := rowsOf Int_c
 let qGD := @lenI Cond
 let qQ := @lenI Int
 show AC Tryz.prog 51 [.ag [.im false (qB qK)], .ag [.s (.int .i64 qN), .im false (qO qn), .s (.int .i64 qkB), .s (.bool qCC), .s (.int .i64 qlB), .im false (qB qtB), .s (.bool qDC), .s (.int .i64 qBB), .s (.int .i64 qaB)]] _ _
 refine run3 Tryz.func51 (by rfl) (by rfl) (by cbv) ⟨by decide, rfl⟩ ?_
 intro ar cm bo sc sa sx ss sl bs sb ln sr ap up rp fr ge le lt nz mm ma sm fl al ci hL F hP hA hT hM hC
 refine Run.seq ?_
 refine Run.region hL hT [] (by cbv) hq0 ?_
 refine Run.seq ?_
 refine Run.seq ?_
 obtain ⟨r1, h_r1, h⟩ := bnd h
 obtain ⟨r2, h_r2, h⟩ := bnd h
 refine Run.region hL hT [(1, .call [false] [.ag [.jk]] [.v (.s (.bool r1))]), (7, .call [false, false] [.ag [.jk], .v (.jk)] [.v (.s (.bool r2))])] (by cbv) ?_ ?_
 · exact (hq Tt (hq (hC (qME h_r1)) (hq (fun g3 => (hq Tt hq0)) (hq (fun _ => hq0) (hq (fun g5 => (hq g5 (hq Tt hq0))) (hq (fun g6 => (hq g6 (hq g6 (hq (hC (qLE (gd_t h_r2 g6))) hq0)))) (hq (fun g7 => (hq g7 hq0)) (hq (fun _ => hq0) (hq (fun q9 => (hq (bo_m q9) hq0)) hq0)))))))))
 refine Run.cond (by cbv) (hq0) (fun c10 => ?_) (fun c10 => ?_)
 ·
  have h := if_t c10 h
  refine Run.seq ?_
  refine Run.region hL hT [] (by cbv) hq0 ?_
  refine Run.ret ?_
  cases h
  refine ⟨_, _, by cbv, ?_, ?_⟩
  · exact LLe.r
  exact (ALe.v LLe.r ALe.nil)
 have h := if_f c10 h
 refine Run.skip ?_
 refine Run.seq ?_
 obtain ⟨x11, h_x11, h⟩ := bnd h
 refine Run.region hL hT [(4, .el [.s (.int .i64 x11)])] (by cbv) ?_ ?_
 · exact (hq Tt (hq Tt (hq (qS h_x11) (hq (ql (f := Int_c) h_x11) (hq (qt (f := Int_c) h_x11) hq0)))))
 obtain ⟨K13, h_K13, h⟩ := joinE h
 refine Run.join1 K13 (r := r) (fun (y12 : Unit) => ⟨112, 100000, [(2, .pt 1 0 0), (3, .pt 2 0 0), (5, .t (.s (.int .i64 x11)))], [(1, .box 26 [.t (.im false (qB qK))]), (2, .box 32 [.t (.s (.int .i64 qN)), .t (.im false (qO qn)), .t (.s (.int .i64 qkB)), .t (.s (.bool qCC)), .t (.s (.int .i64 qlB)), .t (.im false (qB qtB)), .t (.s (.bool qDC)), .t (.s (.int .i64 qBB)), .t (.s (.int .i64 qaB))])]⟩) ?_ ?_
 ·
  skip
  refine Run.seq ?_
  refine Run.region hL hT [] (by cbv) ?_ ?_
  · exact (hq Tt hq0)
  rw [show ln (qO qn) = qGD qn from ln_eq qGB _]
  refine Run.block ?_
  refine Run.loop1 (fun (z28 : Int) => ⟨112, 100000, [(2, .pt 1 0 0), (3, .pt 2 0 0), (5, .t (.s (.int .i64 x11))), (28, .t (.im false (qO qn))), (29, .t (.s (.int .i64 (qGD qn)))), (30, .t (.s (.int .i64 z28)))], [(1, .box 26 [.t (.im false (qB qK))]), (2, .box 32 [.t (.s (.int .i64 qN)), .t (.im false (qO qn)), .t (.s (.int .i64 qkB)), .t (.s (.bool qCC)), .t (.s (.int .i64 qlB)), .t (.im false (qB qtB)), .t (.s (.bool qDC)), .t (.s (.int .i64 qBB)), .t (.s (.int .i64 qaB))])]⟩) (x0 := 0) h (Weak.of _ [(1, 0), (2, 1)] hA (by cbv) ?_) (fun _ => rfl) ?_
  · repeat (first | exact hq0 | refine hq (by first | exact Tt | rfl) ?_)
  intro k z28 h
  rw [qXB.l0] at h
  refine Run.seq ?_
  refine Run.region hL hT [] (by cbv) ?_ ?_
  · exact (hq Tt hq0)
  refine Run.seq ?_
  refine Run.cond (by cbv) (hq0) (fun c29 => ?_) (fun c29 => ?_)
  ·
   have h := if_t c29 h
   refine Run.skip ?_
   refine Run.seq ?_
   refine Run.block ?_
   refine Run.seq ?_
   obtain ⟨⟨qAb, qoc, qfd⟩, h_x30, h⟩ := bnd h
   refine Run.region hL hT [(0, .el [.s (.int .i64 qAb), .s (.int .i64 qoc), .s (.int .i64 qfd)])] (by cbv) ?_ ?_
   · exact (hq (qS h_x30) (hq (ql (f := qGB) h_x30) (hq (qt (f := qGB) h_x30) (hq Tt hq0))))
   refine Run.seq ?_
   obtain ⟨r31, h_r31, h⟩ := bnd h
   obtain ⟨r32, h_r32, h⟩ := bnd h
   obtain ⟨r33, h_r33, h⟩ := bnd h
   refine Run.region hL hT [(4, .call [false, false, false] [.v (.jk), .v (.jk), .v (.jk)] [.v (.s (.bool r31))]), (9, .call [false, false, false] [.v (.jk), .v (.jk), .v (.jk)] [.v (.s (.bool r32))]), (15, .call [false] [.v (.jk)] [.v (.s (.bool r33))])] (by cbv) ?_ ?_
   · exact (hq Tt (hq Tt (hq (hC (qSB h_r31)) (hq (fun _ => hq0) (hq (fun g35 => (hq g35 (hq Tt hq0))) (hq (fun g36 => (hq g36 (hq (hC (qSB (gd_t h_r32 g36))) hq0))) (hq (fun g37 => (hq g37 hq0)) (hq (fun _ => hq0) (hq (fun q39 => (hq (bo_m q39) hq0)) (hq (fun _ => hq0) (hq (fun g41 => (hq g41 (hq Tt hq0))) (hq (fun g42 => (hq g42 (hq (hC (qMI (gd_t h_r33 g42))) hq0))) (hq (fun g43 => (hq g43 hq0)) (hq (fun _ => hq0) (hq (fun q45 => (hq (bo_m q45) hq0)) hq0)))))))))))))))
   refine Run.cond (by cbv) (hq0) (fun c46 => ?_) (fun c46 => ?_)
   ·
    have h := if_t c46 h
    refine Run.seq ?_
    refine Run.region hL hT [] (by cbv) hq0 ?_
    refine Run.ret ?_
    cases h
    refine ⟨_, _, by cbv, ?_, ?_⟩
    · exact LLe.r
    exact (ALe.v LLe.r ALe.nil)
   have h := if_f c46 h
   refine Run.skip ?_
   refine Run.region hL hT [] (by cbv) ?_ ?_
   · exact (hq Tt hq0)
   refine ⟨(ar .add .i64 z28 1), h, Weak.of _ [(1, 1), (2, 2)] hA (by cbv) ?_⟩
   repeat (first | exact hq0 | refine hq (by first | exact Tt | rfl) ?_)
  have h := if_f c29 h
  refine Run.exit ?_
  refine ⟨(), h, Weak.of _ [(1, 1), (2, 2)] hA (by cbv) ?_⟩
  repeat (first | exact hq0 | refine hq (by first | exact Tt | rfl) ?_)
 intro y12 h
 rw [h_K13] at h
 obtain ⟨K48, h_K48, h⟩ := joinE h
 refine Run.join1 K48 (r := r) (fun (y47 : Unit) => ⟨112, 100000, [(2, .pt 1 0 0), (3, .pt 2 0 0), (5, .t (.s (.int .i64 x11)))], [(1, .box 26 [.t (.im false (qB qK))]), (2, .box 32 [.t (.s (.int .i64 qN)), .t (.im false (qO qn)), .t (.s (.int .i64 qkB)), .t (.s (.bool qCC)), .t (.s (.int .i64 qlB)), .t (.im false (qB qtB)), .t (.s (.bool qDC)), .t (.s (.int .i64 qBB)), .t (.s (.int .i64 qaB))])]⟩) ?_ ?_
 ·
  skip
  refine Run.seq ?_
  refine Run.region hL hT [] (by cbv) ?_ ?_
  · exact (hq Tt hq0)
  rw [show ln (qB qtB) = qQ qtB from ln_eq Int_c _]
  refine Run.block ?_
  refine Run.loop1 (fun (z63 : Int) => ⟨112, 100000, [(2, .pt 1 0 0), (3, .pt 2 0 0), (5, .t (.s (.int .i64 x11))), (54, .t (.im false (qB qtB))), (55, .t (.s (.int .i64 (qQ qtB)))), (56, .t (.s (.int .i64 z63)))], [(1, .box 26 [.t (.im false (qB qK))]), (2, .box 32 [.t (.s (.int .i64 qN)), .t (.im false (qO qn)), .t (.s (.int .i64 qkB)), .t (.s (.bool qCC)), .t (.s (.int .i64 qlB)), .t (.im false (qB qtB)), .t (.s (.bool qDC)), .t (.s (.int .i64 qBB)), .t (.s (.int .i64 qaB))])]⟩) (x0 := 0) h (Weak.of _ [(1, 1), (2, 2)] hA (by cbv) ?_) (fun _ => rfl) ?_
  · repeat (first | exact hq0 | refine hq (by first | exact Tt | rfl) ?_)
  intro k z63 h
  rw [qXB.l1] at h
  refine Run.seq ?_
  refine Run.region hL hT [] (by cbv) ?_ ?_
  · exact (hq Tt hq0)
  refine Run.seq ?_
  refine Run.cond (by cbv) (hq0) (fun c64 => ?_) (fun c64 => ?_)
  ·
   have h := if_t c64 h
   refine Run.skip ?_
   refine Run.seq ?_
   refine Run.block ?_
   refine Run.seq ?_
   obtain ⟨x65, h_x65, h⟩ := bnd h
   refine Run.region hL hT [(1, .el [.s (.int .i64 x65)])] (by cbv) ?_ ?_
   · exact (hq (qS h_x65) (hq (ql (f := Int_c) h_x65) (hq (qt (f := Int_c) h_x65) hq0)))
   refine Run.seq ?_
   obtain ⟨r66, h_r66, h⟩ := bnd h
   obtain ⟨x67, h_x67, h⟩ := bnd h
   refine Run.region hL hT [(3, .call [false, false, false] [.v (.jk), .v (.jk), .v (.jk)] [.v (.s (.bool r66))]), (13, .el [.s (.int .i64 x67)])] (by cbv) ?_ ?_
   · exact (hq Tt (hq (hC (qSB h_r66)) (hq (fun _ => hq0) (hq (fun g69 => (hq g69 (hq Tt hq0))) (hq (fun g70 => (hq g70 hq0)) (hq (fun _ => hq0) (hq (fun g72 => (hq g72 (hq Tt hq0))) (hq (fun _ => hq0) (hq (fun g74 => (hq g74 (hq Tt hq0))) (hq (fun g75 => (hq g75 (hq g75 (hq (qS (gd_t h_x67 g75)) (hq (ql (f := Int_c) (gd_t h_x67 g75)) (hq (qt (f := Int_c) (gd_t h_x67 g75)) hq0)))))) (hq (fun g76 => (hq g76 hq0)) (hq (fun _ => hq0) (hq (fun g78 => (hq g78 (hq g78 (hq Tt hq0)))) (hq (fun g79 => (hq g79 (hq (fun q80 => (hq (bo_a g79 q80) hq0)) (hq (fun _ => hq0) hq0)))) (hq (fun _ => hq0) (hq (fun q83 => (hq (bo_m q83) hq0)) hq0))))))))))))))))
   refine Run.cond (by cbv) (hq0) (fun c84 => ?_) (fun c84 => ?_)
   ·
    have h := if_t c84 h
    refine Run.seq ?_
    refine Run.region hL hT [] (by cbv) hq0 ?_
    refine Run.ret ?_
    cases h
    refine ⟨_, _, by cbv, ?_, ?_⟩
    · exact LLe.r
    exact (ALe.v LLe.r ALe.nil)
   have h := if_f c84 h
   refine Run.skip ?_
   refine Run.region hL hT [] (by cbv) ?_ ?_
   · exact (hq Tt hq0)
   refine ⟨(ar .add .i64 z63 1), h, Weak.of _ [(1, 1), (2, 2)] hA (by cbv) ?_⟩
   repeat (first | exact hq0 | refine hq (by first | exact Tt | rfl) ?_)
  have h := if_f c64 h
  refine Run.exit ?_
  refine ⟨(), h, Weak.of _ [(1, 1), (2, 2)] hA (by cbv) ?_⟩
  repeat (first | exact hq0 | refine hq (by first | exact Tt | rfl) ?_)
 intro y47 h
 rw [h_K48] at h
 refine Run.seq ?_
 obtain ⟨r85, h_r85, h⟩ := bnd h
 refine Run.region hL hT [(3, .call [false, false, false] [.v (.jk), .v (.jk), .v (.jk)] [.v (.s (.bool r85))])] (by cbv) ?_ ?_
 · exact (hq Tt (hq (hC (qSB h_r85)) (hq (fun _ => hq0) (hq (fun g87 => (hq g87 (hq Tt hq0))) (hq (fun g88 => (hq g88 hq0)) (hq (fun g89 => (hq g89 hq0)) (hq (fun _ => hq0) (hq (fun g91 => (hq g91 (hq Tt hq0))) (hq (fun g92 => (hq g92 (hq Tt hq0))) (hq (fun g93 => (hq g93 (hq (fun _ => hq0) (hq (fun q95 => (hq (bo_a g93 (bo_m q95)) hq0)) hq0)))) (hq (fun q96 => (hq q96 hq0)) (hq (fun _ => hq0) hq0))))))))))))
 refine Run.seq ?_
 obtain ⟨r98, h_r98, h⟩ := bnd h
 obtain ⟨r99, h_r99, h⟩ := bnd h
 refine Run.region hL hT [(10, .call [false, false, false] [.v (.jk), .v (.jk), .v (.jk)] [.v (.s (.bool r98))]), (15, .call [false, false] [.ag [.jk], .ag [.jk, .jk, .jk, .jk, .jk, .jk, .jk, .jk, .jk]] [.v (.s (.bool r99))])] (by cbv) ?_ ?_
 · exact (hq Tt (hq Tt (hq (fun _ => hq0) (hq (fun q101 => (by have q101C := q101; rw [show ln (qO qn) = qGD qn from ln_eq qGB _] at q101C; exact (hq q101 hq0))) (hq (fun _ => hq0) (hq (fun _ => hq0) (hq (fun g104 => (by have g104C := g104; rw [show ln (qO qn) = qGD qn from ln_eq qGB _] at g104C; exact (hq g104 (hq Tt hq0)))) (hq (fun g105 => (by have g105C := g105; rw [show ln (qO qn) = qGD qn from ln_eq qGB _] at g105C; exact (hq g105 (hq (hC (qSB (gd_t h_r98 g105C))) hq0)))) (hq (fun q106 => (by have q106C := q106; rw [show ln (qO qn) = qGD qn from ln_eq qGB _] at q106C; exact (hq q106 hq0))) (hq (fun _ => hq0) (hq (fun g108 => (by have g108C := g108; rw [show ln (qO qn) = qGD qn from ln_eq qGB _] at g108C; exact (hq Tt hq0))) (hq (fun g109 => (by have g109C := g109; rw [show ln (qO qn) = qGD qn from ln_eq qGB _] at g109C; exact (hq Tt hq0))) (hq (fun g110 => (by have g110C := g110; rw [show ln (qO qn) = qGD qn from ln_eq qGB _] at g110C; exact (hq g110 (hq g110 (hq (hC (qVO (gd_t h_r99 g110C))) hq0))))) (hq (fun q111 => (by have q111C := q111; rw [show ln (qO qn) = qGD qn from ln_eq qGB _] at q111C; exact (hq q111 hq0))) (hq (fun _ => hq0) hq0)))))))))))))))
 rw [show ln (qO qn) = qGD qn from ln_eq qGB _]
 refine Run.ret ?_
 cases h
 refine ⟨_, _, by cbv, ?_, ?_⟩
 · exact LLe.r
 exact (ALe.v LLe.r ALe.nil)
theorem qnL {qK : List Int} {a1 : List Query} {a2 : List Change} {r : (List Int)} (h : qyB.f (Schema.mk qK) a1 a2 = some r) : AC Tryz.prog 12 [.ag [.im false (rowsOf Int_c qK)], .v (.im false (rowsOf qQK a1)), .v (.im false (rowsOf qaE a2))] [.ag [.jk], .v (.jk), .v (.jk)] [.v (.ow 3 (rowsOf Int_c r))] := by
 unfold qyB.f at h
 let qwE := rowsOf qaE
 let qO := rowsOf qGB
 let qB := rowsOf Int_c
 let qBN := rowsOf qQK
 let qKQ := @lenI Query
 show AC Tryz.prog 12 [.ag [.im false (qB qK)], .v (.im false (qBN a1)), .v (.im false (qwE a2))] _ _
 refine run3 Tryz.func12 (by rfl) (by rfl) (by cbv) ⟨by decide, rfl⟩ ?_
 intro ar cm bo sc sa sx ss sl bs sb ln sr ap up rp fr ge le lt nz mm ma sm fl al ci hL F hP hA hT hM hC
 refine Run.seq ?_
 refine Run.region hL hT [] (by cbv) hq0 ?_
 refine Run.seq ?_
 refine Run.region hL hT [] (by cbv) hq0 ?_
 refine Run.seq ?_
 refine Run.seq ?_
 refine Run.region hL hT [] (by cbv) hq0 ?_
 rw [show ln (qBN a1) = qKQ a1 from ln_eq qQK _]
 refine Run.block ?_
 refine Run.loop2 (fun (z7 : List Int) (z8 : Int) => ⟨32, 100000, [(2, .t (.im false (qwE a2))), (3, .pt 1 0 0), (7, .rf 2), (11, .t (.im false (qBN a1))), (12, .t (.s (.int .i64 (qKQ a1)))), (13, .t (.s (.int .i64 z8)))], [(1, .box 26 [.t (.im false (qB qK))]), (2, .row 0 3 1 (qB z7))]⟩) (x0 := []) (x1 := 0) h (Weak.of _ [(1, 0), (2, 4096)] hA (by cbv) ?_) (fun _ _ => rfl) ?_
 · repeat (first | exact hq0 | refine hq (by first | exact Tt | rfl) ?_)
 intro k z7 z8 h
 rw [qyB.l0] at h
 refine Run.seq ?_
 refine Run.region hL hT [] (by cbv) ?_ ?_
 · exact (hq Tt hq0)
 refine Run.seq ?_
 refine Run.cond (by cbv) (hq0) (fun c9 => ?_) (fun c9 => ?_)
 ·
  have h := if_t c9 h
  refine Run.skip ?_
  refine Run.seq ?_
  refine Run.block ?_
  refine Run.seq ?_
  obtain ⟨⟨qgW, qhW, qiW, qqY, qjW, qrY, qsY, qdR, qiU⟩, h_x10, h⟩ := bnd h
  refine Run.region hL hT [(1, .el [.s (.int .i64 qgW), .im false (qO qhW), .s (.int .i64 qiW), .s (.bool qqY), .s (.int .i64 qjW), .im false (qB qrY), .s (.bool qsY), .s (.int .i64 qdR), .s (.int .i64 qiU)])] (by cbv) ?_ ?_
  · exact (hq (qS h_x10) (hq (ql (f := qQK) h_x10) (hq (qt (f := qQK) h_x10) (hq Tt hq0))))
  refine Run.seq ?_
  obtain ⟨r11, h_r11, h⟩ := bnd h
  obtain ⟨r12, h_r12, h⟩ := bnd h
  refine Run.region hL hT [(2, .call [false, false] [.ag [.jk], .ag [.jk, .jk, .jk, .jk, .jk, .jk, .jk, .jk, .jk]] [.v (.s (.bool r11))]), (6, .call [false, false] [.ag [.jk, .jk, .jk, .jk, .jk, .jk, .jk, .jk, .jk], .v (.jk)] [.v (.s (.bool r12))])] (by cbv) ?_ ?_
  · exact (hq Tt (hq Tt (hq (hC (qSF h_r11)) (hq (fun g13 => (hq Tt hq0)) (hq (fun _ => hq0) (hq (fun g15 => (hq g15 (hq g15 (hq (hC (qJH (gd_t h_r12 g15))) hq0)))) (hq (fun q16 => (hq q16 hq0)) (hq (fun _ => hq0) hq0))))))))
  refine Run.cond (by cbv) (hq0) (fun c18 => ?_) (fun c18 => ?_)
  ·
   have h := if_t c18 h
   obtain ⟨l19, h_l19, h⟩ := bnd h
   obtain ⟨l20, h_l20, h⟩ := bnd h
   refine Run.region hL hT [] (by cbv) ?_ ?_
   · exact (hq (qwD (P := Tryz.prog) (f := Int_c) RLe.r (qUB (f := Int_c) h_l19 (RLe.cons rfl LLe.r RLe.nil)) h_l20) hq0)
   refine Run.row (rows := (ap (qB z7) ([[.s (.int .i64 z8)]]))) 112291 (qB l20) (by cbv) (qvD (f := Int_c) RLe.r (qUB (f := Int_c) h_l19 (RLe.cons rfl LLe.r RLe.nil)) h_l20) ?_
   refine Run.region hL hT [] (by cbv) ?_ ?_
   · exact (hq Tt hq0)
   refine ⟨l20, (ar .add .i64 z8 1), h, Weak.of _ [(1, 1), (2, 112291)] hA (by cbv) ?_⟩
   repeat (first | exact hq0 | refine hq (by first | exact Tt | rfl) ?_)
  have h := if_f c18 h
  refine Run.skip ?_
  refine Run.region hL hT [] (by cbv) ?_ ?_
  · exact (hq Tt hq0)
  refine ⟨z7, (ar .add .i64 z8 1), h, Weak.of _ [(1, 1), (2, 2)] hA (by cbv) ?_⟩
  repeat (first | exact hq0 | refine hq (by first | exact Tt | rfl) ?_)
 have h := if_f c9 h
 refine Run.exit ?_
 refine Run.seq ?_
 refine Run.region hL hT [] (by cbv) hq0 ?_
 refine Run.ret ?_
 cases h
 refine ⟨_, _, by cbv, ?_, ?_⟩
 · exact LLe.r
 exact (ALe.v LLe.r ALe.nil)
theorem quJ {a0 : ByteArray} {r : Bool} (h : qBD.f a0 = some r) : AC Tryz.prog 156 [.v (.s (.string a0))] [.v (.jk)] [.v (.s (.bool r))] := by
 unfold qBD.f at h
 show AC Tryz.prog 156 [.v (.s (.string a0))] _ _
 refine run3 Tryz.func156 (by rfl) (by rfl) (by cbv) ⟨by decide, rfl⟩ ?_
 intro ar cm bo sc sa sx ss sl bs sb ln sr ap up rp fr ge le lt nz mm ma sm fl al ci hL F hP hA hT hM hC
 refine Run.seq ?_
 refine Run.region hL hT [] (by cbv) hq0 ?_
 refine Run.seq ?_
 refine Run.seq ?_
 refine Run.region hL hT [] (by cbv) hq0 ?_
 refine Run.block ?_
 refine Run.loop2 (fun (z4 : Int) (z5 : Int) => ⟨19, 100000, [(0, .t (.s (.string a0))), (5, .t (.s (.int .i64 z4))), (6, .t (.s (.int .i64 z5)))], []⟩) (x0 := (sl a0)) (x1 := 0) h (Weak.of _ [] hA (by cbv) ?_) (fun _ _ => rfl) ?_
 · repeat (first | exact hq0 | refine hq (by first | exact Tt | rfl) ?_)
 intro k z4 z5 h
 rw [qBD.l0] at h
 refine Run.seq ?_
 refine Run.region hL hT [] (by cbv) ?_ ?_
 · exact (hq Tt hq0)
 refine Run.seq ?_
 refine Run.cond (by cbv) (hq0) (fun c6 => ?_) (fun c6 => ?_)
 ·
  have h := if_t c6 h
  refine Run.skip ?_
  refine Run.seq ?_
  refine Run.block ?_
  refine Run.seq ?_
  refine Run.region hL hT [] (by cbv) hq0 ?_
  refine Run.seq ?_
  obtain ⟨u7, h_u7, h⟩ := bnd h
  obtain ⟨r8, h_r8, h⟩ := bnd h
  refine Run.region hL hT [(4, .call [false, false, false] [.v (.jk), .v (.jk), .v (.jk)] [.v (.s (.bool r8))])] (by cbv) ?_ ?_
  · exact (hq (inS_0 h_u7) (hq (inS_1 h_u7) (hq (hC (qSB h_r8)) hq0)))
  refine Run.cond (by cbv) (hq0) (fun c9 => ?_) (fun c9 => ?_)
  ·
   have h := if_t c9 h
   refine Run.seq ?_
   refine Run.region hL hT [] (by cbv) hq0 ?_
   refine Run.ret ?_
   cases h
   refine ⟨_, _, by cbv, ?_, ?_⟩
   · exact LLe.r
   exact (ALe.v LLe.r ALe.nil)
  have h := if_f c9 h
  refine Run.skip ?_
  refine Run.region hL hT [] (by cbv) ?_ ?_
  · exact (hq Tt hq0)
  refine ⟨z4, (ar .add .i64 z5 1), h, Weak.of _ [] hA (by cbv) ?_⟩
  repeat (first | exact hq0 | refine hq (by first | exact Tt | rfl) ?_)
 have h := if_f c6 h
 refine Run.exit ?_
 refine Run.seq ?_
 refine Run.region hL hT [] (by cbv) ?_ ?_
 · exact (hq Tt hq0)
 refine Run.ret ?_
 cases h
 refine ⟨_, _, by cbv, ?_, ?_⟩
 · exact LLe.r
 exact (ALe.v LLe.r ALe.nil)
theorem qWO {a0 : List ByteArray} {r : Bool} (h : qjC.f a0 = some r) : AC Tryz.prog 157 [.v (.im false (rowsOf Str_c a0))] [.v (.jk)] [.v (.s (.bool r))] := by
 unfold qjC.f at h
 let qKB := rowsOf Str_c
 let qdC := @lenI ByteArray
 show AC Tryz.prog 157 [.v (.im false (qKB a0))] _ _
 refine run3 Tryz.func157 (by rfl) (by rfl) (by cbv) ⟨by decide, rfl⟩ ?_
 intro ar cm bo sc sa sx ss sl bs sb ln sr ap up rp fr ge le lt nz mm ma sm fl al ci hL F hP hA hT hM hC
 refine Run.seq ?_
 refine Run.region hL hT [] (by cbv) hq0 ?_
 refine Run.seq ?_
 refine Run.seq ?_
 refine Run.region hL hT [] (by cbv) hq0 ?_
 rw [show ln (qKB a0) = qdC a0 from ln_eq Str_c _]
 refine Run.block ?_
 refine Run.loop1 (fun (z5 : Int) => ⟨29, 100000, [(0, .t (.im false (qKB a0))), (5, .t (.im false (qKB a0))), (6, .t (.s (.int .i64 (qdC a0)))), (7, .t (.s (.int .i64 z5)))], []⟩) (x0 := 0) h (Weak.of _ [] hA (by cbv) ?_) (fun _ => rfl) ?_
 · repeat (first | exact hq0 | refine hq (by first | exact Tt | rfl) ?_)
 intro k z5 h
 rw [qjC.l0] at h
 refine Run.seq ?_
 refine Run.region hL hT [] (by cbv) ?_ ?_
 · exact (hq Tt hq0)
 refine Run.seq ?_
 refine Run.cond (by cbv) (hq0) (fun c6 => ?_) (fun c6 => ?_)
 ·
  have h := if_t c6 h
  refine Run.skip ?_
  refine Run.seq ?_
  refine Run.block ?_
  refine Run.seq ?_
  obtain ⟨x7, h_x7, h⟩ := bnd h
  refine Run.region hL hT [(1, .el [.s (.string x7)])] (by cbv) ?_ ?_
  · exact (hq (qS h_x7) (hq (ql (f := Str_c) h_x7) (hq (qt (f := Str_c) h_x7) hq0)))
  refine Run.seq ?_
  obtain ⟨r8, h_r8, h⟩ := bnd h
  obtain ⟨x9, h_x9, h⟩ := bnd h
  refine Run.region hL hT [(1, .call [false] [.v (.jk)] [.v (.s (.bool r8))]), (10, .el [.s (.string x9)])] (by cbv) ?_ ?_
  · exact (hq (hC (quJ h_r8)) (hq (fun _ => hq0) (hq (fun g11 => (hq g11 (hq Tt hq0))) (hq (fun g12 => (hq g12 hq0)) (hq (fun _ => hq0) (hq (fun _ => hq0) (hq (fun g15 => (hq g15 (hq Tt hq0))) (hq (fun g16 => (hq g16 (hq g16 (hq (qS (gd_t h_x9 g16)) (hq (ql (f := Str_c) (gd_t h_x9 g16)) (hq (qt (f := Str_c) (gd_t h_x9 g16)) hq0)))))) (hq (fun g17 => (hq g17 hq0)) (hq (fun _ => hq0) (hq (fun g19 => (hq g19 (hq g19 hq0))) (hq (fun g20 => (hq g20 (hq (fun q21 => (hq (bo_a g20 q21) hq0)) (hq (fun _ => hq0) hq0)))) (hq (fun _ => hq0) (hq (fun q24 => (hq (bo_m q24) hq0)) hq0))))))))))))))
  refine Run.cond (by cbv) (hq0) (fun c25 => ?_) (fun c25 => ?_)
  ·
   have h := if_t c25 h
   refine Run.seq ?_
   refine Run.region hL hT [] (by cbv) hq0 ?_
   refine Run.ret ?_
   cases h
   refine ⟨_, _, by cbv, ?_, ?_⟩
   · exact LLe.r
   exact (ALe.v LLe.r ALe.nil)
  have h := if_f c25 h
  refine Run.skip ?_
  refine Run.region hL hT [] (by cbv) ?_ ?_
  · exact (hq Tt hq0)
  refine ⟨(ar .add .i64 z5 1), h, Weak.of _ [] hA (by cbv) ?_⟩
  repeat (first | exact hq0 | refine hq (by first | exact Tt | rfl) ?_)
 have h := if_f c6 h
 refine Run.exit ?_
 refine Run.seq ?_
 refine Run.region hL hT [] (by cbv) hq0 ?_
 refine Run.ret ?_
 cases h
 refine ⟨_, _, by cbv, ?_, ?_⟩
 · exact LLe.r
 exact (ALe.v LLe.r ALe.nil)
theorem qeR {qHB : Int} {a0v_N : Int} {a0v_S : ByteArray} {qJ : List Json} {qY : List ByteArray} {r : Bool} (h : qkH.f (Json.mk qHB a0v_N a0v_S qJ qY) = some r) : AC Tryz.prog 130 [.ag [.s (.int .i64 qHB), .s (.int .i64 a0v_N), .s (.string a0v_S), .im false (rowsOf qLB qJ), .im false (rowsOf Str_c qY)]] [.ag [.jk, .jk, .jk, .jk, .jk]] [.v (.s (.bool r))] := by
 unfold qkH.f at h
 let qTB := rowsOf qLB
 let qKB := rowsOf Str_c
 let qgB := @lenI Json
 let qdC := @lenI ByteArray
 show AC Tryz.prog 130 [.ag [.s (.int .i64 qHB), .s (.int .i64 a0v_N), .s (.string a0v_S), .im false (qTB qJ), .im false (qKB qY)]] _ _
 refine run3 Tryz.func130 (by rfl) (by rfl) (by cbv) ⟨by decide, rfl⟩ ?_
 intro ar cm bo sc sa sx ss sl bs sb ln sr ap up rp fr ge le lt nz mm ma sm fl al ci hL F hP hA hT hM hC
 refine Run.seq ?_
 refine Run.region hL hT [] (by cbv) hq0 ?_
 refine Run.seq ?_
 refine Run.seq ?_
 refine Run.region hL hT [] (by cbv) ?_ ?_
 · exact (hq Tt (hq Tt (hq (fun _ => hq0) (hq (fun g2 => (by have g2C := g2; rw [show ln (qTB qJ) = qgB qJ from ln_eq qLB _] at g2C; exact (hq g2 (hq Tt hq0)))) (hq (fun g3 => (by have g3C := g3; rw [show ln (qTB qJ) = qgB qJ from ln_eq qLB _] at g3C; exact (hq g3 (hq Tt hq0)))) (hq (fun q4 => (by have q4C := q4; rw [show ln (qTB qJ) = qgB qJ from ln_eq qLB _] at q4C; exact (hq q4 hq0))) (hq (fun _ => hq0) (hq (fun _ => hq0) (hq (fun g7 => (by have g7C := g7; rw [show ln (qTB qJ) = qgB qJ from ln_eq qLB _] at g7C; exact (hq g7 (hq Tt hq0)))) (hq (fun g8 => (by have g8C := g8; rw [show ln (qTB qJ) = qgB qJ from ln_eq qLB _] at g8C; exact (hq g8 (hq Tt hq0)))) (hq (fun q9 => (by have q9C := q9; rw [show ln (qTB qJ) = qgB qJ from ln_eq qLB _] at q9C; exact (hq q9 hq0))) (hq (fun _ => hq0) (hq (fun _ => hq0) (hq (fun g12 => (by have g12C := g12; rw [show ln (qTB qJ) = qgB qJ from ln_eq qLB _] at g12C; exact (hq g12 (hq Tt hq0)))) (hq (fun g13 => (by have g13C := g13; rw [show ln (qTB qJ) = qgB qJ from ln_eq qLB _] at g13C; exact (hq g13 hq0))) (hq (fun g14 => (by have g14C := g14; rw [show ln (qTB qJ) = qgB qJ from ln_eq qLB _] at g14C; exact (hq g14 (hq Tt hq0)))) (hq (fun g15 => (by have g15C := g15; rw [show ln (qTB qJ) = qgB qJ from ln_eq qLB _] at g15C; exact (hq g15 hq0))) (hq (fun _ => hq0) (hq (fun g17 => (by have g17C := g17; rw [show ln (qTB qJ) = qgB qJ from ln_eq qLB _, show ln (qKB qY) = qdC qY from ln_eq Str_c _] at g17C; exact (hq g17 (hq Tt hq0)))) (hq (fun g18 => (by have g18C := g18; rw [show ln (qTB qJ) = qgB qJ from ln_eq qLB _, show ln (qKB qY) = qdC qY from ln_eq Str_c _] at g18C; exact (hq g18 (hq Tt hq0)))) (hq (fun g19 => (by have g19C := g19; rw [show ln (qTB qJ) = qgB qJ from ln_eq qLB _] at g19C; exact (hq g19 (hq (fun q20 => (by have q20C := q20; rw [show ln (qKB qY) = qdC qY from ln_eq Str_c _] at q20C; exact (hq (bo_a g19 q20) hq0))) (hq (fun _ => hq0) hq0))))) (hq (fun _ => hq0) (hq (fun q23 => (by have q23C := q23; rw [show ln (qTB qJ) = qgB qJ from ln_eq qLB _] at q23C; exact (hq (bo_m q23) hq0))) hq0)))))))))))))))))))))))
 rw [show ln (qTB qJ) = qgB qJ from ln_eq qLB _]
 rw [show ln (qKB qY) = qdC qY from ln_eq Str_c _]
 refine Run.cond (by cbv) (hq0) (fun c24 => ?_) (fun c24 => ?_)
 ·
  have h := if_t c24 h
  refine Run.seq ?_
  refine Run.region hL hT [] (by cbv) hq0 ?_
  refine Run.ret ?_
  cases h
  refine ⟨_, _, by cbv, ?_, ?_⟩
  · exact LLe.r
  exact (ALe.v LLe.r ALe.nil)
 have h := if_f c24 h
 refine Run.skip ?_
 refine Run.seq ?_
 refine Run.seq ?_
 refine Run.region hL hT [] (by cbv) ?_ ?_
 · exact (hq Tt (hq Tt (hq (fun _ => hq0) (hq (fun g26 => (hq g26 (hq Tt hq0))) (hq (fun g27 => (hq g27 (hq Tt hq0))) (hq (fun q28 => (hq q28 hq0)) (hq (fun _ => hq0) (hq (fun _ => hq0) (hq (fun g31 => (hq g31 (hq Tt hq0))) (hq (fun g32 => (hq g32 (hq Tt hq0))) (hq (fun q33 => (hq q33 hq0)) (hq (fun _ => hq0) (hq (fun _ => hq0) (hq (fun g36 => (hq g36 (hq Tt hq0))) (hq (fun g37 => (hq g37 hq0)) (hq (fun g38 => (hq g38 hq0)) (hq (fun _ => hq0) (hq (fun g40 => (hq g40 (hq Tt hq0))) (hq (fun g41 => (hq g41 (hq Tt hq0))) (hq (fun g42 => (hq g42 (hq (fun q43 => (hq (bo_a g42 q43) hq0)) (hq (fun _ => hq0) hq0)))) (hq (fun _ => hq0) (hq (fun q46 => (hq (bo_m q46) hq0)) hq0))))))))))))))))))))))
 refine Run.cond (by cbv) (hq0) (fun c47 => ?_) (fun c47 => ?_)
 ·
  have h := if_t c47 h
  refine Run.seq ?_
  refine Run.region hL hT [] (by cbv) hq0 ?_
  refine Run.ret ?_
  cases h
  refine ⟨_, _, by cbv, ?_, ?_⟩
  · exact LLe.r
  exact (ALe.v LLe.r ALe.nil)
 have h := if_f c47 h
 refine Run.skip ?_
 refine Run.seq ?_
 refine Run.seq ?_
 refine Run.region hL hT [] (by cbv) ?_ ?_
 · exact (hq Tt hq0)
 refine Run.block ?_
 refine Run.seq ?_
 refine Run.region hL hT [] (by cbv) ?_ ?_
 · exact (hq Tt hq0)
 refine Run.cond (by cbv) (hq0) (fun c48 => ?_) (fun c48 => ?_)
 ·
  have h := if_t c48 h
  refine Run.seq ?_
  obtain ⟨r49, h_r49, h⟩ := bnd h
  refine Run.region hL hT [(2, .call [false, false, false] [.v (.jk), .v (.jk), .v (.jk)] [.v (.s (.bool r49))])] (by cbv) ?_ ?_
  · exact (hq Tt (hq (hC (qSB h_r49)) hq0))
  refine Run.ret ?_
  cases h
  refine ⟨_, _, by cbv, ?_, ?_⟩
  · exact LLe.r
  exact (ALe.v LLe.r ALe.nil)
 have h := if_f c48 h
 refine Run.seq ?_
 refine Run.region hL hT [] (by cbv) ?_ ?_
 · exact (hq Tt hq0)
 refine Run.cond (by cbv) (hq0) (fun c50 => ?_) (fun c50 => ?_)
 ·
  have h := if_t c50 h
  refine Run.seq ?_
  obtain ⟨r51, h_r51, h⟩ := bnd h
  refine Run.region hL hT [(2, .call [false] [.v (.jk)] [.v (.s (.bool r51))])] (by cbv) ?_ ?_
  · exact (hq Tt (hq (hC (qMI h_r51)) hq0))
  refine Run.ret ?_
  cases h
  refine ⟨_, _, by cbv, ?_, ?_⟩
  · exact LLe.r
  exact (ALe.v LLe.r ALe.nil)
 have h := if_f c50 h
 refine Run.seq ?_
 refine Run.region hL hT [] (by cbv) ?_ ?_
 · exact (hq Tt hq0)
 refine Run.cond (by cbv) (hq0) (fun c52 => ?_) (fun c52 => ?_)
 ·
  have h := if_t c52 h
  refine Run.seq ?_
  obtain ⟨r53, h_r53, h⟩ := bnd h
  refine Run.region hL hT [(2, .call [false] [.v (.jk)] [.v (.s (.bool r53))])] (by cbv) ?_ ?_
  · exact (hq Tt (hq (hC (quJ h_r53)) hq0))
  refine Run.ret ?_
  cases h
  refine ⟨_, _, by cbv, ?_, ?_⟩
  · exact LLe.r
  exact (ALe.v LLe.r ALe.nil)
 have h := if_f c52 h
 refine Run.seq ?_
 refine Run.region hL hT [] (by cbv) ?_ ?_
 · exact (hq Tt hq0)
 refine Run.cond (by cbv) (hq0) (fun c54 => ?_) (fun c54 => ?_)
 ·
  have h := if_t c54 h
  refine Run.seq ?_
  obtain ⟨r55, h_r55, h⟩ := bnd h
  refine Run.region hL hT [(10, .call [false] [.v (.jk)] [.v (.s (.bool r55))])] (by cbv) ?_ ?_
  · exact (hq Tt (hq Tt (hq Tt (hq (fun _ => hq0) (hq (fun g57 => (by have g57C := g57; rw [show ln (qTB qJ) = qgB qJ from ln_eq qLB _, show ln (qKB qY) = qdC qY from ln_eq Str_c _] at g57C; exact (hq g57 (hq Tt hq0)))) (hq (fun g58 => (by have g58C := g58; rw [show ln (qTB qJ) = qgB qJ from ln_eq qLB _, show ln (qKB qY) = qdC qY from ln_eq Str_c _] at g58C; exact (hq g58 (hq (hC (qWO (gd_t h_r55 g58C))) hq0)))) (hq (fun q59 => (by have q59C := q59; rw [show ln (qTB qJ) = qgB qJ from ln_eq qLB _, show ln (qKB qY) = qdC qY from ln_eq Str_c _] at q59C; exact (hq q59 hq0))) (hq (fun _ => hq0) hq0))))))))
  rw [show ln (qTB qJ) = qgB qJ from ln_eq qLB _]
  rw [show ln (qKB qY) = qdC qY from ln_eq Str_c _]
  refine Run.ret ?_
  cases h
  refine ⟨_, _, by cbv, ?_, ?_⟩
  · exact LLe.r
  exact (ALe.v LLe.r ALe.nil)
 have h := if_f c54 h
 refine Run.skip ?_
 refine Run.seq ?_
 refine Run.region hL hT [] (by cbv) ?_ ?_
 · exact (hq Tt (hq Tt (hq (fun _ => hq0) (hq (fun g62 => (hq g62 (hq Tt hq0))) (hq (fun g63 => (hq g63 (hq Tt hq0))) (hq (fun _ => hq0) (hq (fun q65 => (hq (bo_m q65) hq0)) hq0)))))))
 refine Run.ret ?_
 cases h
 refine ⟨_, _, by cbv, ?_, ?_⟩
 · exact LLe.r
 exact (ALe.v LLe.r ALe.nil)
theorem qXO (self : Json → Int → Option Int) (hself : ∀ {qHB : Int} {a0v_N : Int} {a0v_S : ByteArray} {qJ : List Json} {qY : List ByteArray} {a1 : Int} {r : Int} (h : self (Json.mk qHB a0v_N a0v_S qJ qY) a1 = some r), AC Tryz.prog 70 [.ag [.s (.int .i64 qHB), .s (.int .i64 a0v_N), .s (.string a0v_S), .im false (rowsOf qLB qJ), .im false (rowsOf Str_c qY)], .v (.s (.int .i64 a1))] [.ag [.jk, .jk, .jk, .jk, .jk], .v (.jk)] [.v (.s (.int .i64 r))]) {qHB : Int} {a0v_N : Int} {a0v_S : ByteArray} {qJ : List Json} {qY : List ByteArray} {a1 : Int} {r : Int} (h : qiB.b self (Json.mk qHB a0v_N a0v_S qJ qY) a1 = some r) : AC Tryz.prog 70 [.ag [.s (.int .i64 qHB), .s (.int .i64 a0v_N), .s (.string a0v_S), .im false (rowsOf qLB qJ), .im false (rowsOf Str_c qY)], .v (.s (.int .i64 a1))] [.ag [.jk, .jk, .jk, .jk, .jk], .v (.jk)] [.v (.s (.int .i64 r))] := by
 unfold qiB.b at h
 let qTB := rowsOf qLB
 let qKB := rowsOf Str_c
 let qgB := @lenI Json
 show AC Tryz.prog 70 [.ag [.s (.int .i64 qHB), .s (.int .i64 a0v_N), .s (.string a0v_S), .im false (qTB qJ), .im false (qKB qY)], .v (.s (.int .i64 a1))] _ _
 refine run3 Tryz.func70 (by rfl) (by rfl) (by cbv) ⟨by decide, rfl⟩ ?_
 intro ar cm bo sc sa sx ss sl bs sb ln sr ap up rp fr ge le lt nz mm ma sm fl al ci hL F hP hA hT hM hC
 refine Run.seq ?_
 refine Run.region hL hT [] (by cbv) hq0 ?_
 refine Run.seq ?_
 refine Run.seq ?_
 obtain ⟨r1, h_r1, h⟩ := bnd h
 refine Run.region hL hT [(4, .call [false] [.ag [.jk, .jk, .jk, .jk, .jk]] [.v (.s (.bool r1))])] (by cbv) ?_ ?_
 · exact (hq Tt (hq (fun g2 => (hq Tt hq0)) (hq (fun g3 => (hq g3 (hq (hC (qeR (gd_t h_r1 g3))) hq0))) (hq (fun g4 => (hq g4 hq0)) (hq (fun _ => hq0) (hq (fun q6 => (hq (bo_m q6) hq0)) hq0))))))
 refine Run.cond (by cbv) (hq0) (fun c7 => ?_) (fun c7 => ?_)
 ·
  have h := if_t c7 h
  refine Run.seq ?_
  refine Run.region hL hT [] (by cbv) hq0 ?_
  refine Run.ret ?_
  cases h
  refine ⟨_, _, by cbv, ?_, ?_⟩
  · exact LLe.r
  exact (ALe.v LLe.r ALe.nil)
 have h := if_f c7 h
 refine Run.skip ?_
 refine Run.seq ?_
 refine Run.region hL hT [] (by cbv) hq0 ?_
 refine Run.seq ?_
 refine Run.seq ?_
 refine Run.region hL hT [] (by cbv) ?_ ?_
 · exact (hq Tt hq0)
 rw [show ln (qTB qJ) = qgB qJ from ln_eq qLB _]
 refine Run.block ?_
 refine Run.loop2 (fun (z13 : Int) (z14 : Int) => ⟨32, 100000, [(1, .t (.s (.int .i64 a1))), (5, .t (.s (.int .i64 z13))), (16, .t (.im false (qTB qJ))), (17, .t (.s (.int .i64 (qgB qJ)))), (18, .t (.s (.int .i64 z14)))], []⟩) (x0 := 1) (x1 := 0) h (Weak.of _ [] hA (by cbv) ?_) (fun _ _ => rfl) ?_
 · repeat (first | exact hq0 | refine hq (by first | exact Tt | rfl) ?_)
 intro k z13 z14 h
 rw [qiB.l0] at h
 refine Run.seq ?_
 refine Run.region hL hT [] (by cbv) ?_ ?_
 · exact (hq Tt hq0)
 refine Run.seq ?_
 refine Run.cond (by cbv) (hq0) (fun c15 => ?_) (fun c15 => ?_)
 ·
  have h := if_t c15 h
  refine Run.skip ?_
  refine Run.seq ?_
  refine Run.block ?_
  refine Run.seq ?_
  obtain ⟨⟨qtY, qgd, qhd, qkW, qlW⟩, h_x16, h⟩ := bnd h
  refine Run.region hL hT [(0, .el [.s (.int .i64 qtY), .s (.int .i64 qgd), .s (.string qhd), .im false (qTB qkW), .im false (qKB qlW)])] (by cbv) ?_ ?_
  · exact (hq (qS h_x16) (hq (ql (f := qLB) h_x16) (hq (qsQ qHH h_x16) (hq Tt hq0))))
  refine Run.seq ?_
  obtain ⟨r17, h_r17, h⟩ := bnd h
  refine Run.region hL hT [(4, .call [false, false] [.ag [.jk, .jk, .jk, .jk, .jk], .v (.jk)] [.v (.s (.int .i64 r17))])] (by cbv) ?_ ?_
  · exact (hq Tt (hq Tt (hq (hC (hself h_r17)) (hq Tt hq0))))
  refine Run.seq ?_
  refine Run.region hL hT [] (by cbv) ?_ ?_
  · exact (hq Tt hq0)
  refine Run.cond (by cbv) (hq0) (fun c18 => ?_) (fun c18 => ?_)
  ·
   have h := if_t c18 h
   refine Run.seq ?_
   refine Run.region hL hT [] (by cbv) hq0 ?_
   refine Run.ret ?_
   cases h
   refine ⟨_, _, by cbv, ?_, ?_⟩
   · exact LLe.r
   exact (ALe.v LLe.r ALe.nil)
  have h := if_f c18 h
  refine Run.skip ?_
  refine Run.region hL hT [] (by cbv) ?_ ?_
  · exact (hq Tt hq0)
  refine ⟨(ar .add .i64 z13 r17), (ar .add .i64 z14 1), h, Weak.of _ [] hA (by cbv) ?_⟩
  repeat (first | exact hq0 | refine hq (by first | exact Tt | rfl) ?_)
 have h := if_f c15 h
 refine Run.exit ?_
 refine Run.seq ?_
 refine Run.region hL hT [] (by cbv) hq0 ?_
 refine Run.ret ?_
 cases h
 refine ⟨_, _, by cbv, ?_, ?_⟩
 · exact LLe.r
 exact (ALe.v LLe.r ALe.nil)
theorem qBJ : ∀ (k : Nat) {qHB : Int} {a0v_N : Int} {a0v_S : ByteArray} {qJ : List Json} {qY : List ByteArray} {a1 : Int} {r : Int} (h : qiB.g k (Json.mk qHB a0v_N a0v_S qJ qY) a1 = some r), AC Tryz.prog 70 [.ag [.s (.int .i64 qHB), .s (.int .i64 a0v_N), .s (.string a0v_S), .im false (rowsOf qLB qJ), .im false (rowsOf Str_c qY)], .v (.s (.int .i64 a1))] [.ag [.jk, .jk, .jk, .jk, .jk], .v (.jk)] [.v (.s (.int .i64 r))]
 | 0 => fun h => by cases h
 | k + 1 => fun h => qXO (qiB.g k) (qBJ k) h
theorem qQP {qHB : Int} {a0v_N : Int} {a0v_S : ByteArray} {qJ : List Json} {qY : List ByteArray} {a1 : Int} {r : Int} (h : qiB.f (Json.mk qHB a0v_N a0v_S qJ qY) a1 = some r) : AC Tryz.prog 70 [.ag [.s (.int .i64 qHB), .s (.int .i64 a0v_N), .s (.string a0v_S), .im false (rowsOf qLB qJ), .im false (rowsOf Str_c qY)], .v (.s (.int .i64 a1))] [.ag [.jk, .jk, .jk, .jk, .jk], .v (.jk)] [.v (.s (.int .i64 r))] := qBJ 20 h
theorem qVH {qHB : Int} {a0v_N : Int} {a0v_S : ByteArray} {qJ : List Json} {qY : List ByteArray} {r : Bool} (h : qCF.f (Json.mk qHB a0v_N a0v_S qJ qY) = some r) : AC Tryz.prog 25 [.ag [.s (.int .i64 qHB), .s (.int .i64 a0v_N), .s (.string a0v_S), .im false (rowsOf qLB qJ), .im false (rowsOf Str_c qY)]] [.ag [.jk, .jk, .jk, .jk, .jk]] [.v (.s (.bool r))] := by
 unfold qCF.f at h
 let qTB := rowsOf qLB
 let qKB := rowsOf Str_c
 show AC Tryz.prog 25 [.ag [.s (.int .i64 qHB), .s (.int .i64 a0v_N), .s (.string a0v_S), .im false (qTB qJ), .im false (qKB qY)]] _ _
 refine run3 Tryz.func25 (by rfl) (by rfl) (by cbv) ⟨by decide, rfl⟩ ?_
 intro ar cm bo sc sa sx ss sl bs sb ln sr ap up rp fr ge le lt nz mm ma sm fl al ci hL F hP hA hT hM hC
 refine Run.seq ?_
 refine Run.region hL hT [] (by cbv) hq0 ?_
 refine Run.seq ?_
 obtain ⟨r1, h_r1, h⟩ := bnd h
 refine Run.region hL hT [(1, .call [false, false] [.ag [.jk, .jk, .jk, .jk, .jk], .v (.jk)] [.v (.s (.int .i64 r1))])] (by cbv) ?_ ?_
 · exact (hq Tt (hq (hC (qQP h_r1)) (hq Tt hq0)))
 refine Run.ret ?_
 cases h
 refine ⟨_, _, by cbv, ?_, ?_⟩
 · exact LLe.r
 exact (ALe.v LLe.r ALe.nil)
theorem qjI {a0 : List ByteArray} {a1 : List ByteArray} {r : Bool} (h : qVB.f a0 a1 = some r) : AC Tryz.prog 114 [.v (.im false (rowsOf Str_c a0)), .v (.im false (rowsOf Str_c a1))] [.v (.jk), .v (.jk)] [.v (.s (.bool r))] := by
 unfold qVB.f at h
 let qKB := rowsOf Str_c
 let qdC := @lenI ByteArray
 show AC Tryz.prog 114 [.v (.im false (qKB a0)), .v (.im false (qKB a1))] _ _
 refine run3 Tryz.func114 (by rfl) (by rfl) (by cbv) ⟨by decide, rfl⟩ ?_
 intro ar cm bo sc sa sx ss sl bs sb ln sr ap up rp fr ge le lt nz mm ma sm fl al ci hL F hP hA hT hM hC
 refine Run.seq ?_
 refine Run.region hL hT [] (by cbv) hq0 ?_
 refine Run.seq ?_
 refine Run.seq ?_
 refine Run.region hL hT [] (by cbv) ?_ ?_
 · exact (hq Tt hq0)
 rw [show ln (qKB a0) = qdC a0 from ln_eq Str_c _]
 rw [show ln (qKB a1) = qdC a1 from ln_eq Str_c _]
 refine Run.cond (by cbv) (hq0) (fun c1 => ?_) (fun c1 => ?_)
 ·
  have h := if_t c1 h
  refine Run.seq ?_
  refine Run.region hL hT [] (by cbv) hq0 ?_
  refine Run.ret ?_
  cases h
  refine ⟨_, _, by cbv, ?_, ?_⟩
  · exact LLe.r
  exact (ALe.v LLe.r ALe.nil)
 have h := if_f c1 h
 refine Run.skip ?_
 refine Run.seq ?_
 refine Run.seq ?_
 refine Run.region hL hT [] (by cbv) hq0 ?_
 rw [show ln (qKB a0) = qdC a0 from ln_eq Str_c _]
 refine Run.block ?_
 refine Run.loop1 (fun (z6 : Int) => ⟨26, 100000, [(0, .t (.im false (qKB a0))), (1, .t (.im false (qKB a1))), (12, .t (.s (.int .i64 (qdC a0)))), (13, .t (.s (.int .i64 z6)))], []⟩) (x0 := 0) h (Weak.of _ [] hA (by cbv) ?_) (fun _ => rfl) ?_
 · repeat (first | exact hq0 | refine hq (by first | exact Tt | rfl) ?_)
 intro k z6 h
 rw [qVB.l0] at h
 refine Run.seq ?_
 refine Run.region hL hT [] (by cbv) ?_ ?_
 · exact (hq Tt hq0)
 refine Run.seq ?_
 refine Run.cond (by cbv) (hq0) (fun c7 => ?_) (fun c7 => ?_)
 ·
  have h := if_t c7 h
  refine Run.skip ?_
  refine Run.seq ?_
  refine Run.block ?_
  refine Run.seq ?_
  refine Run.region hL hT [] (by cbv) hq0 ?_
  refine Run.seq ?_
  obtain ⟨x8, h_x8, h⟩ := bnd h
  obtain ⟨x9, h_x9, h⟩ := bnd h
  refine Run.draw hL hT hM [(2, .el [.s (.string x8)]), (6, .el [.s (.string x9)])] (by cbv) (by cbv) (by cbv) (by cbv) (by cbv) ?_ ?_
  · exact (hq (qS h_x8) (hq (ql (f := Str_c) h_x8) (hq (qt (f := Str_c) h_x8) (hq (qS h_x9) (hq (ql (f := Str_c) h_x9) (hq (qt (f := Str_c) h_x9) hq0))))))
  refine Run.cond (by cbv) (hq0) (fun c10 => ?_) (fun c10 => ?_)
  ·
   have h := if_t c10 h
   refine Run.seq ?_
   refine Run.region hL hT [] (by cbv) hq0 ?_
   refine Run.ret ?_
   cases h
   refine ⟨_, _, by cbv, ?_, ?_⟩
   · exact LLe.r
   exact (ALe.v LLe.r ALe.nil)
  have h := if_f c10 h
  refine Run.skip ?_
  refine Run.region hL hT [] (by cbv) ?_ ?_
  · exact (hq Tt hq0)
  refine ⟨(ar .add .i64 z6 1), h, Weak.of _ [] hA (by cbv) ?_⟩
  repeat (first | exact hq0 | refine hq (by first | exact Tt | rfl) ?_)
 have h := if_f c7 h
 refine Run.exit ?_
 refine Run.seq ?_
 refine Run.region hL hT [] (by cbv) hq0 ?_
 refine Run.ret ?_
 cases h
 refine ⟨_, _, by cbv, ?_, ?_⟩
 · exact LLe.r
 exact (ALe.v LLe.r ALe.nil)
theorem qYE (self : Json → Json → Option Bool) (hself : ∀ {qHB : Int} {a0v_N : Int} {a0v_S : ByteArray} {qJ : List Json} {qY : List ByteArray} {qYB : Int} {a1v_N : Int} {a1v_S : ByteArray} {qhC : List Json} {qiC : List ByteArray} {r : Bool} (h : self (Json.mk qHB a0v_N a0v_S qJ qY) (Json.mk qYB a1v_N a1v_S qhC qiC) = some r), AC Tryz.prog 52 [.ag [.s (.int .i64 qHB), .s (.int .i64 a0v_N), .s (.string a0v_S), .im false (rowsOf qLB qJ), .im false (rowsOf Str_c qY)], .ag [.s (.int .i64 qYB), .s (.int .i64 a1v_N), .s (.string a1v_S), .im false (rowsOf qLB qhC), .im false (rowsOf Str_c qiC)]] [.ag [.jk, .jk, .jk, .jk, .jk], .ag [.jk, .jk, .jk, .jk, .jk]] [.v (.s (.bool r))]) {a0 : List Json} {a1 : List Json} {r : Bool} (h : qP.f self a0 a1 = some r) : AC Tryz.prog 115 [.v (.im false (rowsOf qLB a0)), .v (.im false (rowsOf qLB a1)), .v (.fn 52 [])] [.v (.jk), .v (.jk), .v (.jk)] [.v (.s (.bool r))] := by
 unfold qP.f at h
 let qTB := rowsOf qLB
 let qKB := rowsOf Str_c
 let qgB := @lenI Json
 show AC Tryz.prog 115 [.v (.im false (qTB a0)), .v (.im false (qTB a1)), .v (.fn 52 [])] _ _
 refine run3 Tryz.func115 (by rfl) (by rfl) (by cbv) ⟨by decide, rfl⟩ ?_
 intro ar cm bo sc sa sx ss sl bs sb ln sr ap up rp fr ge le lt nz mm ma sm fl al ci hL F hP hA hT hM hC
 refine Run.weak ?_ (Weak.fnT 2 (by cbv))
 refine Run.seq ?_
 refine Run.region hL hT [] (by cbv) hq0 ?_
 refine Run.seq ?_
 refine Run.seq ?_
 refine Run.region hL hT [] (by cbv) ?_ ?_
 · exact (hq Tt hq0)
 rw [show ln (qTB a0) = qgB a0 from ln_eq qLB _]
 rw [show ln (qTB a1) = qgB a1 from ln_eq qLB _]
 refine Run.cond (by cbv) (hq0) (fun c1 => ?_) (fun c1 => ?_)
 ·
  have h := if_t c1 h
  refine Run.seq ?_
  refine Run.region hL hT [] (by cbv) hq0 ?_
  refine Run.ret ?_
  cases h
  refine ⟨_, _, by cbv, ?_, ?_⟩
  · exact LLe.r
  exact (ALe.v LLe.r ALe.nil)
 have h := if_f c1 h
 refine Run.skip ?_
 refine Run.seq ?_
 refine Run.seq ?_
 refine Run.region hL hT [] (by cbv) hq0 ?_
 rw [show ln (qTB a0) = qgB a0 from ln_eq qLB _]
 refine Run.block ?_
 refine Run.loop1 (fun (z6 : Int) => ⟨32, 100000, [(1, .t (.im false (qTB a1))), (2, .fn 52 []), (15, .t (.im false (qTB a0))), (16, .t (.s (.int .i64 (qgB a0)))), (17, .t (.s (.int .i64 z6)))], []⟩) (x0 := 0) h (Weak.of _ [] hA (by cbv) ?_) (fun _ => rfl) ?_
 · repeat (first | exact hq0 | refine hq (by first | exact Tt | rfl) ?_)
 intro k z6 h
 rw [qP.l0] at h
 refine Run.seq ?_
 refine Run.region hL hT [] (by cbv) ?_ ?_
 · exact (hq Tt hq0)
 refine Run.seq ?_
 refine Run.cond (by cbv) (hq0) (fun c7 => ?_) (fun c7 => ?_)
 ·
  have h := if_t c7 h
  refine Run.skip ?_
  refine Run.seq ?_
  refine Run.block ?_
  refine Run.seq ?_
  obtain ⟨⟨qBb, x8v_N, x8v_S, quY, qvY⟩, h_x8, h⟩ := bnd h
  refine Run.region hL hT [(1, .el [.s (.int .i64 qBb), .s (.int .i64 x8v_N), .s (.string x8v_S), .im false (qTB quY), .im false (qKB qvY)])] (by cbv) ?_ ?_
  · exact (hq (qS h_x8) (hq (ql (f := qLB) h_x8) (hq (qsQ qHH h_x8) (hq Tt hq0))))
  refine Run.seq ?_
  obtain ⟨⟨qCb, x9v_N, x9v_S, qwY, qxY⟩, h_x9, h⟩ := bnd h
  refine Run.region hL hT [(2, .el [.s (.int .i64 qCb), .s (.int .i64 x9v_N), .s (.string x9v_S), .im false (qTB qwY), .im false (qKB qxY)])] (by cbv) ?_ ?_
  · exact (hq (qS h_x9) (hq (ql (f := qLB) h_x9) (hq (qsQ qHH h_x9) (hq Tt hq0))))
  refine Run.seq ?_
  obtain ⟨r10, h_r10, h⟩ := bnd h
  refine Run.region hL hT [(3, .call [false, false] [.ag [.jk, .jk, .jk, .jk, .jk], .ag [.jk, .jk, .jk, .jk, .jk]] [.v (.s (.bool r10))])] (by cbv) ?_ ?_
  · exact (hq Tt (hq Tt (hq (hC (hself h_r10)) hq0)))
  refine Run.cond (by cbv) (hq0) (fun c11 => ?_) (fun c11 => ?_)
  ·
   have h := if_t c11 h
   refine Run.seq ?_
   refine Run.region hL hT [] (by cbv) hq0 ?_
   refine Run.ret ?_
   cases h
   refine ⟨_, _, by cbv, ?_, ?_⟩
   · exact LLe.r
   exact (ALe.v LLe.r ALe.nil)
  have h := if_f c11 h
  refine Run.skip ?_
  refine Run.region hL hT [] (by cbv) ?_ ?_
  · exact (hq Tt hq0)
  refine ⟨(ar .add .i64 z6 1), h, Weak.of _ [] hA (by cbv) ?_⟩
  repeat (first | exact hq0 | refine hq (by first | exact Tt | rfl) ?_)
 have h := if_f c7 h
 refine Run.exit ?_
 refine Run.seq ?_
 refine Run.region hL hT [] (by cbv) hq0 ?_
 refine Run.ret ?_
 cases h
 refine ⟨_, _, by cbv, ?_, ?_⟩
 · exact LLe.r
 exact (ALe.v LLe.r ALe.nil)
theorem qRP (self : Json → Json → Option Bool) (hself : ∀ {qHB : Int} {a0v_N : Int} {a0v_S : ByteArray} {qJ : List Json} {qY : List ByteArray} {qYB : Int} {a1v_N : Int} {a1v_S : ByteArray} {qhC : List Json} {qiC : List ByteArray} {r : Bool} (h : self (Json.mk qHB a0v_N a0v_S qJ qY) (Json.mk qYB a1v_N a1v_S qhC qiC) = some r), AC Tryz.prog 52 [.ag [.s (.int .i64 qHB), .s (.int .i64 a0v_N), .s (.string a0v_S), .im false (rowsOf qLB qJ), .im false (rowsOf Str_c qY)], .ag [.s (.int .i64 qYB), .s (.int .i64 a1v_N), .s (.string a1v_S), .im false (rowsOf qLB qhC), .im false (rowsOf Str_c qiC)]] [.ag [.jk, .jk, .jk, .jk, .jk], .ag [.jk, .jk, .jk, .jk, .jk]] [.v (.s (.bool r))]) {qHB : Int} {a0v_N : Int} {a0v_S : ByteArray} {qJ : List Json} {qY : List ByteArray} {qYB : Int} {a1v_N : Int} {a1v_S : ByteArray} {qhC : List Json} {qiC : List ByteArray} {r : Bool} (h : qrC.b self (Json.mk qHB a0v_N a0v_S qJ qY) (Json.mk qYB a1v_N a1v_S qhC qiC) = some r) : AC Tryz.prog 52 [.ag [.s (.int .i64 qHB), .s (.int .i64 a0v_N), .s (.string a0v_S), .im false (rowsOf qLB qJ), .im false (rowsOf Str_c qY)], .ag [.s (.int .i64 qYB), .s (.int .i64 a1v_N), .s (.string a1v_S), .im false (rowsOf qLB qhC), .im false (rowsOf Str_c qiC)]] [.ag [.jk, .jk, .jk, .jk, .jk], .ag [.jk, .jk, .jk, .jk, .jk]] [.v (.s (.bool r))] := by
 unfold qrC.b at h
 let qTB := rowsOf qLB
 let qKB := rowsOf Str_c
 show AC Tryz.prog 52 [.ag [.s (.int .i64 qHB), .s (.int .i64 a0v_N), .s (.string a0v_S), .im false (qTB qJ), .im false (qKB qY)], .ag [.s (.int .i64 qYB), .s (.int .i64 a1v_N), .s (.string a1v_S), .im false (qTB qhC), .im false (qKB qiC)]] _ _
 refine run3 Tryz.func52 (by rfl) (by rfl) (by cbv) ⟨by decide, rfl⟩ ?_
 intro ar cm bo sc sa sx ss sl bs sb ln sr ap up rp fr ge le lt nz mm ma sm fl al ci hL F hP hA hT hM hC
 refine Run.seq ?_
 refine Run.region hL hT [] (by cbv) hq0 ?_
 refine Run.seq ?_
 obtain ⟨r1, h_r1, h⟩ := bnd h
 obtain ⟨r2, h_r2, h⟩ := bnd h
 refine Run.region hL hT [(24, .call [false, false] [.v (.jk), .v (.jk)] [.v (.s (.bool r1))]), (31, .call [false, false, false] [.v (.jk), .v (.jk), .v (.jk)] [.v (.s (.bool r2))])] (by cbv) ?_ ?_
 · exact (hq Tt (hq Tt (hq Tt (hq (fun _ => hq0) (hq (fun g4 => (hq g4 (hq Tt hq0))) (hq (fun _ => hq0) (hq (fun g6 => (hq g6 (hq Tt hq0))) (hq (fun g7 => (hq g7 (hq g7 (hq Tt hq0)))) (hq (fun q8 => (hq q8 hq0)) (hq (fun _ => hq0) (hq (fun _ => hq0) (hq (fun g11 => (hq g11 (hq Tt hq0))) (hq (fun _ => hq0) (hq (fun g13 => (hq g13 (hq Tt hq0))) (hq (fun g14 => (hq g14 (hq g14 hq0))) (hq (fun q15 => (hq q15 hq0)) (hq (fun _ => hq0) (hq (fun _ => hq0) (hq (fun g18 => (hq g18 (hq Tt hq0))) (hq (fun _ => hq0) (hq (fun g20 => (hq g20 (hq Tt hq0))) (hq (fun g21 => (hq g21 (hq g21 (hq (hC (qjI (gd_t h_r1 g21))) hq0)))) (hq (fun q22 => (hq q22 hq0)) (hq (fun _ => hq0) (hq (fun _ => hq0) (hq (fun g25 => (hq g25 (hq Tt hq0))) (hq (fun _ => hq0) (hq (fun g27 => (hq g27 (hq Tt hq0))) (hq (fun g28 => (hq g28 (hq g28 (hq (hC (qYE self hself (gd_t h_r2 g28))) hq0)))) (hq (fun q29 => (hq q29 hq0)) (hq (fun _ => hq0) hq0)))))))))))))))))))))))))))))))
 refine Run.ret ?_
 cases h
 refine ⟨_, _, by cbv, ?_, ?_⟩
 · exact LLe.r
 exact (ALe.v LLe.r ALe.nil)
theorem qvJ : ∀ (k : Nat) {qHB : Int} {a0v_N : Int} {a0v_S : ByteArray} {qJ : List Json} {qY : List ByteArray} {qYB : Int} {a1v_N : Int} {a1v_S : ByteArray} {qhC : List Json} {qiC : List ByteArray} {r : Bool} (h : qrC.g k (Json.mk qHB a0v_N a0v_S qJ qY) (Json.mk qYB a1v_N a1v_S qhC qiC) = some r), AC Tryz.prog 52 [.ag [.s (.int .i64 qHB), .s (.int .i64 a0v_N), .s (.string a0v_S), .im false (rowsOf qLB qJ), .im false (rowsOf Str_c qY)], .ag [.s (.int .i64 qYB), .s (.int .i64 a1v_N), .s (.string a1v_S), .im false (rowsOf qLB qhC), .im false (rowsOf Str_c qiC)]] [.ag [.jk, .jk, .jk, .jk, .jk], .ag [.jk, .jk, .jk, .jk, .jk]] [.v (.s (.bool r))]
 | 0 => fun h => by cases h
 | k + 1 => fun h => qRP (qrC.g k) (qvJ k) h
theorem qfR {qHB : Int} {a0v_N : Int} {a0v_S : ByteArray} {qJ : List Json} {qY : List ByteArray} {qYB : Int} {a1v_N : Int} {a1v_S : ByteArray} {qhC : List Json} {qiC : List ByteArray} {r : Bool} (h : qrC.f (Json.mk qHB a0v_N a0v_S qJ qY) (Json.mk qYB a1v_N a1v_S qhC qiC) = some r) : AC Tryz.prog 52 [.ag [.s (.int .i64 qHB), .s (.int .i64 a0v_N), .s (.string a0v_S), .im false (rowsOf qLB qJ), .im false (rowsOf Str_c qY)], .ag [.s (.int .i64 qYB), .s (.int .i64 a1v_N), .s (.string a1v_S), .im false (rowsOf qLB qhC), .im false (rowsOf Str_c qiC)]] [.ag [.jk, .jk, .jk, .jk, .jk], .ag [.jk, .jk, .jk, .jk, .jk]] [.v (.s (.bool r))] := qvJ 20 h
theorem qjM {qHB : Int} {a0v_N : Int} {a0v_S : ByteArray} {qJ : List Json} {qY : List ByteArray} {qYB : Int} {a1v_N : Int} {a1v_S : ByteArray} {qhC : List Json} {qiC : List ByteArray} {r : Bool} (h : qjE.f (Json.mk qHB a0v_N a0v_S qJ qY) (Json.mk qYB a1v_N a1v_S qhC qiC) = some r) : AC Tryz.prog 13 [.ag [.s (.int .i64 qHB), .s (.int .i64 a0v_N), .s (.string a0v_S), .im false (rowsOf qLB qJ), .im false (rowsOf Str_c qY)], .ag [.s (.int .i64 qYB), .s (.int .i64 a1v_N), .s (.string a1v_S), .im false (rowsOf qLB qhC), .im false (rowsOf Str_c qiC)]] [.ag [.jk, .jk, .jk, .jk, .jk], .ag [.jk, .jk, .jk, .jk, .jk]] [.v (.s (.bool r))] := by
 unfold qjE.f at h
 let qTB := rowsOf qLB
 let qKB := rowsOf Str_c
 show AC Tryz.prog 13 [.ag [.s (.int .i64 qHB), .s (.int .i64 a0v_N), .s (.string a0v_S), .im false (qTB qJ), .im false (qKB qY)], .ag [.s (.int .i64 qYB), .s (.int .i64 a1v_N), .s (.string a1v_S), .im false (qTB qhC), .im false (qKB qiC)]] _ _
 refine run3 Tryz.func13 (by rfl) (by rfl) (by cbv) ⟨by decide, rfl⟩ ?_
 intro ar cm bo sc sa sx ss sl bs sb ln sr ap up rp fr ge le lt nz mm ma sm fl al ci hL F hP hA hT hM hC
 refine Run.seq ?_
 refine Run.region hL hT [] (by cbv) hq0 ?_
 refine Run.seq ?_
 obtain ⟨r1, h_r1, h⟩ := bnd h
 obtain ⟨r2, h_r2, h⟩ := bnd h
 obtain ⟨r3, h_r3, h⟩ := bnd h
 refine Run.region hL hT [(1, .call [false] [.ag [.jk, .jk, .jk, .jk, .jk]] [.v (.s (.bool r1))]), (4, .call [false] [.ag [.jk, .jk, .jk, .jk, .jk]] [.v (.s (.bool r2))]), (9, .call [false, false] [.ag [.jk, .jk, .jk, .jk, .jk], .ag [.jk, .jk, .jk, .jk, .jk]] [.v (.s (.bool r3))])] (by cbv) ?_ ?_
 · exact (hq Tt (hq (hC (qVH h_r1)) (hq (fun g4 => (hq Tt hq0)) (hq (fun g5 => (hq g5 (hq (hC (qVH (gd_t h_r2 g5))) hq0))) (hq (fun q6 => (hq q6 hq0)) (hq (fun _ => hq0) (hq (fun g8 => (hq Tt hq0)) (hq (fun g9 => (hq Tt hq0)) (hq (fun g10 => (hq g10 (hq g10 (hq (hC (qfR (gd_t h_r3 g10))) hq0)))) (hq (fun q11 => (hq q11 hq0)) (hq (fun _ => hq0) hq0)))))))))))
 refine Run.ret ?_
 cases h
 refine ⟨_, _, by cbv, ?_, ?_⟩
 · exact LLe.r
 exact (ALe.v LLe.r ALe.nil)
theorem qoL {a0 : Int} {r : Bool} (h : qTE.f a0 = some r) : AC Tryz.prog 100 [.v (.s (.int .i64 a0))] [.v (.jk)] [.v (.s (.bool r))] := by
 unfold qTE.f at h
 show AC Tryz.prog 100 [.v (.s (.int .i64 a0))] _ _
 refine run3 Tryz.func100 (by rfl) (by rfl) (by cbv) ⟨by decide, rfl⟩ ?_
 intro ar cm bo sc sa sx ss sl bs sb ln sr ap up rp fr ge le lt nz mm ma sm fl al ci hL F hP hA hT hM hC
 refine Run.seq ?_
 refine Run.region hL hT [] (by cbv) hq0 ?_
 refine Run.seq ?_
 obtain ⟨r1, h_r1, h⟩ := bnd h
 refine Run.region hL hT [(1, .call [false, false, false] [.v (.jk), .v (.jk), .v (.jk)] [.v (.s (.bool r1))])] (by cbv) ?_ ?_
 · exact (hq (hC (qSB h_r1)) hq0)
 refine Run.ret ?_
 cases h
 refine ⟨_, _, by cbv, ?_, ?_⟩
 · exact LLe.r
 exact (ALe.v LLe.r ALe.nil)
theorem qFL {qK : List Int} {a1 : Int} {qKH : Int} {qhB : List Int} {r : Bool} (h : qPD.f (Schema.mk qK) a1 (Row.mk qKH qhB) = some r) : AC Tryz.prog 75 [.ag [.im false (rowsOf Int_c qK)], .v (.s (.int .i64 a1)), .ag [.s (.int .i64 qKH), .im false (rowsOf Int_c qhB)]] [.ag [.jk], .v (.jk), .ag [.jk, .jk]] [.v (.s (.bool r))] := by
 unfold qPD.f at h
 let qB := rowsOf Int_c
 let qQ := @lenI Int
 show AC Tryz.prog 75 [.ag [.im false (qB qK)], .v (.s (.int .i64 a1)), .ag [.s (.int .i64 qKH), .im false (qB qhB)]] _ _
 refine run3 Tryz.func75 (by rfl) (by rfl) (by cbv) ⟨by decide, rfl⟩ ?_
 intro ar cm bo sc sa sx ss sl bs sb ln sr ap up rp fr ge le lt nz mm ma sm fl al ci hL F hP hA hT hM hC
 refine Run.seq ?_
 refine Run.region hL hT [] (by cbv) hq0 ?_
 obtain ⟨K2, h_K2, h⟩ := joinE h
 refine Run.join1 K2 (r := r) (fun (y1 : Unit) => ⟨43, 100000, [(1, .t (.s (.int .i64 a1))), (3, .pt 1 0 0), (5, .pt 2 0 0)], [(1, .box 26 [.t (.im false (qB qK))]), (2, .box 56 [.t (.s (.int .i64 qKH)), .t (.im false (qB qhB))])]⟩) ?_ ?_
 ·
  skip
  refine Run.seq ?_
  refine Run.region hL hT [] (by cbv) ?_ ?_
  · exact (hq Tt hq0)
  rw [show ln (qB qhB) = qQ qhB from ln_eq Int_c _]
  refine Run.block ?_
  refine Run.loop1 (fun (z10 : Int) => ⟨43, 100000, [(1, .t (.s (.int .i64 a1))), (3, .pt 1 0 0), (5, .pt 2 0 0), (10, .t (.im false (qB qhB))), (11, .t (.s (.int .i64 (qQ qhB)))), (12, .t (.s (.int .i64 z10)))], [(1, .box 26 [.t (.im false (qB qK))]), (2, .box 56 [.t (.s (.int .i64 qKH)), .t (.im false (qB qhB))])]⟩) (x0 := 0) h (Weak.of _ [(1, 0), (2, 1)] hA (by cbv) ?_) (fun _ => rfl) ?_
  · repeat (first | exact hq0 | refine hq (by first | exact Tt | rfl) ?_)
  intro k z10 h
  rw [qPD.l0] at h
  refine Run.seq ?_
  refine Run.region hL hT [] (by cbv) ?_ ?_
  · exact (hq Tt hq0)
  refine Run.seq ?_
  refine Run.cond (by cbv) (hq0) (fun c11 => ?_) (fun c11 => ?_)
  ·
   have h := if_t c11 h
   refine Run.skip ?_
   refine Run.seq ?_
   refine Run.block ?_
   refine Run.seq ?_
   obtain ⟨x12, h_x12, h⟩ := bnd h
   refine Run.region hL hT [(0, .el [.s (.int .i64 x12)])] (by cbv) ?_ ?_
   · exact (hq (qS h_x12) (hq (ql (f := Int_c) h_x12) (hq (qt (f := Int_c) h_x12) hq0)))
   refine Run.seq ?_
   obtain ⟨r13, h_r13, h⟩ := bnd h
   refine Run.region hL hT [(1, .call [false] [.v (.jk)] [.v (.s (.bool r13))])] (by cbv) ?_ ?_
   · exact (hq (hC (qMI h_r13)) hq0)
   refine Run.cond (by cbv) (hq0) (fun c14 => ?_) (fun c14 => ?_)
   ·
    have h := if_t c14 h
    refine Run.seq ?_
    refine Run.region hL hT [] (by cbv) hq0 ?_
    refine Run.ret ?_
    cases h
    refine ⟨_, _, by cbv, ?_, ?_⟩
    · exact LLe.r
    exact (ALe.v LLe.r ALe.nil)
   have h := if_f c14 h
   refine Run.skip ?_
   refine Run.region hL hT [] (by cbv) ?_ ?_
   · exact (hq Tt hq0)
   refine ⟨(ar .add .i64 z10 1), h, Weak.of _ [(1, 1), (2, 2)] hA (by cbv) ?_⟩
   repeat (first | exact hq0 | refine hq (by first | exact Tt | rfl) ?_)
  have h := if_f c11 h
  refine Run.exit ?_
  refine ⟨(), h, Weak.of _ [(1, 1), (2, 2)] hA (by cbv) ?_⟩
  repeat (first | exact hq0 | refine hq (by first | exact Tt | rfl) ?_)
 intro y1 h
 rw [h_K2] at h
 refine Run.seq ?_
 obtain ⟨r15, h_r15, h⟩ := bnd h
 obtain ⟨r16, h_r16, h⟩ := bnd h
 obtain ⟨x17, h_x17, h⟩ := bnd h
 obtain ⟨r18, h_r18, h⟩ := bnd h
 refine Run.draw hL hT hM [(1, .call [false] [.ag [.jk]] [.v (.s (.bool r15))]), (5, .call [false, false] [.ag [.jk], .v (.jk)] [.v (.s (.bool r16))]), (14, .el [.s (.int .i64 x17)]), (21, .call [false, false, false] [.v (.jk), .v (.jk), .v (.jk)] [.v (.s (.bool r18))])] (by cbv) (by cbv) (by cbv) (by cbv) (by cbv) ?_ ?_
 · exact (hq Tt (hq (hC (qME h_r15)) (hq (fun g19 => (hq Tt hq0)) (hq (fun _ => hq0) (hq (fun g21 => (hq g21 (hq g21 (hq (hC (qLE (gd_t h_r16 g21))) hq0)))) (hq (fun q22 => (hq q22 hq0)) (hq (fun _ => hq0) (hq (fun _ => hq0) (hq (fun g25 => (hq g25 (hq Tt hq0))) (hq (fun g26 => (hq g26 hq0)) (hq (fun _ => hq0) (hq (fun g28 => (hq g28 (hq Tt hq0))) (hq (fun _ => hq0) (hq (fun g30 => (hq g30 (hq g30 (hq (qS (gd_t h_x17 g30)) (hq (ql (f := Int_c) (gd_t h_x17 g30)) (hq (qt (f := Int_c) (gd_t h_x17 g30)) hq0)))))) (hq (fun g31 => (hq g31 hq0)) (hq (fun g32 => (hq g32 (hq g32 (hq Tt hq0)))) (hq (fun q33 => (hq q33 hq0)) (hq (fun _ => hq0) (hq (fun _ => hq0) (hq (fun g36 => (by have g36C := g36; rw [show ln (qB qhB) = qQ qhB from ln_eq Int_c _] at g36C; exact (hq g36 (hq Tt hq0)))) (hq (fun g37 => (by have g37C := g37; rw [show ln (qB qhB) = qQ qhB from ln_eq Int_c _] at g37C; exact (hq g37 (hq (hC (qSB (gd_t h_r18 g37C))) hq0)))) (hq (fun q38 => (by have q38C := q38; rw [show ln (qB qhB) = qQ qhB from ln_eq Int_c _] at q38C; exact (hq q38 hq0))) (hq (fun _ => hq0) hq0)))))))))))))))))))))))
 rw [show ln (qB qhB) = qQ qhB from ln_eq Int_c _]
 refine Run.ret ?_
 cases h
 refine ⟨_, _, by cbv, ?_, ?_⟩
 · exact LLe.r
 exact (ALe.v LLe.r ALe.nil)
theorem qSP {qK : List Int} {a1 : Int} {a2 : List Row} {r : Bool} (h : qCD.f (Schema.mk qK) a1 a2 = some r) : AC Tryz.prog 101 [.ag [.im false (rowsOf Int_c qK)], .v (.s (.int .i64 a1)), .v (.im false (rowsOf Row_i a2))] [.ag [.jk], .v (.jk), .v (.jk)] [.v (.s (.bool r))] := by
 unfold qCD.f at h
 let qB := rowsOf Int_c
 let qAB := rowsOf Row_i
 let qm := @lenI Row
 show AC Tryz.prog 101 [.ag [.im false (qB qK)], .v (.s (.int .i64 a1)), .v (.im false (qAB a2))] _ _
 refine run3 Tryz.func101 (by rfl) (by rfl) (by cbv) ⟨by decide, rfl⟩ ?_
 intro ar cm bo sc sa sx ss sl bs sb ln sr ap up rp fr ge le lt nz mm ma sm fl al ci hL F hP hA hT hM hC
 refine Run.seq ?_
 refine Run.region hL hT [] (by cbv) hq0 ?_
 obtain ⟨K2, h_K2, h⟩ := joinE h
 refine Run.join1 K2 (r := r) (fun (y1 : Unit) => ⟨49, 100000, [(1, .t (.s (.int .i64 a1))), (2, .t (.im false (qAB a2))), (3, .pt 1 0 0)], [(1, .box 26 [.t (.im false (qB qK))])]⟩) ?_ ?_
 ·
  skip
  refine Run.seq ?_
  refine Run.region hL hT [] (by cbv) hq0 ?_
  rw [show ln (qAB a2) = qm a2 from ln_eq Row_i _]
  refine Run.block ?_
  refine Run.loop1 (fun (z9 : Int) => ⟨49, 100000, [(1, .t (.s (.int .i64 a1))), (2, .t (.im false (qAB a2))), (3, .pt 1 0 0), (9, .t (.im false (qAB a2))), (10, .t (.s (.int .i64 (qm a2)))), (11, .t (.s (.int .i64 z9)))], [(1, .box 26 [.t (.im false (qB qK))])]⟩) (x0 := 0) h (Weak.of _ [(1, 0)] hA (by cbv) ?_) (fun _ => rfl) ?_
  · repeat (first | exact hq0 | refine hq (by first | exact Tt | rfl) ?_)
  intro k z9 h
  rw [qCD.l0] at h
  refine Run.seq ?_
  refine Run.region hL hT [] (by cbv) ?_ ?_
  · exact (hq Tt hq0)
  refine Run.seq ?_
  refine Run.cond (by cbv) (hq0) (fun c10 => ?_) (fun c10 => ?_)
  ·
   have h := if_t c10 h
   refine Run.skip ?_
   refine Run.seq ?_
   refine Run.block ?_
   refine Run.seq ?_
   obtain ⟨⟨qjU, qpL⟩, h_x11, h⟩ := bnd h
   refine Run.region hL hT [(1, .el [.s (.int .i64 qjU), .im false (qB qpL)])] (by cbv) ?_ ?_
   · exact (hq (qS h_x11) (hq (ql (f := Row_i) h_x11) (hq (qt (f := Row_i) h_x11) (hq Tt hq0))))
   refine Run.seq ?_
   obtain ⟨r12, h_r12, h⟩ := bnd h
   obtain ⟨⟨qpc, qmW⟩, h_x13, h⟩ := bnd h
   refine Run.draw hL hT hM [(3, .call [false, false, false] [.ag [.jk], .v (.jk), .ag [.jk, .jk]] [.v (.s (.bool r12))]), (12, .el [.s (.int .i64 qpc), .im false (qB qmW)])] (by cbv) (by cbv) (by cbv) (by cbv) (by cbv) ?_ ?_
   · exact (hq Tt (hq Tt (hq (hC (qFL h_r12)) (hq (fun _ => hq0) (hq (fun g15 => (hq g15 (hq Tt hq0))) (hq (fun g16 => (hq g16 hq0)) (hq (fun _ => hq0) (hq (fun _ => hq0) (hq (fun g19 => (hq g19 (hq Tt hq0))) (hq (fun g20 => (hq g20 (hq g20 (hq (qS (gd_t h_x13 g20)) (hq (ql (f := Row_i) (gd_t h_x13 g20)) (hq (qt (f := Row_i) (gd_t h_x13 g20)) hq0)))))) (hq (fun g21 => (hq g21 hq0)) (hq (fun g22 => (hq g22 hq0)) (hq (fun _ => hq0) (hq (fun g24 => (hq g24 (hq Tt hq0))) (hq (fun g25 => (hq g25 (hq g25 (hq Tt hq0)))) (hq (fun g26 => (hq g26 (hq (fun q27 => (hq (bo_a g26 q27) hq0)) (hq (fun _ => hq0) hq0)))) (hq (fun _ => hq0) (hq (fun q30 => (hq (bo_m q30) hq0)) hq0))))))))))))))))))
   refine Run.cond (by cbv) (hq0) (fun c31 => ?_) (fun c31 => ?_)
   ·
    have h := if_t c31 h
    refine Run.seq ?_
    refine Run.region hL hT [] (by cbv) hq0 ?_
    refine Run.ret ?_
    cases h
    refine ⟨_, _, by cbv, ?_, ?_⟩
    · exact LLe.r
    exact (ALe.v LLe.r ALe.nil)
   have h := if_f c31 h
   refine Run.skip ?_
   refine Run.region hL hT [] (by cbv) ?_ ?_
   · exact (hq Tt hq0)
   refine ⟨(ar .add .i64 z9 1), h, Weak.of _ [(1, 1)] hA (by cbv) ?_⟩
   repeat (first | exact hq0 | refine hq (by first | exact Tt | rfl) ?_)
  have h := if_f c10 h
  refine Run.exit ?_
  refine ⟨(), h, Weak.of _ [(1, 1)] hA (by cbv) ?_⟩
  repeat (first | exact hq0 | refine hq (by first | exact Tt | rfl) ?_)
 intro y1 h
 rw [h_K2] at h
 refine Run.seq ?_
 obtain ⟨r32, h_r32, h⟩ := bnd h
 obtain ⟨r33, h_r33, h⟩ := bnd h
 refine Run.region hL hT [(1, .call [false] [.ag [.jk]] [.v (.s (.bool r32))]), (5, .call [false, false] [.ag [.jk], .v (.jk)] [.v (.s (.bool r33))])] (by cbv) ?_ ?_
 · exact (hq Tt (hq (hC (qME h_r32)) (hq (fun g34 => (hq Tt hq0)) (hq (fun _ => hq0) (hq (fun g36 => (hq g36 (hq g36 (hq (hC (qLE (gd_t h_r33 g36))) hq0)))) (hq (fun q37 => (hq q37 hq0)) (hq (fun _ => hq0) (hq (fun _ => hq0) (hq (fun g40 => (hq g40 hq0)) (hq (fun g41 => (hq g41 (hq Tt hq0))) (hq (fun q42 => (hq q42 hq0)) (hq (fun _ => hq0) hq0))))))))))))
 rw [show ln (qAB a2) = qm a2 from ln_eq Row_i _]
 refine Run.ret ?_
 cases h
 refine ⟨_, _, by cbv, ?_, ?_⟩
 · exact LLe.r
 exact (ALe.v LLe.r ALe.nil)
theorem qrD {qE : List Int} {qL : Int} {qI : List (List Row)} {r : Bool} (h : quB.f (Store.mk (Schema.mk qE) qL qI) = some r) : AC Tryz.prog 42 [.ag [.im false (rowsOf Int_c qE), .s (.int .i64 qL), .im false (rowsOf qZB qI)]] [.ag [.jk, .jk, .jk]] [.v (.s (.bool r))] := by
 unfold quB.f at h
 let qB := rowsOf Int_c
 let qMB := rowsOf qZB
 let qAB := rowsOf Row_i
 let qQ := @lenI Int
 let qRC := @lenI (List Row)
 show AC Tryz.prog 42 [.ag [.im false (qB qE), .s (.int .i64 qL), .im false (qMB qI)]] _ _
 refine run3 Tryz.func42 (by rfl) (by rfl) (by cbv) ⟨by decide, rfl⟩ ?_
 intro ar cm bo sc sa sx ss sl bs sb ln sr ap up rp fr ge le lt nz mm ma sm fl al ci hL F hP hA hT hM hC
 refine Run.seq ?_
 refine Run.region hL hT [] (by cbv) hq0 ?_
 refine Run.seq ?_
 refine Run.seq ?_
 obtain ⟨r1, h_r1, h⟩ := bnd h
 obtain ⟨r2, h_r2, h⟩ := bnd h
 refine Run.region hL hT [(2, .call [false] [.ag [.jk]] [.v (.s (.bool r1))]), (7, .call [false] [.v (.jk)] [.v (.s (.bool r2))])] (by cbv) ?_ ?_
 · exact (hq Tt (hq (hC (qME h_r1)) (hq (fun _ => hq0) (hq (fun g4 => (hq g4 (hq Tt hq0))) (hq (fun g5 => (hq g5 (hq (hC (qoL (gd_t h_r2 g5))) hq0))) (hq (fun g6 => (hq g6 hq0)) (hq (fun _ => hq0) (hq (fun q8 => (hq (bo_m q8) hq0)) (hq (fun _ => hq0) (hq (fun g10 => (hq g10 (hq Tt hq0))) (hq (fun g11 => (hq g11 hq0)) (hq (fun _ => hq0) (hq (fun g13 => (hq g13 hq0)) (hq (fun g14 => (hq g14 (hq Tt hq0))) (hq (fun g15 => (hq g15 hq0)) (hq (fun g16 => (hq g16 (hq g16 (hq Tt hq0)))) (hq (fun _ => hq0) (hq (fun q18 => (hq (bo_m q18) hq0)) hq0))))))))))))))))))
 rw [show ln (qB qE) = qQ qE from ln_eq Int_c _]
 rw [show ln (qMB qI) = qRC qI from ln_eq qZB _]
 refine Run.cond (by cbv) (hq0) (fun c19 => ?_) (fun c19 => ?_)
 ·
  have h := if_t c19 h
  refine Run.seq ?_
  refine Run.region hL hT [] (by cbv) hq0 ?_
  refine Run.ret ?_
  cases h
  refine ⟨_, _, by cbv, ?_, ?_⟩
  · exact LLe.r
  exact (ALe.v LLe.r ALe.nil)
 have h := if_f c19 h
 refine Run.skip ?_
 refine Run.seq ?_
 refine Run.seq ?_
 refine Run.region hL hT [] (by cbv) ?_ ?_
 · exact (hq Tt hq0)
 rw [show ln (qMB qI) = qRC qI from ln_eq qZB _]
 refine Run.block ?_
 refine Run.loop1 (fun (z26 : Int) => ⟨40, 100000, [(1, .pt 1 0 0), (26, .t (.im false (qMB qI))), (27, .t (.s (.int .i64 (qRC qI)))), (28, .t (.s (.int .i64 z26)))], [(1, .box 29 [.t (.im false (qB qE)), .t (.s (.int .i64 qL)), .t (.im false (qMB qI))])]⟩) (x0 := 0) h (Weak.of _ [(1, 0)] hA (by cbv) ?_) (fun _ => rfl) ?_
 · repeat (first | exact hq0 | refine hq (by first | exact Tt | rfl) ?_)
 intro k z26 h
 rw [quB.l0] at h
 refine Run.seq ?_
 refine Run.region hL hT [] (by cbv) ?_ ?_
 · exact (hq Tt hq0)
 refine Run.seq ?_
 refine Run.cond (by cbv) (hq0) (fun c27 => ?_) (fun c27 => ?_)
 ·
  have h := if_t c27 h
  refine Run.skip ?_
  refine Run.seq ?_
  refine Run.block ?_
  refine Run.seq ?_
  obtain ⟨x28, h_x28, h⟩ := bnd h
  refine Run.region hL hT [(1, .el [.im false (qAB x28)])] (by cbv) ?_ ?_
  · exact (hq (qS h_x28) (hq (ql (f := qZB) h_x28) (hq (qt (f := qZB) h_x28) hq0)))
  refine Run.seq ?_
  obtain ⟨r29, h_r29, h⟩ := bnd h
  refine Run.region hL hT [(4, .call [false, false, false] [.ag [.jk], .v (.jk), .v (.jk)] [.v (.s (.bool r29))])] (by cbv) ?_ ?_
  · exact (hq Tt (hq (hC (qSP h_r29)) hq0))
  refine Run.cond (by cbv) (hq0) (fun c30 => ?_) (fun c30 => ?_)
  ·
   have h := if_t c30 h
   refine Run.seq ?_
   refine Run.region hL hT [] (by cbv) hq0 ?_
   refine Run.ret ?_
   cases h
   refine ⟨_, _, by cbv, ?_, ?_⟩
   · exact LLe.r
   exact (ALe.v LLe.r ALe.nil)
  have h := if_f c30 h
  refine Run.skip ?_
  refine Run.region hL hT [] (by cbv) ?_ ?_
  · exact (hq Tt hq0)
  refine ⟨(ar .add .i64 z26 1), h, Weak.of _ [(1, 1)] hA (by cbv) ?_⟩
  repeat (first | exact hq0 | refine hq (by first | exact Tt | rfl) ?_)
 have h := if_f c27 h
 refine Run.exit ?_
 refine Run.seq ?_
 refine Run.region hL hT [] (by cbv) hq0 ?_
 refine Run.ret ?_
 cases h
 refine ⟨_, _, by cbv, ?_, ?_⟩
 · exact LLe.r
 exact (ALe.v LLe.r ALe.nil)
theorem qcI {a0 : List Int} {r : (List Int)} (h : qkE.f a0 = some r) : AC Tryz.prog 102 [.v (.im false (rowsOf Int_c a0))] [.v (.jk)] [.v (.ow 3 (rowsOf Int_c r))] := by
 unfold qkE.f at h
 let qB := rowsOf Int_c
 show AC Tryz.prog 102 [.v (.im false (qB a0))] _ _
 refine run3 Tryz.func102 (by rfl) (by rfl) (by cbv) ⟨by decide, rfl⟩ ?_
 intro ar cm bo sc sa sx ss sl bs sb ln sr ap up rp fr ge le lt nz mm ma sm fl al ci hL F hP hA hT hM hC
 refine Run.seq ?_
 refine Run.region hL hT [] (by cbv) hq0 ?_
 refine Run.seq ?_
 obtain ⟨l1, h_l1, h⟩ := bnd h
 refine Run.region hL hT [] (by cbv) ?_ ?_
 · exact (hq (qxX qhU _) (hq (qwD (P := Tryz.prog) (f := Int_c) RLe.r RLe.r h_l1) hq0))
 refine Run.row (rows := (ap ([]) ((qB a0)))) 4098 (qB l1) (by cbv) (qvD (f := Int_c) RLe.r RLe.r h_l1) ?_
 refine Run.ret ?_
 cases h
 refine ⟨_, _, by cbv, ?_, ?_⟩
 · exact LLe.r
 exact (ALe.v LLe.r ALe.nil)
theorem qsD {qqD : Int} {qQB : List Int} {r : Row} (h : qxC.f (Row.mk qqD qQB) = some r) : AC Tryz.prog 56 [.ag [.s (.int .i64 qqD), .im false (rowsOf Int_c qQB)]] [.ag [.jk, .jk]] [.ag [.s (.int .i64 r.Id), .ow 3 (rowsOf Int_c r.Cells)]] := by
 unfold qxC.f at h
 let qB := rowsOf Int_c
 show AC Tryz.prog 56 [.ag [.s (.int .i64 qqD), .im false (qB qQB)]] _ _
 refine run3 Tryz.func56 (by rfl) (by rfl) (by cbv) ⟨by decide, rfl⟩ ?_
 intro ar cm bo sc sa sx ss sl bs sb ln sr ap up rp fr ge le lt nz mm ma sm fl al ci hL F hP hA hT hM hC
 refine Run.seq ?_
 refine Run.region hL hT [] (by cbv) hq0 ?_
 refine Run.seq ?_
 obtain ⟨r1, h_r1, h⟩ := bnd h
 refine Run.draw hL hT hM [(4, .call [false] [.v (.jk)] [.v (.ow 3 (qB r1))])] (by cbv) (by cbv) (by cbv) (by cbv) (by cbv) ?_ ?_
 · exact (hq Tt (hq Tt (hq (hC (qcI h_r1)) (hq Tt hq0))))
 refine Run.ret ?_
 cases h
 refine ⟨_, _, by cbv, ?_, ?_⟩
 · exact LLe.r
 exact (ALe.ag rfl LLe.r ALe.nil)
theorem qgR {qg : Int} {qd : List Cond} {qh : Int} {qw : Bool} {qi : Int} {qp : List Int} {qx : Bool} {qM : Int} {qZ : Int} {qLC : Int} {qk : List Int} {qKH : Int} {qhB : List Int} {r : Bool} (h : qlH.f (Query.mk qg qd qh qw qi qp qx qM qZ) (Row.mk qLC qk) (Row.mk qKH qhB) = some r) : AC Tryz.prog 23 [.ag [.s (.int .i64 qg), .im false (rowsOf qGB qd), .s (.int .i64 qh), .s (.bool qw), .s (.int .i64 qi), .im false (rowsOf Int_c qp), .s (.bool qx), .s (.int .i64 qM), .s (.int .i64 qZ)], .ag [.s (.int .i64 qLC), .im false (rowsOf Int_c qk)], .ag [.s (.int .i64 qKH), .im false (rowsOf Int_c qhB)]] [.ag [.jk, .jk, .jk, .jk, .jk, .jk, .jk, .jk, .jk], .ag [.jk, .jk], .ag [.jk, .jk]] [.v (.s (.bool r))] := by
 unfold qlH.f at h
 let qO := rowsOf qGB
 let qB := rowsOf Int_c
 show AC Tryz.prog 23 [.ag [.s (.int .i64 qg), .im false (qO qd), .s (.int .i64 qh), .s (.bool qw), .s (.int .i64 qi), .im false (qB qp), .s (.bool qx), .s (.int .i64 qM), .s (.int .i64 qZ)], .ag [.s (.int .i64 qLC), .im false (qB qk)], .ag [.s (.int .i64 qKH), .im false (qB qhB)]] _ _
 refine run3 Tryz.func23 (by rfl) (by rfl) (by cbv) ⟨by decide, rfl⟩ ?_
 intro ar cm bo sc sa sx ss sl bs sb ln sr ap up rp fr ge le lt nz mm ma sm fl al ci hL F hP hA hT hM hC
 refine Run.seq ?_
 refine Run.region hL hT [] (by cbv) hq0 ?_
 refine Run.seq ?_
 refine Run.seq ?_
 refine Run.region hL hT [] (by cbv) ?_ ?_
 · exact (hq Tt (hq Tt hq0))
 refine Run.cond (by cbv) (hq0) (fun c1 => ?_) (fun c1 => ?_)
 ·
  have h := if_t c1 h
  refine Run.seq ?_
  refine Run.region hL hT [] (by cbv) ?_ ?_
  · exact (hq Tt (hq Tt (hq Tt hq0)))
  refine Run.ret ?_
  cases h
  refine ⟨_, _, by cbv, ?_, ?_⟩
  · exact LLe.r
  exact (ALe.v LLe.r ALe.nil)
 have h := if_f c1 h
 refine Run.skip ?_
 refine Run.seq ?_
 obtain ⟨r2, h_r2, h⟩ := bnd h
 obtain ⟨r3, h_r3, h⟩ := bnd h
 refine Run.draw hL hT hM [(4, .call [false, false] [.ag [.jk, .jk], .v (.jk)] [.v (.s (.int .i64 r2))]), (9, .call [false, false] [.ag [.jk, .jk], .v (.jk)] [.v (.s (.int .i64 r3))])] (by cbv) (by cbv) (by cbv) (by cbv) (by cbv) ?_ ?_
 · exact (hq Tt (hq Tt (hq Tt (hq (hC (qvE h_r2)) (hq Tt (hq Tt (hq Tt (hq (hC (qvE h_r3)) hq0))))))))
 refine Run.seq ?_
 refine Run.block ?_
 refine Run.seq ?_
 refine Run.region hL hT [] (by cbv) ?_ ?_
 · exact (hq Tt hq0)
 refine Run.cond (by cbv) (hq0) (fun c4 => ?_) (fun c4 => ?_)
 ·
  have h := if_t c4 h
  refine Run.seq ?_
  refine Run.region hL hT [] (by cbv) ?_ ?_
  · exact (hq Tt (hq Tt (hq Tt hq0)))
  refine Run.ret ?_
  cases h
  refine ⟨_, _, by cbv, ?_, ?_⟩
  · exact LLe.r
  exact (ALe.v LLe.r ALe.nil)
 have h := if_f c4 h
 refine Run.seq ?_
 refine Run.region hL hT [] (by cbv) ?_ ?_
 · exact (hq Tt hq0)
 refine Run.cond (by cbv) (hq0) (fun c5 => ?_) (fun c5 => ?_)
 ·
  have h := if_t c5 h
  refine Run.seq ?_
  refine Run.region hL hT [] (by cbv) ?_ ?_
  · exact (hq Tt hq0)
  refine Run.ret ?_
  cases h
  refine ⟨_, _, by cbv, ?_, ?_⟩
  · exact LLe.r
  exact (ALe.v LLe.r ALe.nil)
 have h := if_f c5 h
 refine Run.skip ?_
 refine Run.seq ?_
 refine Run.region hL hT [] (by cbv) ?_ ?_
 · exact (hq Tt hq0)
 refine Run.ret ?_
 cases h
 refine ⟨_, _, by cbv, ?_, ?_⟩
 · exact LLe.r
 exact (ALe.v LLe.r ALe.nil)
theorem qoE {qqD : Int} {qQB : List Int} {qLC : Int} {qk : List Int} {qYO : Int} {qZO : List Cond} {qaO : Int} {qhR : Bool} {qbO : Int} {qiR : List Int} {qjR : Bool} {qCJ : Int} {qqL : Int} {r : Int} (h : qMD.f (Row.mk qqD qQB) (Row.mk qLC qk) (Query.mk qYO qZO qaO qhR qbO qiR qjR qCJ qqL) = some r) : AC Tryz.prog 58 [.ag [.s (.int .i64 qqD), .im false (rowsOf Int_c qQB)], .ag [.s (.int .i64 qLC), .im false (rowsOf Int_c qk)], .v (.ip [.s (.int .i64 qYO), .im false (rowsOf qGB qZO), .s (.int .i64 qaO), .s (.bool qhR), .s (.int .i64 qbO), .im false (rowsOf Int_c qiR), .s (.bool qjR), .s (.int .i64 qCJ), .s (.int .i64 qqL)])] [.ag [.jk, .jk], .ag [.jk, .jk], .v (.jk)] [.v (.s (.int .i64 r))] := by
 unfold qMD.f at h
 let qO := rowsOf qGB
 let qB := rowsOf Int_c
 show AC Tryz.prog 58 [.ag [.s (.int .i64 qqD), .im false (qB qQB)], .ag [.s (.int .i64 qLC), .im false (qB qk)], .v (.ip [.s (.int .i64 qYO), .im false (qO qZO), .s (.int .i64 qaO), .s (.bool qhR), .s (.int .i64 qbO), .im false (qB qiR), .s (.bool qjR), .s (.int .i64 qCJ), .s (.int .i64 qqL)])] _ _
 refine run3 Tryz.func58 (by rfl) (by rfl) (by cbv) ⟨by decide, rfl⟩ ?_
 intro ar cm bo sc sa sx ss sl bs sb ln sr ap up rp fr ge le lt nz mm ma sm fl al ci hL F hP hA hT hM hC
 refine Run.seq ?_
 refine Run.region hL hT [] (by cbv) hq0 ?_
 refine Run.seq ?_
 refine Run.seq ?_
 obtain ⟨r1, h_r1, h⟩ := bnd h
 refine Run.region hL hT [(3, .call [false, false, false] [.ag [.jk, .jk, .jk, .jk, .jk, .jk, .jk, .jk, .jk], .ag [.jk, .jk], .ag [.jk, .jk]] [.v (.s (.bool r1))])] (by cbv) ?_ ?_
 · exact (hq Tt (hq Tt (hq (hC (qgR h_r1)) hq0)))
 refine Run.cond (by cbv) (hq0) (fun c2 => ?_) (fun c2 => ?_)
 ·
  have h := if_t c2 h
  refine Run.seq ?_
  refine Run.region hL hT [] (by cbv) hq0 ?_
  refine Run.ret ?_
  cases h
  refine ⟨_, _, by cbv, ?_, ?_⟩
  · exact LLe.r
  exact (ALe.v LLe.r ALe.nil)
 have h := if_f c2 h
 refine Run.skip ?_
 refine Run.seq ?_
 refine Run.region hL hT [] (by cbv) hq0 ?_
 refine Run.ret ?_
 cases h
 refine ⟨_, _, by cbv, ?_, ?_⟩
 · exact LLe.r
 exact (ALe.v LLe.r ALe.nil)
theorem qxB {a0 : List Row} {a1 : Int} {a2 : Int} {qcF : Int} {qdF : List Cond} {qeF : Int} {qUG : Bool} {qfF : Int} {qVG : List Int} {qWG : Bool} {qUE : Int} {qIF : Int} {r : (List Row)} (h : qD.f a0 a1 a2 (Query.mk qcF qdF qeF qUG qfF qVG qWG qUE qIF) = some r) : AC Tryz.prog 150 [.v (.ow 56 (rowsOf Row_o a0)), .v (.s (.int .i64 a1)), .v (.s (.int .i64 a2)), .v (.fn 58 [.ip [.s (.int .i64 qcF), .im false (rowsOf qGB qdF), .s (.int .i64 qeF), .s (.bool qUG), .s (.int .i64 qfF), .im false (rowsOf Int_c qVG), .s (.bool qWG), .s (.int .i64 qUE), .s (.int .i64 qIF)]])] [.v (.ow 56 (rowsOf Row_o r)), .v (.jk), .v (.jk), .v (.jk)] [] := by
 unfold qD.f at h
 let qO := rowsOf qGB
 let qB := rowsOf Int_c
 let qT := rowsOf Row_o
 show AC Tryz.prog 150 [.v (.ow 56 (qT a0)), .v (.s (.int .i64 a1)), .v (.s (.int .i64 a2)), .v (.fn 58 [.ip [.s (.int .i64 qcF), .im false (qO qdF), .s (.int .i64 qeF), .s (.bool qUG), .s (.int .i64 qfF), .im false (qB qVG), .s (.bool qWG), .s (.int .i64 qUE), .s (.int .i64 qIF)]])] _ _
 refine run3 Tryz.func150 (by rfl) (by rfl) (by cbv) ⟨by decide, rfl⟩ ?_
 intro ar cm bo sc sa sx ss sl bs sb ln sr ap up rp fr ge le lt nz mm ma sm fl al ci hL F hP hA hT hM hC
 refine Run.weak ?_ (Weak.fnT 3 (by cbv))
 refine Run.seq ?_
 refine Run.region hL hT [] (by cbv) ?_ ?_
 · exact (hq Tt hq0)
 refine Run.block ?_
 refine Run.loop2 (fun (z14 : List Row) (z15 : Int) => ⟨53, 100000, [(0, .rf 0), (1, .t (.s (.int .i64 a1))), (2, .t (.s (.int .i64 a2))), (3, .fn 58 [.t (.ip [.s (.int .i64 qcF), .im false (qO qdF), .s (.int .i64 qeF), .s (.bool qUG), .s (.int .i64 qfF), .im false (qB qVG), .s (.bool qWG), .s (.int .i64 qUE), .s (.int .i64 qIF)])]), (8, .t (.s (.int .i64 z15)))], [(0, .row 0 56 2 (qT z14))]⟩) (x0 := a0) (x1 := (ar .add .i64 a1 1)) h (Weak.of _ [(0, 0)] hA (by cbv) ?_) (fun _ _ => rfl) ?_
 · repeat (first | exact hq0 | refine hq (by first | exact Tt | rfl) ?_)
 intro k z14 z15 h
 rw [qD.l0] at h
 refine Run.seq ?_
 refine Run.seq ?_
 refine Run.region hL hT [] (by cbv) ?_ ?_
 · exact (hq Tt hq0)
 refine Run.cond (by cbv) (hq0) (fun c16 => ?_) (fun c16 => ?_)
 ·
  have h := if_t c16 h
  refine Run.skip ?_
  obtain ⟨K18, h_K18, h⟩ := joinE h
  refine Run.join1 K18 (r := r) (fun (y17 : List Row) => ⟨53, 100000, [(0, .rf 0), (1, .t (.s (.int .i64 a1))), (2, .t (.s (.int .i64 a2))), (3, .fn 58 [.t (.ip [.s (.int .i64 qcF), .im false (qO qdF), .s (.int .i64 qeF), .s (.bool qUG), .s (.int .i64 qfF), .im false (qB qVG), .s (.bool qWG), .s (.int .i64 qUE), .s (.int .i64 qIF)])]), (8, .t (.s (.int .i64 z15)))], [(0, .row 0 56 2 (qT y17))]⟩) ?_ ?_
  ·
   skip
   refine Run.block ?_
   refine Run.seq ?_
   refine Run.region hL hT [] (by cbv) hq0 ?_
   refine Run.block ?_
   refine Run.loop2 (fun (z33 : List Row) (z34 : Int) => ⟨53, 100000, [(0, .rf 0), (1, .t (.s (.int .i64 a1))), (2, .t (.s (.int .i64 a2))), (3, .fn 58 [.t (.ip [.s (.int .i64 qcF), .im false (qO qdF), .s (.int .i64 qeF), .s (.bool qUG), .s (.int .i64 qfF), .im false (qB qVG), .s (.bool qWG), .s (.int .i64 qUE), .s (.int .i64 qIF)])]), (8, .t (.s (.int .i64 z15))), (9, .t (.s (.int .i64 z34)))], [(0, .row 0 56 2 (qT z33))]⟩) (x0 := z14) (x1 := z15) h (Weak.of _ [(0, 0)] hA (by cbv) ?_) (fun _ _ => rfl) ?_
   · repeat (first | exact hq0 | refine hq (by first | exact Tt | rfl) ?_)
   intro k z33 z34 h
   rw [qD.l1] at h
   refine Run.seq ?_
   refine Run.seq ?_
   obtain ⟨⟨qqc, qnW⟩, h_x35, h⟩ := bnd h
   obtain ⟨⟨qkU, qrL⟩, h_x36, h⟩ := bnd h
   obtain ⟨r37, h_r37, h⟩ := bnd h
   refine Run.draw hL hT hM [(8, .el [.s (.int .i64 qqc), .ow 3 (qB qnW)]), (13, .el [.s (.int .i64 qkU), .ow 3 (qB qrL)]), (14, .call [false, false] [.ag [.jk, .jk], .ag [.jk, .jk], .v (.jk)] [.v (.s (.int .i64 r37))])] (by cbv) (by cbv) (by cbv) (by cbv) (by cbv) ?_ ?_
   · exact (hq Tt (hq (fun _ => hq0) (hq (fun _ => hq0) (hq (fun _ => hq0) (hq (fun g41 => (hq g41 (hq g41 (hq (qS (gd_t h_x35 g41)) (hq (ql (f := Row_o) (gd_t h_x35 g41)) hq0))))) (hq (fun g42 => (hq g42 (hq (qS (gd_t h_x35 g42)) (hq (ql (f := Row_o) (gd_t h_x35 g42)) (hq (qt (f := Row_o) (gd_t h_x35 g42)) hq0))))) (hq (fun _ => hq0) (hq (fun _ => hq0) (hq (fun g45 => (hq g45 (hq Tt hq0))) (hq (fun g46 => (hq g46 (hq g46 (hq (qS (gd_t h_x36 g46)) (hq (ql (f := Row_o) (gd_t h_x36 g46)) hq0))))) (hq (fun g47 => (hq g47 (hq (qS (gd_t h_x36 g47)) (hq (ql (f := Row_o) (gd_t h_x36 g47)) (hq (qt (f := Row_o) (gd_t h_x36 g47)) hq0))))) (hq (fun g48 => (hq g48 (hq g48 (hq g48 (hq (hC (AC.args (qoE (gd_t h_r37 g48)) (ALe.ag rfl (LLe.c (LLe.cons (LLe.im (RLe.eq (qQC qKD _))) LLe.nil)) (ALe.ag rfl (LLe.c (LLe.cons (LLe.im (RLe.eq (qQC qKD _))) LLe.nil)) (ALe.v LLe.r ALe.nil))))) hq0))))) (hq (fun g49 => (hq g49 (hq Tt hq0))) (hq (fun q50 => (hq q50 hq0)) (hq (fun _ => hq0) hq0)))))))))))))))
   refine Run.cond (by cbv) (hq0) (fun c52 => ?_) (fun c52 => ?_)
   ·
    have h := if_t c52 h
    refine Run.skip ?_
    refine Run.seq ?_
    refine Run.block ?_
    obtain ⟨⟨qyY, qLQ⟩, h_x53, h⟩ := bnd h
    obtain ⟨⟨qzY, qMQ⟩, h_x54, h⟩ := bnd h
    obtain ⟨u55, h_u55, h⟩ := bnd h
    obtain ⟨l56, h_l56, h⟩ := bnd h
    refine Run.weak ?_ (Weak.take2 (rows := qT z33) (e2 := 3) (r1 := qB qLQ) (r2 := qB qMQ) hT 0 (ar .sub .i64 z34 1) z34 1 107096 1107096 107097 1107097 (by cbv) (by cbv) (by cbv) (by cbv) (by cbv) (by cbv) (qXE h_x53) (qBF Row_o h_x53) ((congrArg (fun q => q[1]?) (qt (f := Row_o) h_x53)).trans rfl) rfl (qXE h_x54) (qBF Row_o h_x54) (ne_t h_u55) ((congrArg (fun q => q[1]?) (qt (f := Row_o) h_x54)).trans rfl) rfl (by cbv) (up (up (qT z33) (ar .sub .i64 z34 1) 1 [.jk]) z34 1 [.jk]) rfl)
    refine Run.draw hL hT hM [(9, .lk [.s (.int .i64 qyY), .jk] [(1, 1107096)]), (13, .lk [.s (.int .i64 qzY), .jk] [(1, 1107097)])] (by cbv) (by cbv) (by cbv) (by cbv) (by cbv) ?_ ?_
    · exact (hq Tt (hq Tt (hq (qS h_x53) (hq (sw_lt Row_o h_x53) (hq Tt (hq (qS h_x53) (hq (sw_lt Row_o h_x53) (hq (qhS Row_o h_x53 h_x54 (ne_t h_u55)) (hq (qS h_x54) (hq (sw_lt Row_o h_x54) (hq Tt (hq (qS h_x54) (hq (sw_lt Row_o h_x54) (hq (qiS Row_o h_x53 h_x54 (ne_t h_u55)) (hq (qS h_x54) (hq (sw_lt Row_o h_x54) (hq (qS h_x54) (hq (sw_lt Row_o h_x54) (hq (qS h_x53) (hq (qUM Row_o h_x53) (hq (qS h_x53) (hq (qUM Row_o h_x53) hq0))))))))))))))))))))))
    refine Run.row (rows := (up (up (up (up (qT z33) (ar .sub .i64 z34 1) 1 [.jk]) z34 1 [.jk]) z34 0 [.s (.int .i64 qyY), .ow 3 (qB qLQ)]) (ar .sub .i64 z34 1) 0 [.s (.int .i64 qzY), .ow 3 (qB qMQ)])) 0 (qT l56) (by cbv) (qrQ (f := Row_o) qUR h_x53 h_x54 (ne_t h_u55) (by decide) (.inr ⟨rfl, rfl⟩) h_l56 rfl rfl) ?_
    refine Run.region hL hT [] (by cbv) ?_ ?_
    · exact (hq Tt hq0)
    refine ⟨l56, (ar .sub .i64 z34 1), h, Weak.of _ [(0, 0)] hA (by cbv) ?_⟩
    repeat (first | exact hq0 | refine hq (by first | exact Tt | rfl) ?_)
   have h := if_f c52 h
   refine Run.exit ?_
   refine ⟨z33, h, Weak.of _ [(0, 0)] hA (by cbv) ?_⟩
   repeat (first | exact hq0 | refine hq (by first | exact Tt | rfl) ?_)
  intro y17 h
  rw [h_K18] at h
  refine Run.region hL hT [] (by cbv) ?_ ?_
  · exact (hq Tt hq0)
  refine ⟨y17, (ar .add .i64 z15 1), h, Weak.of _ [(0, 0)] hA (by cbv) ?_⟩
  repeat (first | exact hq0 | refine hq (by first | exact Tt | rfl) ?_)
 have h := if_f c16 h
 refine Run.exit ?_
 cases h
 refine ⟨_, _, by cbv, ?_, ?_⟩
 · exact LLe.r
 exact ALe.nil
theorem qeB {a0 : List Row} {a1 : Int} {a2 : Int} {a3 : Int} {qCB : Int} {qDB : List Cond} {qEB : Int} {qNB : Bool} {qFB : Int} {qOB : List Int} {qPB : Bool} {qe : Int} {qq : Int} {r : (List Row)} (h : qF.f a0 a1 a2 a3 (Query.mk qCB qDB qEB qNB qFB qOB qPB qe qq) = some r) : AC Tryz.prog 174 [.v (.ow 56 (rowsOf Row_o a0)), .v (.s (.int .i64 a1)), .v (.s (.int .i64 a2)), .v (.s (.int .i64 a3)), .v (.fn 58 [.ip [.s (.int .i64 qCB), .im false (rowsOf qGB qDB), .s (.int .i64 qEB), .s (.bool qNB), .s (.int .i64 qFB), .im false (rowsOf Int_c qOB), .s (.bool qPB), .s (.int .i64 qe), .s (.int .i64 qq)]])] [.v (.ow 56 (rowsOf Row_o r)), .v (.jk), .v (.jk), .v (.jk), .v (.jk)] [] := by
 unfold qF.f at h
 let qO := rowsOf qGB
 let qB := rowsOf Int_c
 let qT := rowsOf Row_o
 show AC Tryz.prog 174 [.v (.ow 56 (qT a0)), .v (.s (.int .i64 a1)), .v (.s (.int .i64 a2)), .v (.s (.int .i64 a3)), .v (.fn 58 [.ip [.s (.int .i64 qCB), .im false (qO qDB), .s (.int .i64 qEB), .s (.bool qNB), .s (.int .i64 qFB), .im false (qB qOB), .s (.bool qPB), .s (.int .i64 qe), .s (.int .i64 qq)]])] _ _
 refine run3 Tryz.func174 (by rfl) (by rfl) (by cbv) ⟨by decide, rfl⟩ ?_
 intro ar cm bo sc sa sx ss sl bs sb ln sr ap up rp fr ge le lt nz mm ma sm fl al ci hL F hP hA hT hM hC
 refine Run.weak ?_ (Weak.fnT 4 (by cbv))
 refine Run.seq ?_
 refine Run.region hL hT [] (by cbv) hq0 ?_
 refine Run.block ?_
 refine Run.loop2 (fun (z6 : List Row) (z7 : Int) => ⟨38, 100000, [(0, .rf 0), (1, .t (.s (.int .i64 a1))), (2, .t (.s (.int .i64 a2))), (3, .t (.s (.int .i64 a3))), (10, .t (.s (.int .i64 z7)))], [(0, .row 0 56 2 (qT z6))]⟩) (x0 := a0) (x1 := 0) h (Weak.of _ [(0, 0)] hA (by cbv) ?_) (fun _ _ => rfl) ?_
 · repeat (first | exact hq0 | refine hq (by first | exact Tt | rfl) ?_)
 intro k z6 z7 h
 rw [qF.l0] at h
 refine Run.seq ?_
 refine Run.seq ?_
 refine Run.region hL hT [] (by cbv) ?_ ?_
 · exact (hq Tt hq0)
 refine Run.cond (by cbv) (hq0) (fun c8 => ?_) (fun c8 => ?_)
 ·
  have h := if_t c8 h
  refine Run.skip ?_
  refine Run.seq ?_
  refine Run.block ?_
  obtain ⟨⟨qOT, qDJ⟩, h_x9, h⟩ := bnd h
  obtain ⟨⟨qkR, qeJ⟩, h_x10, h⟩ := bnd h
  obtain ⟨u11, h_u11, h⟩ := bnd h
  obtain ⟨l12, h_l12, h⟩ := bnd h
  refine Run.weak ?_ (Weak.take2 (rows := qT z6) (e2 := 3) (r1 := qB qDJ) (r2 := qB qeJ) hT 0 (ar .add .i64 a2 z7) (ar .add .i64 a1 z7) 1 107096 1107096 107097 1107097 (by cbv) (by cbv) (by cbv) (by cbv) (by cbv) (by cbv) (qXE h_x9) (qBF Row_o h_x9) ((congrArg (fun q => q[1]?) (qt (f := Row_o) h_x9)).trans rfl) rfl (qXE h_x10) (qBF Row_o h_x10) (ne_t h_u11) ((congrArg (fun q => q[1]?) (qt (f := Row_o) h_x10)).trans rfl) rfl (by cbv) (up (up (qT z6) (ar .add .i64 a2 z7) 1 [.jk]) (ar .add .i64 a1 z7) 1 [.jk]) rfl)
  refine Run.draw hL hT hM [(13, .lk [.s (.int .i64 qOT), .jk] [(1, 1107096)]), (19, .lk [.s (.int .i64 qkR), .jk] [(1, 1107097)])] (by cbv) (by cbv) (by cbv) (by cbv) (by cbv) ?_ ?_
  · exact (hq Tt (hq Tt (hq Tt (hq (qS h_x9) (hq (sw_lt Row_o h_x9) (hq Tt (hq (qS h_x9) (hq (sw_lt Row_o h_x9) (hq (qhS Row_o h_x9 h_x10 (ne_t h_u11)) (hq Tt (hq (qS h_x10) (hq (sw_lt Row_o h_x10) (hq Tt (hq (qS h_x10) (hq (sw_lt Row_o h_x10) (hq (qiS Row_o h_x9 h_x10 (ne_t h_u11)) (hq (qS h_x10) (hq (sw_lt Row_o h_x10) (hq (qS h_x10) (hq (sw_lt Row_o h_x10) (hq (qS h_x9) (hq (qUM Row_o h_x9) (hq (qS h_x9) (hq (qUM Row_o h_x9) hq0))))))))))))))))))))))))
  refine Run.row (rows := (up (up (up (up (qT z6) (ar .add .i64 a2 z7) 1 [.jk]) (ar .add .i64 a1 z7) 1 [.jk]) (ar .add .i64 a1 z7) 0 [.s (.int .i64 qOT), .ow 3 (qB qDJ)]) (ar .add .i64 a2 z7) 0 [.s (.int .i64 qkR), .ow 3 (qB qeJ)])) 0 (qT l12) (by cbv) (qrQ (f := Row_o) qUR h_x9 h_x10 (ne_t h_u11) (by decide) (.inr ⟨rfl, rfl⟩) h_l12 rfl rfl) ?_
  refine Run.region hL hT [] (by cbv) ?_ ?_
  · exact (hq Tt hq0)
  refine ⟨l12, (ar .add .i64 z7 1), h, Weak.of _ [(0, 0)] hA (by cbv) ?_⟩
  repeat (first | exact hq0 | refine hq (by first | exact Tt | rfl) ?_)
 have h := if_f c8 h
 refine Run.exit ?_
 cases h
 refine ⟨_, _, by cbv, ?_, ?_⟩
 · exact LLe.r
 exact ALe.nil
theorem qdD {a0 : List Row} {a1 : Int} {a2 : Int} {a3 : Int} {qCB : Int} {qDB : List Cond} {qEB : Int} {qNB : Bool} {qFB : Int} {qOB : List Int} {qPB : Bool} {qe : Int} {qq : Int} {r : (List Row)} (h : qH.f a0 a1 a2 a3 (Query.mk qCB qDB qEB qNB qFB qOB qPB qe qq) = some r) : AC Tryz.prog 165 [.v (.ow 56 (rowsOf Row_o a0)), .v (.s (.int .i64 a1)), .v (.s (.int .i64 a2)), .v (.s (.int .i64 a3)), .v (.fn 58 [.ip [.s (.int .i64 qCB), .im false (rowsOf qGB qDB), .s (.int .i64 qEB), .s (.bool qNB), .s (.int .i64 qFB), .im false (rowsOf Int_c qOB), .s (.bool qPB), .s (.int .i64 qe), .s (.int .i64 qq)]])] [.v (.ow 56 (rowsOf Row_o r)), .v (.jk), .v (.jk), .v (.jk), .v (.jk)] [] := by
 unfold qH.f at h
 let qO := rowsOf qGB
 let qB := rowsOf Int_c
 let qT := rowsOf Row_o
 show AC Tryz.prog 165 [.v (.ow 56 (qT a0)), .v (.s (.int .i64 a1)), .v (.s (.int .i64 a2)), .v (.s (.int .i64 a3)), .v (.fn 58 [.ip [.s (.int .i64 qCB), .im false (qO qDB), .s (.int .i64 qEB), .s (.bool qNB), .s (.int .i64 qFB), .im false (qB qOB), .s (.bool qPB), .s (.int .i64 qe), .s (.int .i64 qq)]])] _ _
 refine run3 Tryz.func165 (by rfl) (by rfl) (by cbv) ⟨by decide, rfl⟩ ?_
 intro ar cm bo sc sa sx ss sl bs sb ln sr ap up rp fr ge le lt nz mm ma sm fl al ci hL F hP hA hT hM hC
 refine Run.weak ?_ (Weak.fnT 4 (by cbv))
 refine Run.seq ?_
 refine Run.region hL hT [] (by cbv) ?_ ?_
 · exact (hq Tt hq0)
 refine Run.seq ?_
 refine Run.region hL hT [] (by cbv) ?_ ?_
 · exact (hq Tt hq0)
 obtain ⟨K3, h_K3, h⟩ := joinE h
 refine Run.join2 K3 (r := r) (fun (y1 : List Row) (y2 : Int) => ⟨58, 100000, [(0, .rf 0), (2, .t (.s (.int .i64 a2))), (4, .fn 58 [.t (.ip [.s (.int .i64 qCB), .im false (qO qDB), .s (.int .i64 qEB), .s (.bool qNB), .s (.int .i64 qFB), .im false (qB qOB), .s (.bool qPB), .s (.int .i64 qe), .s (.int .i64 qq)])]), (10, .t (.s (.int .i64 y2)))], [(0, .row 0 56 2 (qT y1))]⟩) ?_ ?_
 ·
  skip
  refine Run.block ?_
  refine Run.loop3 (fun (z17 : List Row) (z18 : Int) (z19 : Int) => ⟨58, 100000, [(0, .rf 0), (2, .t (.s (.int .i64 a2))), (4, .fn 58 [.t (.ip [.s (.int .i64 qCB), .im false (qO qDB), .s (.int .i64 qEB), .s (.bool qNB), .s (.int .i64 qFB), .im false (qB qOB), .s (.bool qPB), .s (.int .i64 qe), .s (.int .i64 qq)])]), (10, .t (.s (.int .i64 z18))), (11, .t (.s (.int .i64 z19)))], [(0, .row 0 56 2 (qT z17))]⟩) (x0 := a0) (x1 := (ar .sub .i64 a2 a1)) (x2 := (ar .sub .i64 a3 a2)) h (Weak.of _ [(0, 0)] hA (by cbv) ?_) (fun _ _ _ => rfl) ?_
  · repeat (first | exact hq0 | refine hq (by first | exact Tt | rfl) ?_)
  intro k z17 z18 z19 h
  rw [qH.l0] at h
  refine Run.seq ?_
  refine Run.seq ?_
  refine Run.region hL hT [] (by cbv) ?_ ?_
  · exact (hq Tt hq0)
  refine Run.cond (by cbv) (hq0) (fun c20 => ?_) (fun c20 => ?_)
  ·
   have h := if_t c20 h
   refine Run.skip ?_
   refine Run.block ?_
   refine Run.seq ?_
   refine Run.region hL hT [] (by cbv) ?_ ?_
   · exact (hq Tt hq0)
   refine Run.cond (by cbv) (hq0) (fun c21 => ?_) (fun c21 => ?_)
   ·
    have h := if_t c21 h
    refine Run.seq ?_
    obtain ⟨r22, h_r22, h⟩ := bnd h
    refine Run.region hL hT [(7, .call [true, false, false, false, false] [.v (.ow 56 (qT r22)), .v (.jk), .v (.jk), .v (.jk), .v (.jk)] [])] (by cbv) ?_ ?_
    · exact (hq Tt (hq (hC (qeB h_r22)) hq0))
    refine Run.region hL hT [] (by cbv) ?_ ?_
    · exact (hq Tt hq0)
    refine ⟨r22, (ar .sub .i64 z18 z19), z19, h, Weak.of _ [(0, 0)] hA (by cbv) ?_⟩
    repeat (first | exact hq0 | refine hq (by first | exact Tt | rfl) ?_)
   have h := if_f c21 h
   refine Run.seq ?_
   obtain ⟨r23, h_r23, h⟩ := bnd h
   refine Run.region hL hT [(11, .call [true, false, false, false, false] [.v (.ow 56 (qT r23)), .v (.jk), .v (.jk), .v (.jk), .v (.jk)] [])] (by cbv) ?_ ?_
   · exact (hq Tt (hq Tt (hq Tt (hq (hC (qeB h_r23)) hq0))))
   refine Run.region hL hT [] (by cbv) ?_ ?_
   · exact (hq Tt hq0)
   refine ⟨r23, z18, (ar .sub .i64 z19 z18), h, Weak.of _ [(0, 0)] hA (by cbv) ?_⟩
   repeat (first | exact hq0 | refine hq (by first | exact Tt | rfl) ?_)
  have h := if_f c20 h
  refine Run.exit ?_
  refine ⟨z17, z18, h, Weak.of _ [(0, 0)] hA (by cbv) ?_⟩
  repeat (first | exact hq0 | refine hq (by first | exact Tt | rfl) ?_)
 intro y1 y2 h
 rw [h_K3] at h
 obtain ⟨r24, h_r24, h⟩ := bnd h
 refine Run.region hL hT [(7, .call [true, false, false, false, false] [.v (.ow 56 (qT r24)), .v (.jk), .v (.jk), .v (.jk), .v (.jk)] [])] (by cbv) ?_ ?_
 · exact (hq Tt (hq (hC (qeB h_r24)) hq0))
 cases h
 refine ⟨_, _, by cbv, ?_, ?_⟩
 · exact LLe.r
 exact ALe.nil
theorem qWD (self : (List Row) → Int → Int → Int → Query → Option ((List Row))) (hself : ∀ {a0 : List Row} {a1 : Int} {a2 : Int} {a3 : Int} {qCB : Int} {qDB : List Cond} {qEB : Int} {qNB : Bool} {qFB : Int} {qOB : List Int} {qPB : Bool} {qe : Int} {qq : Int} {r : (List Row)} (h : self a0 a1 a2 a3 (Query.mk qCB qDB qEB qNB qFB qOB qPB qe qq) = some r), AC Tryz.prog 151 [.v (.ow 56 (rowsOf Row_o a0)), .v (.s (.int .i64 a1)), .v (.s (.int .i64 a2)), .v (.s (.int .i64 a3)), .v (.fn 58 [.ip [.s (.int .i64 qCB), .im false (rowsOf qGB qDB), .s (.int .i64 qEB), .s (.bool qNB), .s (.int .i64 qFB), .im false (rowsOf Int_c qOB), .s (.bool qPB), .s (.int .i64 qe), .s (.int .i64 qq)]])] [.v (.ow 56 (rowsOf Row_o r)), .v (.jk), .v (.jk), .v (.jk), .v (.jk)] []) {a0 : List Row} {a1 : Int} {a2 : Int} {a3 : Int} {qCB : Int} {qDB : List Cond} {qEB : Int} {qNB : Bool} {qFB : Int} {qOB : List Int} {qPB : Bool} {qe : Int} {qq : Int} {r : (List Row)} (h : qA.b self a0 a1 a2 a3 (Query.mk qCB qDB qEB qNB qFB qOB qPB qe qq) = some r) : AC Tryz.prog 151 [.v (.ow 56 (rowsOf Row_o a0)), .v (.s (.int .i64 a1)), .v (.s (.int .i64 a2)), .v (.s (.int .i64 a3)), .v (.fn 58 [.ip [.s (.int .i64 qCB), .im false (rowsOf qGB qDB), .s (.int .i64 qEB), .s (.bool qNB), .s (.int .i64 qFB), .im false (rowsOf Int_c qOB), .s (.bool qPB), .s (.int .i64 qe), .s (.int .i64 qq)]])] [.v (.ow 56 (rowsOf Row_o r)), .v (.jk), .v (.jk), .v (.jk), .v (.jk)] [] := by
 unfold qA.b at h
 let qO := rowsOf qGB
 let qB := rowsOf Int_c
 let qT := rowsOf Row_o
 show AC Tryz.prog 151 [.v (.ow 56 (qT a0)), .v (.s (.int .i64 a1)), .v (.s (.int .i64 a2)), .v (.s (.int .i64 a3)), .v (.fn 58 [.ip [.s (.int .i64 qCB), .im false (qO qDB), .s (.int .i64 qEB), .s (.bool qNB), .s (.int .i64 qFB), .im false (qB qOB), .s (.bool qPB), .s (.int .i64 qe), .s (.int .i64 qq)]])] _ _
 refine run3 Tryz.func151 (by rfl) (by rfl) (by cbv) ⟨by decide, rfl⟩ ?_
 intro ar cm bo sc sa sx ss sl bs sb ln sr ap up rp fr ge le lt nz mm ma sm fl al ci hL F hP hA hT hM hC
 refine Run.weak ?_ (Weak.fnT 4 (by cbv))
 obtain ⟨K2, h_K2, h⟩ := joinE h
 refine Run.join1 K2 (r := r) (fun (y1 : Unit) => ⟨220, 100000, [(0, .rf 0), (1, .t (.s (.int .i64 a1))), (2, .t (.s (.int .i64 a2))), (3, .t (.s (.int .i64 a3))), (4, .fn 58 [.t (.ip [.s (.int .i64 qCB), .im false (qO qDB), .s (.int .i64 qEB), .s (.bool qNB), .s (.int .i64 qFB), .im false (qB qOB), .s (.bool qPB), .s (.int .i64 qe), .s (.int .i64 qq)])])], [(0, .row 0 56 2 (qT a0))]⟩) ?_ ?_
 ·
  skip
  refine Run.seq ?_
  refine Run.region hL hT [] (by cbv) ?_ ?_
  · exact (hq Tt (hq Tt hq0))
  refine Run.cond (by cbv) (hq0) (fun c3 => ?_) (fun c3 => ?_)
  ·
   have h := if_t c3 h
   refine Run.seq ?_
   refine Run.region hL hT [] (by cbv) hq0 ?_
   refine Run.seq ?_
   refine Run.region hL hT [] (by cbv) hq0 ?_
   obtain ⟨K5, h_K5, h⟩ := joinE h
   refine Run.join1 K5 (r := r) (fun (y4 : Int) => ⟨220, 100000, [(0, .rf 0), (1, .t (.s (.int .i64 a1))), (10, .t (.s (.int .i64 y4)))], [(0, .row 0 56 2 (qT a0))]⟩) ?_ ?_
   ·
    skip
    refine Run.block ?_
    refine Run.loop2 (fun (z19 : Int) (z20 : Int) => ⟨220, 100000, [(0, .rf 0), (1, .t (.s (.int .i64 a1))), (4, .fn 58 [.t (.ip [.s (.int .i64 qCB), .im false (qO qDB), .s (.int .i64 qEB), .s (.bool qNB), .s (.int .i64 qFB), .im false (qB qOB), .s (.bool qPB), .s (.int .i64 qe), .s (.int .i64 qq)])]), (10, .t (.s (.int .i64 z19))), (11, .t (.s (.int .i64 z20)))], [(0, .row 0 56 2 (qT a0))]⟩) (x0 := a2) (x1 := a3) h (Weak.of _ [(0, 0)] hA (by cbv) ?_) (fun _ _ => rfl) ?_
    · repeat (first | exact hq0 | refine hq (by first | exact Tt | rfl) ?_)
    intro k z19 z20 h
    rw [qA.l0] at h
    refine Run.seq ?_
    refine Run.seq ?_
    refine Run.region hL hT [] (by cbv) ?_ ?_
    · exact (hq Tt hq0)
    refine Run.cond (by cbv) (hq0) (fun c21 => ?_) (fun c21 => ?_)
    ·
     have h := if_t c21 h
     refine Run.skip ?_
     refine Run.block ?_
     refine Run.seq ?_
     refine Run.region hL hT [] (by cbv) ?_ ?_
     · exact (hq Tt (hq Tt (hq Tt (hq (by decide : (0 : Int) ≤ 1) (hq (by decide : (1 : Int) < 64) hq0)))))
     refine Run.seq ?_
     obtain ⟨⟨qrc, qoW⟩, h_x22, h⟩ := bnd h
     obtain ⟨⟨qsc, qpW⟩, h_x23, h⟩ := bnd h
     obtain ⟨r24, h_r24, h⟩ := bnd h
     refine Run.draw hL hT hM [(4, .el [.s (.int .i64 qrc), .ow 3 (qB qoW)]), (8, .el [.s (.int .i64 qsc), .ow 3 (qB qpW)]), (9, .call [false, false] [.ag [.jk, .jk], .ag [.jk, .jk], .v (.jk)] [.v (.s (.int .i64 r24))])] (by cbv) (by cbv) (by cbv) (by cbv) (by cbv) ?_ ?_
     · exact (hq (qS h_x22) (hq (ql (f := Row_o) h_x22) (hq (qS h_x22) (hq (ql (f := Row_o) h_x22) (hq (qt (f := Row_o) h_x22) (hq (qS h_x23) (hq (ql (f := Row_o) h_x23) (hq (qS h_x23) (hq (ql (f := Row_o) h_x23) (hq (qt (f := Row_o) h_x23) (hq (hC (AC.args (qoE h_r24) (ALe.ag rfl (LLe.c (LLe.cons (LLe.im (RLe.eq (qQC qKD _))) LLe.nil)) (ALe.ag rfl (LLe.c (LLe.cons (LLe.im (RLe.eq (qQC qKD _))) LLe.nil)) (ALe.v LLe.r ALe.nil))))) (hq Tt hq0))))))))))))
     refine Run.cond (by cbv) (hq0) (fun c25 => ?_) (fun c25 => ?_)
     ·
      have h := if_t c25 h
      refine Run.region hL hT [] (by cbv) ?_ ?_
      · exact (hq Tt hq0)
      refine ⟨(ar .add .i64 (ar .or .i64 (ar .shr .u64 (ar .or .u64 (ar .add .i64 z19 z20) 0) 1) 0) 1), z20, h, Weak.of _ [(0, 0)] hA (by cbv) ?_⟩
      repeat (first | exact hq0 | refine hq (by first | exact Tt | rfl) ?_)
     have h := if_f c25 h
     refine Run.region hL hT [] (by cbv) hq0 ?_
     refine ⟨z19, (ar .or .i64 (ar .shr .u64 (ar .or .u64 (ar .add .i64 z19 z20) 0) 1) 0), h, Weak.of _ [(0, 0)] hA (by cbv) ?_⟩
     repeat (first | exact hq0 | refine hq (by first | exact Tt | rfl) ?_)
    have h := if_f c21 h
    refine Run.exit ?_
    refine ⟨z19, h, Weak.of _ [(0, 0)] hA (by cbv) ?_⟩
    repeat (first | exact hq0 | refine hq (by first | exact Tt | rfl) ?_)
   intro y4 h
   rw [h_K5] at h
   refine Run.seq ?_
   refine Run.seq ?_
   refine Run.region hL hT [] (by cbv) hq0 ?_
   refine Run.block ?_
   refine Run.loop2 (fun (z29 : List Row) (z30 : Int) => ⟨220, 100000, [(0, .rf 0), (10, .t (.s (.int .i64 y4))), (13, .t (.s (.int .i64 z30)))], [(0, .row 0 56 2 (qT z29))]⟩) (x0 := a0) (x1 := a1) h (Weak.of _ [(0, 0)] hA (by cbv) ?_) (fun _ _ => rfl) ?_
   · repeat (first | exact hq0 | refine hq (by first | exact Tt | rfl) ?_)
   intro k z29 z30 h
   rw [qA.l1] at h
   refine Run.seq ?_
   refine Run.seq ?_
   refine Run.region hL hT [] (by cbv) ?_ ?_
   · exact (hq Tt (hq Tt hq0))
   refine Run.cond (by cbv) (hq0) (fun c31 => ?_) (fun c31 => ?_)
   ·
    have h := if_t c31 h
    refine Run.skip ?_
    refine Run.seq ?_
    refine Run.block ?_
    obtain ⟨⟨qAZ, qNQ⟩, h_x32, h⟩ := bnd h
    obtain ⟨⟨qBZ, qOQ⟩, h_x33, h⟩ := bnd h
    obtain ⟨u34, h_u34, h⟩ := bnd h
    obtain ⟨l35, h_l35, h⟩ := bnd h
    refine Run.weak ?_ (Weak.take2 (rows := qT z29) (e2 := 3) (r1 := qB qNQ) (r2 := qB qOQ) hT 0 (ar .add .i64 z30 1) z30 1 107096 1107096 107097 1107097 (by cbv) (by cbv) (by cbv) (by cbv) (by cbv) (by cbv) (qXE h_x32) (qBF Row_o h_x32) ((congrArg (fun q => q[1]?) (qt (f := Row_o) h_x32)).trans rfl) rfl (qXE h_x33) (qBF Row_o h_x33) (ne_t h_u34) ((congrArg (fun q => q[1]?) (qt (f := Row_o) h_x33)).trans rfl) rfl (by cbv) (up (up (qT z29) (ar .add .i64 z30 1) 1 [.jk]) z30 1 [.jk]) rfl)
    refine Run.draw hL hT hM [(9, .lk [.s (.int .i64 qAZ), .jk] [(1, 1107096)]), (13, .lk [.s (.int .i64 qBZ), .jk] [(1, 1107097)])] (by cbv) (by cbv) (by cbv) (by cbv) (by cbv) ?_ ?_
    · exact (hq Tt (hq Tt (hq (qS h_x32) (hq (sw_lt Row_o h_x32) (hq Tt (hq (qS h_x32) (hq (sw_lt Row_o h_x32) (hq (qhS Row_o h_x32 h_x33 (ne_t h_u34)) (hq (qS h_x33) (hq (sw_lt Row_o h_x33) (hq Tt (hq (qS h_x33) (hq (sw_lt Row_o h_x33) (hq (qiS Row_o h_x32 h_x33 (ne_t h_u34)) (hq (qS h_x33) (hq (sw_lt Row_o h_x33) (hq (qS h_x33) (hq (sw_lt Row_o h_x33) (hq (qS h_x32) (hq (qUM Row_o h_x32) (hq (qS h_x32) (hq (qUM Row_o h_x32) hq0))))))))))))))))))))))
    refine Run.row (rows := (up (up (up (up (qT z29) (ar .add .i64 z30 1) 1 [.jk]) z30 1 [.jk]) z30 0 [.s (.int .i64 qAZ), .ow 3 (qB qNQ)]) (ar .add .i64 z30 1) 0 [.s (.int .i64 qBZ), .ow 3 (qB qOQ)])) 0 (qT l35) (by cbv) (qrQ (f := Row_o) qUR h_x32 h_x33 (ne_t h_u34) (by decide) (.inr ⟨rfl, rfl⟩) h_l35 rfl rfl) ?_
    refine Run.region hL hT [] (by cbv) ?_ ?_
    · exact (hq Tt hq0)
    refine ⟨l35, (ar .add .i64 z30 1), h, Weak.of _ [(0, 0)] hA (by cbv) ?_⟩
    repeat (first | exact hq0 | refine hq (by first | exact Tt | rfl) ?_)
   have h := if_f c31 h
   refine Run.exit ?_
   refine Run.ret ?_
   cases h
   refine ⟨_, _, by cbv, ?_, ?_⟩
   · exact LLe.r
   exact ALe.nil
  have h := if_f c3 h
  refine Run.skip ?_
  refine ⟨(), h, Weak.of _ [(0, 0)] hA (by cbv) ?_⟩
  repeat (first | exact hq0 | refine hq (by first | exact Tt | rfl) ?_)
 intro y1 h
 rw [h_K2] at h
 obtain ⟨K37, h_K37, h⟩ := joinE h
 refine Run.join1 K37 (r := r) (fun (y36 : Unit) => ⟨220, 100000, [(0, .rf 0), (1, .t (.s (.int .i64 a1))), (2, .t (.s (.int .i64 a2))), (3, .t (.s (.int .i64 a3))), (4, .fn 58 [.t (.ip [.s (.int .i64 qCB), .im false (qO qDB), .s (.int .i64 qEB), .s (.bool qNB), .s (.int .i64 qFB), .im false (qB qOB), .s (.bool qPB), .s (.int .i64 qe), .s (.int .i64 qq)])])], [(0, .row 0 56 2 (qT a0))]⟩) ?_ ?_
 ·
  skip
  refine Run.seq ?_
  refine Run.region hL hT [] (by cbv) ?_ ?_
  · exact (hq Tt (hq Tt hq0))
  refine Run.cond (by cbv) (hq0) (fun c38 => ?_) (fun c38 => ?_)
  ·
   have h := if_t c38 h
   refine Run.seq ?_
   refine Run.region hL hT [] (by cbv) hq0 ?_
   refine Run.seq ?_
   refine Run.region hL hT [] (by cbv) hq0 ?_
   obtain ⟨K40, h_K40, h⟩ := joinE h
   refine Run.join1 K40 (r := r) (fun (y39 : Int) => ⟨220, 100000, [(0, .rf 0), (2, .t (.s (.int .i64 a2))), (14, .t (.s (.int .i64 y39)))], [(0, .row 0 56 2 (qT a0))]⟩) ?_ ?_
   ·
    skip
    refine Run.block ?_
    refine Run.loop2 (fun (z54 : Int) (z55 : Int) => ⟨220, 100000, [(0, .rf 0), (2, .t (.s (.int .i64 a2))), (4, .fn 58 [.t (.ip [.s (.int .i64 qCB), .im false (qO qDB), .s (.int .i64 qEB), .s (.bool qNB), .s (.int .i64 qFB), .im false (qB qOB), .s (.bool qPB), .s (.int .i64 qe), .s (.int .i64 qq)])]), (14, .t (.s (.int .i64 z54))), (15, .t (.s (.int .i64 z55)))], [(0, .row 0 56 2 (qT a0))]⟩) (x0 := a1) (x1 := a2) h (Weak.of _ [(0, 0)] hA (by cbv) ?_) (fun _ _ => rfl) ?_
    · repeat (first | exact hq0 | refine hq (by first | exact Tt | rfl) ?_)
    intro k z54 z55 h
    rw [qA.l2] at h
    refine Run.seq ?_
    refine Run.seq ?_
    refine Run.region hL hT [] (by cbv) ?_ ?_
    · exact (hq Tt hq0)
    refine Run.cond (by cbv) (hq0) (fun c56 => ?_) (fun c56 => ?_)
    ·
     have h := if_t c56 h
     refine Run.skip ?_
     refine Run.block ?_
     refine Run.seq ?_
     refine Run.region hL hT [] (by cbv) ?_ ?_
     · exact (hq Tt (hq Tt (hq Tt (hq (by decide : (0 : Int) ≤ 1) (hq (by decide : (1 : Int) < 64) hq0)))))
     refine Run.seq ?_
     obtain ⟨⟨qtc, qqW⟩, h_x57, h⟩ := bnd h
     obtain ⟨⟨quc, qrW⟩, h_x58, h⟩ := bnd h
     obtain ⟨r59, h_r59, h⟩ := bnd h
     refine Run.draw hL hT hM [(4, .el [.s (.int .i64 qtc), .ow 3 (qB qqW)]), (8, .el [.s (.int .i64 quc), .ow 3 (qB qrW)]), (9, .call [false, false] [.ag [.jk, .jk], .ag [.jk, .jk], .v (.jk)] [.v (.s (.int .i64 r59))])] (by cbv) (by cbv) (by cbv) (by cbv) (by cbv) ?_ ?_
     · exact (hq (qS h_x57) (hq (ql (f := Row_o) h_x57) (hq (qS h_x57) (hq (ql (f := Row_o) h_x57) (hq (qt (f := Row_o) h_x57) (hq (qS h_x58) (hq (ql (f := Row_o) h_x58) (hq (qS h_x58) (hq (ql (f := Row_o) h_x58) (hq (qt (f := Row_o) h_x58) (hq (hC (AC.args (qoE h_r59) (ALe.ag rfl (LLe.c (LLe.cons (LLe.im (RLe.eq (qQC qKD _))) LLe.nil)) (ALe.ag rfl (LLe.c (LLe.cons (LLe.im (RLe.eq (qQC qKD _))) LLe.nil)) (ALe.v LLe.r ALe.nil))))) (hq Tt hq0))))))))))))
     refine Run.cond (by cbv) (hq0) (fun c60 => ?_) (fun c60 => ?_)
     ·
      have h := if_t c60 h
      refine Run.region hL hT [] (by cbv) ?_ ?_
      · exact (hq Tt hq0)
      refine ⟨(ar .add .i64 (ar .or .i64 (ar .shr .u64 (ar .or .u64 (ar .add .i64 z54 z55) 0) 1) 0) 1), z55, h, Weak.of _ [(0, 0)] hA (by cbv) ?_⟩
      repeat (first | exact hq0 | refine hq (by first | exact Tt | rfl) ?_)
     have h := if_f c60 h
     refine Run.region hL hT [] (by cbv) hq0 ?_
     refine ⟨z54, (ar .or .i64 (ar .shr .u64 (ar .or .u64 (ar .add .i64 z54 z55) 0) 1) 0), h, Weak.of _ [(0, 0)] hA (by cbv) ?_⟩
     repeat (first | exact hq0 | refine hq (by first | exact Tt | rfl) ?_)
    have h := if_f c56 h
    refine Run.exit ?_
    refine ⟨z54, h, Weak.of _ [(0, 0)] hA (by cbv) ?_⟩
    repeat (first | exact hq0 | refine hq (by first | exact Tt | rfl) ?_)
   intro y39 h
   rw [h_K40] at h
   refine Run.seq ?_
   refine Run.seq ?_
   refine Run.region hL hT [] (by cbv) hq0 ?_
   refine Run.block ?_
   refine Run.loop2 (fun (z64 : List Row) (z65 : Int) => ⟨220, 100000, [(0, .rf 0), (14, .t (.s (.int .i64 y39))), (17, .t (.s (.int .i64 z65)))], [(0, .row 0 56 2 (qT z64))]⟩) (x0 := a0) (x1 := a2) h (Weak.of _ [(0, 0)] hA (by cbv) ?_) (fun _ _ => rfl) ?_
   · repeat (first | exact hq0 | refine hq (by first | exact Tt | rfl) ?_)
   intro k z64 z65 h
   rw [qA.l3] at h
   refine Run.seq ?_
   refine Run.seq ?_
   refine Run.region hL hT [] (by cbv) ?_ ?_
   · exact (hq Tt hq0)
   refine Run.cond (by cbv) (hq0) (fun c66 => ?_) (fun c66 => ?_)
   ·
    have h := if_t c66 h
    refine Run.skip ?_
    refine Run.seq ?_
    refine Run.block ?_
    obtain ⟨⟨qCZ, qPQ⟩, h_x67, h⟩ := bnd h
    obtain ⟨⟨qDZ, qQQ⟩, h_x68, h⟩ := bnd h
    obtain ⟨u69, h_u69, h⟩ := bnd h
    obtain ⟨l70, h_l70, h⟩ := bnd h
    refine Run.weak ?_ (Weak.take2 (rows := qT z64) (e2 := 3) (r1 := qB qPQ) (r2 := qB qQQ) hT 0 (ar .sub .i64 z65 1) z65 1 107096 1107096 107097 1107097 (by cbv) (by cbv) (by cbv) (by cbv) (by cbv) (by cbv) (qXE h_x67) (qBF Row_o h_x67) ((congrArg (fun q => q[1]?) (qt (f := Row_o) h_x67)).trans rfl) rfl (qXE h_x68) (qBF Row_o h_x68) (ne_t h_u69) ((congrArg (fun q => q[1]?) (qt (f := Row_o) h_x68)).trans rfl) rfl (by cbv) (up (up (qT z64) (ar .sub .i64 z65 1) 1 [.jk]) z65 1 [.jk]) rfl)
    refine Run.draw hL hT hM [(9, .lk [.s (.int .i64 qCZ), .jk] [(1, 1107096)]), (13, .lk [.s (.int .i64 qDZ), .jk] [(1, 1107097)])] (by cbv) (by cbv) (by cbv) (by cbv) (by cbv) ?_ ?_
    · exact (hq Tt (hq Tt (hq (qS h_x67) (hq (sw_lt Row_o h_x67) (hq Tt (hq (qS h_x67) (hq (sw_lt Row_o h_x67) (hq (qhS Row_o h_x67 h_x68 (ne_t h_u69)) (hq (qS h_x68) (hq (sw_lt Row_o h_x68) (hq Tt (hq (qS h_x68) (hq (sw_lt Row_o h_x68) (hq (qiS Row_o h_x67 h_x68 (ne_t h_u69)) (hq (qS h_x68) (hq (sw_lt Row_o h_x68) (hq (qS h_x68) (hq (sw_lt Row_o h_x68) (hq (qS h_x67) (hq (qUM Row_o h_x67) (hq (qS h_x67) (hq (qUM Row_o h_x67) hq0))))))))))))))))))))))
    refine Run.row (rows := (up (up (up (up (qT z64) (ar .sub .i64 z65 1) 1 [.jk]) z65 1 [.jk]) z65 0 [.s (.int .i64 qCZ), .ow 3 (qB qPQ)]) (ar .sub .i64 z65 1) 0 [.s (.int .i64 qDZ), .ow 3 (qB qQQ)])) 0 (qT l70) (by cbv) (qrQ (f := Row_o) qUR h_x67 h_x68 (ne_t h_u69) (by decide) (.inr ⟨rfl, rfl⟩) h_l70 rfl rfl) ?_
    refine Run.region hL hT [] (by cbv) ?_ ?_
    · exact (hq Tt hq0)
    refine ⟨l70, (ar .sub .i64 z65 1), h, Weak.of _ [(0, 0)] hA (by cbv) ?_⟩
    repeat (first | exact hq0 | refine hq (by first | exact Tt | rfl) ?_)
   have h := if_f c66 h
   refine Run.exit ?_
   refine Run.ret ?_
   cases h
   refine ⟨_, _, by cbv, ?_, ?_⟩
   · exact LLe.r
   exact ALe.nil
  have h := if_f c38 h
  refine Run.skip ?_
  refine ⟨(), h, Weak.of _ [(0, 0)] hA (by cbv) ?_⟩
  repeat (first | exact hq0 | refine hq (by first | exact Tt | rfl) ?_)
 intro y36 h
 rw [h_K37] at h
 refine Run.seq ?_
 refine Run.region hL hT [] (by cbv) ?_ ?_
 · exact (hq Tt (hq Tt (hq Tt (hq (by decide : (0 : Int) ≤ 1) (hq (by decide : (1 : Int) < 64) hq0)))))
 refine Run.seq ?_
 refine Run.region hL hT [] (by cbv) ?_ ?_
 · exact (hq Tt hq0)
 refine Run.seq ?_
 refine Run.region hL hT [] (by cbv) hq0 ?_
 obtain ⟨K75, h_K75, h⟩ := joinE h
 refine Run.join4 K75 (r := r) (fun (y71 : Int) (y72 : Int) (y73 : Int) (y74 : Int) => ⟨220, 100000, [(0, .rf 0), (1, .t (.s (.int .i64 a1))), (2, .t (.s (.int .i64 a2))), (3, .t (.s (.int .i64 a3))), (4, .fn 58 [.t (.ip [.s (.int .i64 qCB), .im false (qO qDB), .s (.int .i64 qEB), .s (.bool qNB), .s (.int .i64 qFB), .im false (qB qOB), .s (.bool qPB), .s (.int .i64 qe), .s (.int .i64 qq)])]), (18, .t (.s (.int .i64 y71))), (19, .t (.s (.int .i64 y72))), (20, .t (.s (.int .i64 y73))), (21, .t (.s (.int .i64 y74)))], [(0, .row 0 56 2 (qT a0))]⟩) ?_ ?_
 ·
  skip
  refine Run.seq ?_
  refine Run.region hL hT [] (by cbv) ?_ ?_
  · exact (hq Tt hq0)
  refine Run.cond (by cbv) (hq0) (fun c76 => ?_) (fun c76 => ?_)
  ·
   have h := if_t c76 h
   refine Run.seq ?_
   refine Run.region hL hT [] (by cbv) ?_ ?_
   · exact (hq Tt hq0)
   refine Run.region hL hT [] (by cbv) hq0 ?_
   refine ⟨(ar .or .i64 (ar .shr .u64 (ar .or .u64 (ar .add .i64 a1 a3) 0) 1) 0), (ar .add .i64 (ar .or .i64 (ar .shr .u64 (ar .or .u64 (ar .add .i64 a1 a3) 0) 1) 0) a2), (ar .sub .i64 (ar .add .i64 (ar .or .i64 (ar .shr .u64 (ar .or .u64 (ar .add .i64 a1 a3) 0) 1) 0) a2) a3), (ar .or .i64 (ar .shr .u64 (ar .or .u64 (ar .add .i64 a1 a3) 0) 1) 0), h, Weak.of _ [(0, 0)] hA (by cbv) ?_⟩
   repeat (first | exact hq0 | refine hq (by first | exact Tt | rfl) ?_)
  have h := if_f c76 h
  refine Run.seq ?_
  refine Run.region hL hT [] (by cbv) hq0 ?_
  refine Run.region hL hT [] (by cbv) hq0 ?_
  refine ⟨(ar .or .i64 (ar .shr .u64 (ar .or .u64 (ar .add .i64 a1 a3) 0) 1) 0), (ar .add .i64 (ar .or .i64 (ar .shr .u64 (ar .or .u64 (ar .add .i64 a1 a3) 0) 1) 0) a2), a1, a2, h, Weak.of _ [(0, 0)] hA (by cbv) ?_⟩
  repeat (first | exact hq0 | refine hq (by first | exact Tt | rfl) ?_)
 intro y71 y72 y73 y74 h
 rw [h_K75] at h
 refine Run.seq ?_
 refine Run.region hL hT [] (by cbv) ?_ ?_
 · exact (hq Tt hq0)
 obtain ⟨K78, h_K78, h⟩ := joinE h
 refine Run.join1 K78 (r := r) (fun (y77 : Int) => ⟨220, 100000, [(0, .rf 0), (1, .t (.s (.int .i64 a1))), (2, .t (.s (.int .i64 a2))), (3, .t (.s (.int .i64 a3))), (4, .fn 58 [.t (.ip [.s (.int .i64 qCB), .im false (qO qDB), .s (.int .i64 qEB), .s (.bool qNB), .s (.int .i64 qFB), .im false (qB qOB), .s (.bool qPB), .s (.int .i64 qe), .s (.int .i64 qq)])]), (18, .t (.s (.int .i64 y71))), (19, .t (.s (.int .i64 y72))), (20, .t (.s (.int .i64 y77)))], [(0, .row 0 56 2 (qT a0))]⟩) ?_ ?_
 ·
  skip
  refine Run.block ?_
  refine Run.loop3 (fun (z97 : Int) (z98 : Int) (z99 : Int) => ⟨220, 100000, [(0, .rf 0), (1, .t (.s (.int .i64 a1))), (2, .t (.s (.int .i64 a2))), (3, .t (.s (.int .i64 a3))), (4, .fn 58 [.t (.ip [.s (.int .i64 qCB), .im false (qO qDB), .s (.int .i64 qEB), .s (.bool qNB), .s (.int .i64 qFB), .im false (qB qOB), .s (.bool qPB), .s (.int .i64 qe), .s (.int .i64 qq)])]), (18, .t (.s (.int .i64 y71))), (19, .t (.s (.int .i64 y72))), (20, .t (.s (.int .i64 z97))), (21, .t (.s (.int .i64 z98))), (22, .t (.s (.int .i64 z99)))], [(0, .row 0 56 2 (qT a0))]⟩) (x0 := y73) (x1 := y74) (x2 := (ar .sub .i64 y72 1)) h (Weak.of _ [(0, 0)] hA (by cbv) ?_) (fun _ _ _ => rfl) ?_
  · repeat (first | exact hq0 | refine hq (by first | exact Tt | rfl) ?_)
  intro k z97 z98 z99 h
  rw [qA.l4] at h
  refine Run.seq ?_
  refine Run.seq ?_
  refine Run.region hL hT [] (by cbv) ?_ ?_
  · exact (hq Tt hq0)
  refine Run.cond (by cbv) (hq0) (fun c100 => ?_) (fun c100 => ?_)
  ·
   have h := if_t c100 h
   refine Run.skip ?_
   refine Run.block ?_
   refine Run.seq ?_
   refine Run.region hL hT [] (by cbv) ?_ ?_
   · exact (hq Tt (hq Tt (hq Tt (hq (by decide : (0 : Int) ≤ 1) (hq (by decide : (1 : Int) < 64) hq0)))))
   refine Run.seq ?_
   obtain ⟨⟨qDb, qlU⟩, qPT, h⟩ := bnd h
   obtain ⟨⟨qEb, qmU⟩, qQT, h⟩ := bnd h
   obtain ⟨r103, qid, h⟩ := bnd h
   refine Run.draw hL hT hM [(6, .el [.s (.int .i64 qDb), .ow 3 (qB qlU)]), (10, .el [.s (.int .i64 qEb), .ow 3 (qB qmU)]), (11, .call [false, false] [.ag [.jk, .jk], .ag [.jk, .jk], .v (.jk)] [.v (.s (.int .i64 r103))])] (by cbv) (by cbv) (by cbv) (by cbv) (by cbv) ?_ ?_
   · exact (hq Tt (hq (qS qPT) (hq (ql (f := Row_o) qPT) (hq (qS qPT) (hq (ql (f := Row_o) qPT) (hq (qt (f := Row_o) qPT) (hq (qS qQT) (hq (ql (f := Row_o) qQT) (hq (qS qQT) (hq (ql (f := Row_o) qQT) (hq (qt (f := Row_o) qQT) (hq (hC (AC.args (qoE qid) (ALe.ag rfl (LLe.c (LLe.cons (LLe.im (RLe.eq (qQC qKD _))) LLe.nil)) (ALe.ag rfl (LLe.c (LLe.cons (LLe.im (RLe.eq (qQC qKD _))) LLe.nil)) (ALe.v LLe.r ALe.nil))))) (hq Tt hq0)))))))))))))
   refine Run.cond (by cbv) (hq0) (fun c104 => ?_) (fun c104 => ?_)
   ·
    have h := if_t c104 h
    refine Run.region hL hT [] (by cbv) ?_ ?_
    · exact (hq Tt hq0)
    refine ⟨(ar .add .i64 (ar .or .i64 (ar .shr .u64 (ar .or .u64 (ar .add .i64 z97 z98) 0) 1) 0) 1), z98, z99, h, Weak.of _ [(0, 0)] hA (by cbv) ?_⟩
    repeat (first | exact hq0 | refine hq (by first | exact Tt | rfl) ?_)
   have h := if_f c104 h
   refine Run.region hL hT [] (by cbv) hq0 ?_
   refine ⟨z97, (ar .or .i64 (ar .shr .u64 (ar .or .u64 (ar .add .i64 z97 z98) 0) 1) 0), z99, h, Weak.of _ [(0, 0)] hA (by cbv) ?_⟩
   repeat (first | exact hq0 | refine hq (by first | exact Tt | rfl) ?_)
  have h := if_f c100 h
  refine Run.exit ?_
  refine ⟨z97, h, Weak.of _ [(0, 0)] hA (by cbv) ?_⟩
  repeat (first | exact hq0 | refine hq (by first | exact Tt | rfl) ?_)
 intro y77 h
 rw [h_K78] at h
 refine Run.seq ?_
 refine Run.region hL hT [] (by cbv) ?_ ?_
 · exact (hq Tt hq0)
 obtain ⟨K107, h_K107, h⟩ := joinE h
 refine Run.join2 K107 (r := r) (fun (y105 : List Row) (y106 : Int) => ⟨220, 100000, [(0, .rf 0), (1, .t (.s (.int .i64 a1))), (3, .t (.s (.int .i64 a3))), (4, .fn 58 [.t (.ip [.s (.int .i64 qCB), .im false (qO qDB), .s (.int .i64 qEB), .s (.bool qNB), .s (.int .i64 qFB), .im false (qB qOB), .s (.bool qPB), .s (.int .i64 qe), .s (.int .i64 qq)])]), (18, .t (.s (.int .i64 y71))), (20, .t (.s (.int .i64 y77))), (24, .t (.s (.int .i64 y106)))], [(0, .row 0 56 2 (qT y105))]⟩) ?_ ?_
 ·
  skip
  refine Run.seq ?_
  refine Run.region hL hT [] (by cbv) ?_ ?_
  · exact (hq Tt (hq (fun _ => hq0) (hq (fun _ => hq0) (hq (fun g110 => (hq g110 (hq g110 (hq Tt hq0)))) (hq (fun q111 => (hq q111 hq0)) (hq (fun _ => hq0) hq0))))))
  refine Run.cond (by cbv) (hq0) (fun c113 => ?_) (fun c113 => ?_)
  ·
   have h := if_t c113 h
   obtain ⟨r114, qjd, h⟩ := bnd h
   refine Run.region hL hT [(5, .call [true, false, false, false, false] [.v (.ow 56 (qT r114)), .v (.jk), .v (.jk), .v (.jk), .v (.jk)] [])] (by cbv) ?_ ?_
   · exact (hq (hC (qdD qjd)) hq0)
   refine ⟨r114, (ar .sub .i64 y72 y77), h, Weak.of _ [(0, 0)] hA (by cbv) ?_⟩
   repeat (first | exact hq0 | refine hq (by first | exact Tt | rfl) ?_)
  have h := if_f c113 h
  refine Run.skip ?_
  refine ⟨a0, (ar .sub .i64 y72 y77), h, Weak.of _ [(0, 0)] hA (by cbv) ?_⟩
  repeat (first | exact hq0 | refine hq (by first | exact Tt | rfl) ?_)
 intro y105 y106 h
 rw [h_K107] at h
 obtain ⟨K116, h_K116, h⟩ := joinE h
 refine Run.join1 K116 (r := r) (fun (y115 : List Row) => ⟨220, 100000, [(0, .rf 0), (3, .t (.s (.int .i64 a3))), (4, .fn 58 [.t (.ip [.s (.int .i64 qCB), .im false (qO qDB), .s (.int .i64 qEB), .s (.bool qNB), .s (.int .i64 qFB), .im false (qB qOB), .s (.bool qPB), .s (.int .i64 qe), .s (.int .i64 qq)])]), (18, .t (.s (.int .i64 y71))), (24, .t (.s (.int .i64 y106)))], [(0, .row 0 56 2 (qT y115))]⟩) ?_ ?_
 ·
  skip
  refine Run.seq ?_
  refine Run.region hL hT [] (by cbv) ?_ ?_
  · exact (hq Tt (hq (fun _ => hq0) (hq (fun _ => hq0) (hq (fun g119 => (hq g119 (hq g119 (hq Tt hq0)))) (hq (fun q120 => (hq q120 hq0)) (hq (fun _ => hq0) hq0))))))
  refine Run.cond (by cbv) (hq0) (fun c122 => ?_) (fun c122 => ?_)
  ·
   have h := if_t c122 h
   obtain ⟨r123, qkd, h⟩ := bnd h
   refine Run.region hL hT [(5, .call [true, false, false, false, false] [.v (.ow 56 (qT r123)), .v (.jk), .v (.jk), .v (.jk), .v (.jk)] [])] (by cbv) ?_ ?_
   · exact (hq (hC (hself qkd)) hq0)
   refine ⟨r123, h, Weak.of _ [(0, 0)] hA (by cbv) ?_⟩
   repeat (first | exact hq0 | refine hq (by first | exact Tt | rfl) ?_)
  have h := if_f c122 h
  refine Run.skip ?_
  refine ⟨y105, h, Weak.of _ [(0, 0)] hA (by cbv) ?_⟩
  repeat (first | exact hq0 | refine hq (by first | exact Tt | rfl) ?_)
 intro y115 h
 rw [h_K116] at h
 refine Run.seq ?_
 refine Run.region hL hT [] (by cbv) ?_ ?_
 · exact (hq Tt (hq (fun _ => hq0) (hq (fun _ => hq0) (hq (fun g126 => (hq g126 (hq g126 (hq Tt hq0)))) (hq (fun q127 => (hq q127 hq0)) (hq (fun _ => hq0) hq0))))))
 refine Run.cond (by cbv) (hq0) (fun c129 => ?_) (fun c129 => ?_)
 ·
  have h := if_t c129 h
  obtain ⟨r130, qEZ, h⟩ := bnd h
  refine Run.region hL hT [(5, .call [true, false, false, false, false] [.v (.ow 56 (qT r130)), .v (.jk), .v (.jk), .v (.jk), .v (.jk)] [])] (by cbv) ?_ ?_
  · exact (hq (hC (hself qEZ)) hq0)
  cases h
  refine ⟨_, _, by cbv, ?_, ?_⟩
  · exact LLe.r
  exact ALe.nil
 have h := if_f c129 h
 refine Run.skip ?_
 cases h
 refine ⟨_, _, by cbv, ?_, ?_⟩
 · exact LLe.r
 exact ALe.nil
theorem qIC : ∀ (k : Nat) {a0 : List Row} {a1 : Int} {a2 : Int} {a3 : Int} {qCB : Int} {qDB : List Cond} {qEB : Int} {qNB : Bool} {qFB : Int} {qOB : List Int} {qPB : Bool} {qe : Int} {qq : Int} {r : (List Row)} (h : qA.g k a0 a1 a2 a3 (Query.mk qCB qDB qEB qNB qFB qOB qPB qe qq) = some r), AC Tryz.prog 151 [.v (.ow 56 (rowsOf Row_o a0)), .v (.s (.int .i64 a1)), .v (.s (.int .i64 a2)), .v (.s (.int .i64 a3)), .v (.fn 58 [.ip [.s (.int .i64 qCB), .im false (rowsOf qGB qDB), .s (.int .i64 qEB), .s (.bool qNB), .s (.int .i64 qFB), .im false (rowsOf Int_c qOB), .s (.bool qPB), .s (.int .i64 qe), .s (.int .i64 qq)]])] [.v (.ow 56 (rowsOf Row_o r)), .v (.jk), .v (.jk), .v (.jk), .v (.jk)] []
 | 0 => fun h => by cases h
 | k + 1 => fun h => qWD (qA.g k) (qIC k) h
theorem qMC {a0 : List Row} {a1 : Int} {a2 : Int} {a3 : Int} {qCB : Int} {qDB : List Cond} {qEB : Int} {qNB : Bool} {qFB : Int} {qOB : List Int} {qPB : Bool} {qe : Int} {qq : Int} {r : (List Row)} (h : qA.f a0 a1 a2 a3 (Query.mk qCB qDB qEB qNB qFB qOB qPB qe qq) = some r) : AC Tryz.prog 151 [.v (.ow 56 (rowsOf Row_o a0)), .v (.s (.int .i64 a1)), .v (.s (.int .i64 a2)), .v (.s (.int .i64 a3)), .v (.fn 58 [.ip [.s (.int .i64 qCB), .im false (rowsOf qGB qDB), .s (.int .i64 qEB), .s (.bool qNB), .s (.int .i64 qFB), .im false (rowsOf Int_c qOB), .s (.bool qPB), .s (.int .i64 qe), .s (.int .i64 qq)]])] [.v (.ow 56 (rowsOf Row_o r)), .v (.jk), .v (.jk), .v (.jk), .v (.jk)] [] := qIC 1000 h
theorem qeD {a0 : List Row} {a1 : Int} {qeE : Int} {qfE : List Cond} {qgE : Int} {qJF : Bool} {qhE : Int} {qKF : List Int} {qLF : Bool} {qOD : Int} {qxD : Int} {r : (List Row)} (h : qC.f a0 a1 (Query.mk qeE qfE qgE qJF qhE qKF qLF qOD qxD) = some r) : AC Tryz.prog 122 [.v (.ow 56 (rowsOf Row_o a0)), .v (.s (.int .i64 a1)), .v (.fn 58 [.ip [.s (.int .i64 qeE), .im false (rowsOf qGB qfE), .s (.int .i64 qgE), .s (.bool qJF), .s (.int .i64 qhE), .im false (rowsOf Int_c qKF), .s (.bool qLF), .s (.int .i64 qOD), .s (.int .i64 qxD)]])] [.v (.ow 56 (rowsOf Row_o r)), .v (.jk), .v (.jk)] [] := by
 unfold qC.f at h
 let qO := rowsOf qGB
 let qB := rowsOf Int_c
 let qT := rowsOf Row_o
 show AC Tryz.prog 122 [.v (.ow 56 (qT a0)), .v (.s (.int .i64 a1)), .v (.fn 58 [.ip [.s (.int .i64 qeE), .im false (qO qfE), .s (.int .i64 qgE), .s (.bool qJF), .s (.int .i64 qhE), .im false (qB qKF), .s (.bool qLF), .s (.int .i64 qOD), .s (.int .i64 qxD)]])] _ _
 refine run3 Tryz.func122 (by rfl) (by rfl) (by cbv) ⟨by decide, rfl⟩ ?_
 intro ar cm bo sc sa sx ss sl bs sb ln sr ap up rp fr ge le lt nz mm ma sm fl al ci hL F hP hA hT hM hC
 refine Run.weak ?_ (Weak.fnT 2 (by cbv))
 refine Run.seq ?_
 refine Run.region hL hT [] (by cbv) hq0 ?_
 refine Run.seq ?_
 refine Run.region hL hT [] (by cbv) hq0 ?_
 obtain ⟨K3, h_K3, h⟩ := joinE h
 refine Run.join2 K3 (r := r) (fun (y1 : List Row) (y2 : Int) => ⟨63, 100000, [(0, .rf 0), (1, .t (.s (.int .i64 a1))), (2, .fn 58 [.t (.ip [.s (.int .i64 qeE), .im false (qO qfE), .s (.int .i64 qgE), .s (.bool qJF), .s (.int .i64 qhE), .im false (qB qKF), .s (.bool qLF), .s (.int .i64 qOD), .s (.int .i64 qxD)])]), (6, .t (.s (.int .i64 20))), (7, .t (.s (.int .i64 y2)))], [(0, .row 0 56 2 (qT y1))]⟩) ?_ ?_
 ·
  skip
  refine Run.block ?_
  refine Run.loop3 (fun (z18 : List Row) (z19 : Int) (z20 : Int) => ⟨63, 100000, [(0, .rf 0), (1, .t (.s (.int .i64 a1))), (2, .fn 58 [.t (.ip [.s (.int .i64 qeE), .im false (qO qfE), .s (.int .i64 qgE), .s (.bool qJF), .s (.int .i64 qhE), .im false (qB qKF), .s (.bool qLF), .s (.int .i64 qOD), .s (.int .i64 qxD)])]), (6, .t (.s (.int .i64 20))), (7, .t (.s (.int .i64 z19))), (8, .t (.s (.int .i64 z20)))], [(0, .row 0 56 2 (qT z18))]⟩) (x0 := a0) (x1 := 0) (x2 := 20) h (Weak.of _ [(0, 0)] hA (by cbv) ?_) (fun _ _ _ => rfl) ?_
  · repeat (first | exact hq0 | refine hq (by first | exact Tt | rfl) ?_)
  intro k z18 z19 z20 h
  rw [qC.l0] at h
  refine Run.seq ?_
  refine Run.seq ?_
  refine Run.region hL hT [] (by cbv) ?_ ?_
  · exact (hq Tt hq0)
  refine Run.cond (by cbv) (hq0) (fun c21 => ?_) (fun c21 => ?_)
  ·
   have h := if_t c21 h
   refine Run.skip ?_
   refine Run.block ?_
   refine Run.seq ?_
   obtain ⟨r22, h_r22, h⟩ := bnd h
   refine Run.region hL hT [(4, .call [true, false, false, false] [.v (.ow 56 (qT r22)), .v (.jk), .v (.jk), .v (.jk)] [])] (by cbv) ?_ ?_
   · exact (hq (hC (qxB h_r22)) hq0)
   refine Run.seq ?_
   refine Run.region hL hT [] (by cbv) hq0 ?_
   refine Run.region hL hT [] (by cbv) ?_ ?_
   · exact (hq Tt hq0)
   refine ⟨r22, z20, (ar .add .i64 z20 20), h, Weak.of _ [(0, 0)] hA (by cbv) ?_⟩
   repeat (first | exact hq0 | refine hq (by first | exact Tt | rfl) ?_)
  have h := if_f c21 h
  refine Run.exit ?_
  refine ⟨z18, z19, h, Weak.of _ [(0, 0)] hA (by cbv) ?_⟩
  repeat (first | exact hq0 | refine hq (by first | exact Tt | rfl) ?_)
 intro y1 y2 h
 rw [h_K3] at h
 refine Run.seq ?_
 obtain ⟨r23, h_r23, h⟩ := bnd h
 refine Run.region hL hT [(4, .call [true, false, false, false] [.v (.ow 56 (qT r23)), .v (.jk), .v (.jk), .v (.jk)] [])] (by cbv) ?_ ?_
 · exact (hq (hC (qxB h_r23)) hq0)
 refine Run.block ?_
 refine Run.loop2 (fun (z36 : List Row) (z37 : Int) => ⟨63, 100000, [(0, .rf 0), (1, .t (.s (.int .i64 a1))), (2, .fn 58 [.t (.ip [.s (.int .i64 qeE), .im false (qO qfE), .s (.int .i64 qgE), .s (.bool qJF), .s (.int .i64 qhE), .im false (qB qKF), .s (.bool qLF), .s (.int .i64 qOD), .s (.int .i64 qxD)])]), (6, .t (.s (.int .i64 z37)))], [(0, .row 0 56 2 (qT z36))]⟩) (x0 := r23) (x1 := 20) h (Weak.of _ [(0, 0)] hA (by cbv) ?_) (fun _ _ => rfl) ?_
 · repeat (first | exact hq0 | refine hq (by first | exact Tt | rfl) ?_)
 intro k z36 z37 h
 rw [qC.l1] at h
 refine Run.seq ?_
 refine Run.seq ?_
 refine Run.region hL hT [] (by cbv) ?_ ?_
 · exact (hq Tt hq0)
 refine Run.cond (by cbv) (hq0) (fun c38 => ?_) (fun c38 => ?_)
 ·
  have h := if_t c38 h
  refine Run.skip ?_
  refine Run.block ?_
  refine Run.seq ?_
  refine Run.region hL hT [] (by cbv) ?_ ?_
  · exact (hq Tt hq0)
  obtain ⟨K41, h_K41, h⟩ := joinE h
  refine Run.join2 K41 (r := r) (fun (y39 : List Row) (y40 : Int) => ⟨63, 100000, [(0, .rf 0), (1, .t (.s (.int .i64 a1))), (2, .fn 58 [.t (.ip [.s (.int .i64 qeE), .im false (qO qfE), .s (.int .i64 qgE), .s (.bool qJF), .s (.int .i64 qhE), .im false (qB qKF), .s (.bool qLF), .s (.int .i64 qOD), .s (.int .i64 qxD)])]), (6, .t (.s (.int .i64 z37))), (7, .t (.s (.int .i64 y40)))], [(0, .row 0 56 2 (qT y39))]⟩) ?_ ?_
  ·
   skip
   refine Run.block ?_
   refine Run.loop3 (fun (z56 : List Row) (z57 : Int) (z58 : Int) => ⟨63, 100000, [(0, .rf 0), (1, .t (.s (.int .i64 a1))), (2, .fn 58 [.t (.ip [.s (.int .i64 qeE), .im false (qO qfE), .s (.int .i64 qgE), .s (.bool qJF), .s (.int .i64 qhE), .im false (qB qKF), .s (.bool qLF), .s (.int .i64 qOD), .s (.int .i64 qxD)])]), (6, .t (.s (.int .i64 z37))), (7, .t (.s (.int .i64 z57))), (8, .t (.s (.int .i64 z58)))], [(0, .row 0 56 2 (qT z56))]⟩) (x0 := z36) (x1 := 0) (x2 := (ar .mul .i64 2 z37)) h (Weak.of _ [(0, 0)] hA (by cbv) ?_) (fun _ _ _ => rfl) ?_
   · repeat (first | exact hq0 | refine hq (by first | exact Tt | rfl) ?_)
   intro k z56 z57 z58 h
   rw [qC.l2] at h
   refine Run.seq ?_
   refine Run.seq ?_
   refine Run.region hL hT [] (by cbv) ?_ ?_
   · exact (hq Tt hq0)
   refine Run.cond (by cbv) (hq0) (fun c59 => ?_) (fun c59 => ?_)
   ·
    have h := if_t c59 h
    refine Run.skip ?_
    refine Run.block ?_
    refine Run.seq ?_
    obtain ⟨r60, h_r60, h⟩ := bnd h
    refine Run.region hL hT [(7, .call [true, false, false, false, false] [.v (.ow 56 (qT r60)), .v (.jk), .v (.jk), .v (.jk), .v (.jk)] [])] (by cbv) ?_ ?_
    · exact (hq Tt (hq (hC (qMC h_r60)) hq0))
    refine Run.seq ?_
    refine Run.region hL hT [] (by cbv) hq0 ?_
    refine Run.region hL hT [] (by cbv) ?_ ?_
    · exact (hq Tt (hq Tt hq0))
    refine ⟨r60, z58, (ar .add .i64 z58 (ar .mul .i64 2 z37)), h, Weak.of _ [(0, 0)] hA (by cbv) ?_⟩
    repeat (first | exact hq0 | refine hq (by first | exact Tt | rfl) ?_)
   have h := if_f c59 h
   refine Run.exit ?_
   refine ⟨z56, z57, h, Weak.of _ [(0, 0)] hA (by cbv) ?_⟩
   repeat (first | exact hq0 | refine hq (by first | exact Tt | rfl) ?_)
  intro y39 y40 h
  rw [h_K41] at h
  refine Run.seq ?_
  refine Run.seq ?_
  refine Run.region hL hT [] (by cbv) ?_ ?_
  · exact (hq Tt hq0)
  refine Run.seq ?_
  refine Run.region hL hT [] (by cbv) ?_ ?_
  · exact (hq Tt hq0)
  refine Run.cond (by cbv) (hq0) (fun c61 => ?_) (fun c61 => ?_)
  ·
   have h := if_t c61 h
   obtain ⟨r62, h_r62, h⟩ := bnd h
   refine Run.region hL hT [(5, .call [true, false, false, false, false] [.v (.ow 56 (qT r62)), .v (.jk), .v (.jk), .v (.jk), .v (.jk)] [])] (by cbv) ?_ ?_
   · exact (hq (hC (qMC h_r62)) hq0)
   refine Run.region hL hT [] (by cbv) ?_ ?_
   · exact (hq Tt hq0)
   refine ⟨r62, (ar .mul .i64 z37 2), h, Weak.of _ [(0, 0)] hA (by cbv) ?_⟩
   repeat (first | exact hq0 | refine hq (by first | exact Tt | rfl) ?_)
  have h := if_f c61 h
  refine Run.skip ?_
  refine Run.region hL hT [] (by cbv) ?_ ?_
  · exact (hq Tt hq0)
  refine ⟨y39, (ar .mul .i64 z37 2), h, Weak.of _ [(0, 0)] hA (by cbv) ?_⟩
  repeat (first | exact hq0 | refine hq (by first | exact Tt | rfl) ?_)
 have h := if_f c38 h
 refine Run.exit ?_
 cases h
 refine ⟨_, _, by cbv, ?_, ?_⟩
 · exact LLe.r
 exact ALe.nil
theorem qaD {a0 : List Row} {qSK : Int} {qTK : List Cond} {qUK : Int} {qsL : Bool} {qVK : Int} {qtL : List Int} {quL : Bool} {qWH : Int} {qEJ : Int} {r : (List Row)} (h : qo.f a0 (Query.mk qSK qTK qUK qsL qVK qtL quL qWH qEJ) = some r) : AC Tryz.prog 57 [.v (.ow 56 (rowsOf Row_o a0)), .v (.fn 58 [.ip [.s (.int .i64 qSK), .im false (rowsOf qGB qTK), .s (.int .i64 qUK), .s (.bool qsL), .s (.int .i64 qVK), .im false (rowsOf Int_c qtL), .s (.bool quL), .s (.int .i64 qWH), .s (.int .i64 qEJ)]])] [.v (.ow 56 (rowsOf Row_o r)), .v (.jk)] [] := by
 unfold qo.f at h
 let qO := rowsOf qGB
 let qB := rowsOf Int_c
 let qT := rowsOf Row_o
 let qm := @lenI Row
 show AC Tryz.prog 57 [.v (.ow 56 (qT a0)), .v (.fn 58 [.ip [.s (.int .i64 qSK), .im false (qO qTK), .s (.int .i64 qUK), .s (.bool qsL), .s (.int .i64 qVK), .im false (qB qtL), .s (.bool quL), .s (.int .i64 qWH), .s (.int .i64 qEJ)]])] _ _
 refine run3 Tryz.func57 (by rfl) (by rfl) (by cbv) ⟨by decide, rfl⟩ ?_
 intro ar cm bo sc sa sx ss sl bs sb ln sr ap up rp fr ge le lt nz mm ma sm fl al ci hL F hP hA hT hM hC
 refine Run.weak ?_ (Weak.fnT 1 (by cbv))
 obtain ⟨r1, h_r1, h⟩ := bnd h
 refine Run.region hL hT [(4, .call [true, false, false] [.v (.ow 56 (qT r1)), .v (.jk), .v (.jk)] [])] (by cbv) ?_ ?_
 · exact (hq (by rw [show ln (qT a0) = qm a0 from ln_eq Row_o _]; exact (hC (qeD h_r1))) hq0)
 rw [show ln (qT a0) = qm a0 from ln_eq Row_o _]
 cases h
 refine ⟨_, _, by cbv, ?_, ?_⟩
 · exact LLe.r
 exact ALe.nil
theorem qcO {qE : List Int} {qL : Int} {qI : List (List Row)} {qN : Int} {qn : List Cond} {qkB : Int} {qCC : Bool} {qlB : Int} {qtB : List Int} {qDC : Bool} {qBB : Int} {qaB : Int} {r : (List Row)} (h : qkC.f (Store.mk (Schema.mk qE) qL qI) (Query.mk qN qn qkB qCC qlB qtB qDC qBB qaB) = some r) : AC Tryz.prog 16 [.ag [.im false (rowsOf Int_c qE), .s (.int .i64 qL), .im false (rowsOf qZB qI)], .ag [.s (.int .i64 qN), .im false (rowsOf qGB qn), .s (.int .i64 qkB), .s (.bool qCC), .s (.int .i64 qlB), .im false (rowsOf Int_c qtB), .s (.bool qDC), .s (.int .i64 qBB), .s (.int .i64 qaB)]] [.ag [.jk, .jk, .jk], .ag [.jk, .jk, .jk, .jk, .jk, .jk, .jk, .jk, .jk]] [.v (.ow 56 (rowsOf Row_o r))] := by
 unfold qkC.f at h
 let qO := rowsOf qGB
 let qB := rowsOf Int_c
 let qMB := rowsOf qZB
 let qAB := rowsOf Row_i
 let qT := rowsOf Row_o
 let qm := @lenI Row
 show AC Tryz.prog 16 [.ag [.im false (qB qE), .s (.int .i64 qL), .im false (qMB qI)], .ag [.s (.int .i64 qN), .im false (qO qn), .s (.int .i64 qkB), .s (.bool qCC), .s (.int .i64 qlB), .im false (qB qtB), .s (.bool qDC), .s (.int .i64 qBB), .s (.int .i64 qaB)]] _ _
 refine run3 Tryz.func16 (by rfl) (by rfl) (by cbv) ⟨by decide, rfl⟩ ?_
 intro ar cm bo sc sa sx ss sl bs sb ln sr ap up rp fr ge le lt nz mm ma sm fl al ci hL F hP hA hT hM hC
 refine Run.seq ?_
 refine Run.region hL hT [] (by cbv) hq0 ?_
 refine Run.seq ?_
 refine Run.region hL hT [] (by cbv) hq0 ?_
 refine Run.seq ?_
 refine Run.seq ?_
 obtain ⟨r1, h_r1, h⟩ := bnd h
 obtain ⟨r2, h_r2, h⟩ := bnd h
 refine Run.region hL hT [(1, .call [false] [.ag [.jk, .jk, .jk]] [.v (.s (.bool r1))]), (7, .call [false, false] [.ag [.jk], .ag [.jk, .jk, .jk, .jk, .jk, .jk, .jk, .jk, .jk]] [.v (.s (.bool r2))])] (by cbv) ?_ ?_
 · exact (hq Tt (hq (hC (qrD h_r1)) (hq (fun _ => hq0) (hq (fun g4 => (hq g4 (hq Tt hq0))) (hq (fun g5 => (hq Tt hq0)) (hq (fun g6 => (hq g6 (hq g6 (hq (hC (qSF (gd_t h_r2 g6))) hq0)))) (hq (fun g7 => (hq g7 hq0)) (hq (fun _ => hq0) (hq (fun q9 => (hq (bo_m q9) hq0)) hq0)))))))))
 refine Run.cond (by cbv) (hq0) (fun c10 => ?_) (fun c10 => ?_)
 ·
  have h := if_t c10 h
  refine Run.seq ?_
  refine Run.region hL hT [] (by cbv) hq0 ?_
  refine Run.ret ?_
  cases h
  refine ⟨_, _, by cbv, ?_, ?_⟩
  · exact LLe.r
  exact (ALe.v LLe.r ALe.nil)
 have h := if_f c10 h
 refine Run.skip ?_
 obtain ⟨K12, h_K12, h⟩ := joinE h
 refine Run.join1 K12 (r := r) (fun (y11 : List Row) => ⟨44, 100000, [(3, .pt 1 0 0), (5, .rf 2)], [(1, .box 32 [.t (.s (.int .i64 qN)), .t (.im false (qO qn)), .t (.s (.int .i64 qkB)), .t (.s (.bool qCC)), .t (.s (.int .i64 qlB)), .t (.im false (qB qtB)), .t (.s (.bool qDC)), .t (.s (.int .i64 qBB)), .t (.s (.int .i64 qaB))]), (2, .row 0 56 2 (qT y11))]⟩) ?_ ?_
 ·
  skip
  refine Run.seq ?_
  obtain ⟨x13, h_x13, h⟩ := bnd h
  refine Run.region hL hT [(4, .el [.im false (qAB x13)])] (by cbv) ?_ ?_
  · exact (hq Tt (hq Tt (hq (qS h_x13) (hq (ql (f := qZB) h_x13) (hq (qt (f := qZB) h_x13) hq0)))))
  rw [show ln (qAB x13) = qm x13 from ln_eq Row_i _]
  refine Run.block ?_
  refine Run.loop2 (fun (z27 : List Row) (z28 : Int) => ⟨44, 100000, [(3, .pt 1 0 0), (5, .rf 2), (25, .t (.im false (qAB x13))), (26, .t (.s (.int .i64 (qm x13)))), (27, .t (.s (.int .i64 z28)))], [(1, .box 32 [.t (.s (.int .i64 qN)), .t (.im false (qO qn)), .t (.s (.int .i64 qkB)), .t (.s (.bool qCC)), .t (.s (.int .i64 qlB)), .t (.im false (qB qtB)), .t (.s (.bool qDC)), .t (.s (.int .i64 qBB)), .t (.s (.int .i64 qaB))]), (2, .row 0 56 2 (qT z27))]⟩) (x0 := []) (x1 := 0) h (Weak.of _ [(1, 1), (2, 4096)] hA (by cbv) ?_) (fun _ _ => rfl) ?_
  · repeat (first | exact hq0 | refine hq (by first | exact Tt | rfl) ?_)
  intro k z27 z28 h
  rw [qkC.l0] at h
  refine Run.seq ?_
  refine Run.region hL hT [] (by cbv) ?_ ?_
  · exact (hq Tt hq0)
  refine Run.seq ?_
  refine Run.cond (by cbv) (hq0) (fun c29 => ?_) (fun c29 => ?_)
  ·
   have h := if_t c29 h
   refine Run.skip ?_
   refine Run.seq ?_
   refine Run.block ?_
   refine Run.seq ?_
   obtain ⟨⟨qvc, qsW⟩, h_x30, h⟩ := bnd h
   refine Run.region hL hT [(0, .el [.s (.int .i64 qvc), .im false (qB qsW)])] (by cbv) ?_ ?_
   · exact (hq (qS h_x30) (hq (ql (f := Row_i) h_x30) (hq (qt (f := Row_i) h_x30) (hq Tt hq0))))
   refine Run.seq ?_
   obtain ⟨r31, h_r31, h⟩ := bnd h
   refine Run.region hL hT [(2, .call [false, false] [.ag [.jk, .jk, .jk, .jk, .jk, .jk, .jk, .jk, .jk], .ag [.jk, .jk]] [.v (.s (.bool r31))])] (by cbv) ?_ ?_
   · exact (hq Tt (hq Tt (hq (hC (qnG h_r31)) hq0)))
   refine Run.cond (by cbv) (hq0) (fun c32 => ?_) (fun c32 => ?_)
   ·
    have h := if_t c32 h
    obtain ⟨⟨qFZ, qRQ⟩, h_r33, h⟩ := bnd h
    obtain ⟨l34, h_l34, h⟩ := bnd h
    obtain ⟨l35, h_l35, h⟩ := bnd h
    refine Run.region hL hT [(2, .call [false] [.ag [.jk, .jk]] [.ag [.s (.int .i64 qFZ), .ow 3 (qB qRQ)]])] (by cbv) ?_ ?_
    · exact (hq Tt (hq (hC (qsD h_r33)) (hq (qwD (P := Tryz.prog) (f := Row_o) RLe.r (qUB (f := Row_o) h_l34 (RLe.cons rfl LLe.r RLe.nil)) h_l35) hq0)))
    refine Run.row (rows := (ap (qT z27) ([[.s (.int .i64 qFZ), .ow 3 (qB qRQ)]]))) 112292 (qT l35) (by cbv) (qvD (f := Row_o) RLe.r (qUB (f := Row_o) h_l34 (RLe.cons rfl LLe.r RLe.nil)) h_l35) ?_
    refine Run.region hL hT [] (by cbv) ?_ ?_
    · exact (hq Tt hq0)
    refine ⟨l35, (ar .add .i64 z28 1), h, Weak.of _ [(1, 1), (2, 112292)] hA (by cbv) ?_⟩
    repeat (first | exact hq0 | refine hq (by first | exact Tt | rfl) ?_)
   have h := if_f c32 h
   refine Run.skip ?_
   refine Run.region hL hT [] (by cbv) ?_ ?_
   · exact (hq Tt hq0)
   refine ⟨z27, (ar .add .i64 z28 1), h, Weak.of _ [(1, 1), (2, 2)] hA (by cbv) ?_⟩
   repeat (first | exact hq0 | refine hq (by first | exact Tt | rfl) ?_)
  have h := if_f c29 h
  refine Run.exit ?_
  refine ⟨z27, h, Weak.of _ [(1, 1), (2, 2)] hA (by cbv) ?_⟩
  repeat (first | exact hq0 | refine hq (by first | exact Tt | rfl) ?_)
 intro y11 h
 rw [h_K12] at h
 refine Run.seq ?_
 obtain ⟨r36, h_r36, h⟩ := bnd h
 refine Run.region hL hT [(2, .call [true, false] [.v (.ow 56 (qT r36)), .v (.jk)] [])] (by cbv) ?_ ?_
 · exact (hq (hC (qaD h_r36)) hq0)
 refine Run.seq ?_
 refine Run.region hL hT [] (by cbv) hq0 ?_
 refine Run.ret ?_
 cases h
 refine ⟨_, _, by cbv, ?_, ?_⟩
 · exact LLe.r
 exact (ALe.v LLe.r ALe.nil)
theorem qTP {qE : List Int} {qL : Int} {qI : List (List Row)} {qN : Int} {qn : List Cond} {qkB : Int} {qCC : Bool} {qlB : Int} {qtB : List Int} {qDC : Bool} {qBB : Int} {qaB : Int} {a2 : Int} {r : Int} (h : qsC.f (Store.mk (Schema.mk qE) qL qI) (Query.mk qN qn qkB qCC qlB qtB qDC qBB qaB) a2 = some r) : AC Tryz.prog 53 [.ag [.im false (rowsOf Int_c qE), .s (.int .i64 qL), .im false (rowsOf qZB qI)], .ag [.s (.int .i64 qN), .im false (rowsOf qGB qn), .s (.int .i64 qkB), .s (.bool qCC), .s (.int .i64 qlB), .im false (rowsOf Int_c qtB), .s (.bool qDC), .s (.int .i64 qBB), .s (.int .i64 qaB)], .v (.s (.int .i64 a2))] [.ag [.jk, .jk, .jk], .ag [.jk, .jk, .jk, .jk, .jk, .jk, .jk, .jk, .jk], .v (.jk)] [.v (.s (.int .i64 r))] := by
 unfold qsC.f at h
 let qO := rowsOf qGB
 let qB := rowsOf Int_c
 let qMB := rowsOf qZB
 let qAB := rowsOf Row_i
 let qm := @lenI Row
 show AC Tryz.prog 53 [.ag [.im false (qB qE), .s (.int .i64 qL), .im false (qMB qI)], .ag [.s (.int .i64 qN), .im false (qO qn), .s (.int .i64 qkB), .s (.bool qCC), .s (.int .i64 qlB), .im false (qB qtB), .s (.bool qDC), .s (.int .i64 qBB), .s (.int .i64 qaB)], .v (.s (.int .i64 a2))] _ _
 refine run3 Tryz.func53 (by rfl) (by rfl) (by cbv) ⟨by decide, rfl⟩ ?_
 intro ar cm bo sc sa sx ss sl bs sb ln sr ap up rp fr ge le lt nz mm ma sm fl al ci hL F hP hA hT hM hC
 refine Run.seq ?_
 refine Run.region hL hT [] (by cbv) hq0 ?_
 refine Run.seq ?_
 refine Run.seq ?_
 obtain ⟨r1, h_r1, h⟩ := bnd h
 obtain ⟨r2, h_r2, h⟩ := bnd h
 refine Run.region hL hT [(1, .call [false] [.ag [.jk, .jk, .jk]] [.v (.s (.bool r1))]), (7, .call [false, false] [.ag [.jk], .ag [.jk, .jk, .jk, .jk, .jk, .jk, .jk, .jk, .jk]] [.v (.s (.bool r2))])] (by cbv) ?_ ?_
 · exact (hq Tt (hq (hC (qrD h_r1)) (hq (fun _ => hq0) (hq (fun g4 => (hq g4 (hq Tt hq0))) (hq (fun g5 => (hq Tt hq0)) (hq (fun g6 => (hq g6 (hq g6 (hq (hC (qSF (gd_t h_r2 g6))) hq0)))) (hq (fun g7 => (hq g7 hq0)) (hq (fun _ => hq0) (hq (fun q9 => (hq (bo_m q9) hq0)) (hq (fun _ => hq0) (hq (fun g11 => (hq g11 (hq Tt hq0))) (hq (fun g12 => (hq g12 hq0)) (hq (fun _ => hq0) (hq (fun q14 => (hq (bo_m q14) hq0)) hq0))))))))))))))
 refine Run.cond (by cbv) (hq0) (fun c15 => ?_) (fun c15 => ?_)
 ·
  have h := if_t c15 h
  refine Run.seq ?_
  refine Run.region hL hT [] (by cbv) hq0 ?_
  refine Run.ret ?_
  cases h
  refine ⟨_, _, by cbv, ?_, ?_⟩
  · exact LLe.r
  exact (ALe.v LLe.r ALe.nil)
 have h := if_f c15 h
 refine Run.skip ?_
 refine Run.seq ?_
 refine Run.region hL hT [] (by cbv) hq0 ?_
 refine Run.seq ?_
 refine Run.seq ?_
 obtain ⟨x16, h_x16, h⟩ := bnd h
 refine Run.region hL hT [(4, .el [.im false (qAB x16)])] (by cbv) ?_ ?_
 · exact (hq Tt (hq Tt (hq (qS h_x16) (hq (ql (f := qZB) h_x16) (hq (qt (f := qZB) h_x16) hq0)))))
 rw [show ln (qAB x16) = qm x16 from ln_eq Row_i _]
 refine Run.block ?_
 refine Run.loop2 (fun (z31 : Int) (z32 : Int) => ⟨48, 100000, [(2, .t (.s (.int .i64 a2))), (4, .pt 1 0 0), (7, .t (.s (.int .i64 z31))), (30, .t (.im false (qAB x16))), (31, .t (.s (.int .i64 (qm x16)))), (32, .t (.s (.int .i64 z32)))], [(1, .box 32 [.t (.s (.int .i64 qN)), .t (.im false (qO qn)), .t (.s (.int .i64 qkB)), .t (.s (.bool qCC)), .t (.s (.int .i64 qlB)), .t (.im false (qB qtB)), .t (.s (.bool qDC)), .t (.s (.int .i64 qBB)), .t (.s (.int .i64 qaB))])]⟩) (x0 := 0) (x1 := 0) h (Weak.of _ [(1, 1)] hA (by cbv) ?_) (fun _ _ => rfl) ?_
 · repeat (first | exact hq0 | refine hq (by first | exact Tt | rfl) ?_)
 intro k z31 z32 h
 rw [qsC.l0] at h
 refine Run.seq ?_
 refine Run.region hL hT [] (by cbv) ?_ ?_
 · exact (hq Tt hq0)
 refine Run.seq ?_
 refine Run.cond (by cbv) (hq0) (fun c33 => ?_) (fun c33 => ?_)
 ·
  have h := if_t c33 h
  refine Run.skip ?_
  refine Run.seq ?_
  refine Run.block ?_
  refine Run.seq ?_
  obtain ⟨⟨qnU, qvL⟩, h_x34, h⟩ := bnd h
  refine Run.region hL hT [(0, .el [.s (.int .i64 qnU), .im false (qB qvL)])] (by cbv) ?_ ?_
  · exact (hq (qS h_x34) (hq (ql (f := Row_i) h_x34) (hq (qt (f := Row_i) h_x34) (hq Tt hq0))))
  refine Run.seq ?_
  obtain ⟨x35, h_x35, h⟩ := bnd h
  refine Run.region hL hT [(4, .el [.s (.int .i64 x35)])] (by cbv) ?_ ?_
  · exact (hq Tt (hq Tt (hq (qS h_x35) (hq (ql (f := Int_c) h_x35) (hq (qt (f := Int_c) h_x35) (hq Tt hq0))))))
  refine Run.cond (by cbv) (hq0) (fun c36 => ?_) (fun c36 => ?_)
  ·
   have h := if_t c36 h
   refine Run.region hL hT [] (by cbv) ?_ ?_
   · exact (hq Tt hq0)
   refine Run.region hL hT [] (by cbv) ?_ ?_
   · exact (hq Tt hq0)
   refine ⟨(ar .add .i64 z31 1), (ar .add .i64 z32 1), h, Weak.of _ [(1, 1)] hA (by cbv) ?_⟩
   repeat (first | exact hq0 | refine hq (by first | exact Tt | rfl) ?_)
  have h := if_f c36 h
  refine Run.skip ?_
  refine Run.region hL hT [] (by cbv) ?_ ?_
  · exact (hq Tt hq0)
  refine ⟨z31, (ar .add .i64 z32 1), h, Weak.of _ [(1, 1)] hA (by cbv) ?_⟩
  repeat (first | exact hq0 | refine hq (by first | exact Tt | rfl) ?_)
 have h := if_f c33 h
 refine Run.exit ?_
 refine Run.seq ?_
 refine Run.region hL hT [] (by cbv) hq0 ?_
 refine Run.ret ?_
 cases h
 refine ⟨_, _, by cbv, ?_, ?_⟩
 · exact LLe.r
 exact (ALe.v LLe.r ALe.nil)
theorem qdO {qg : Int} {qd : List Cond} {qh : Int} {qw : Bool} {qi : Int} {qp : List Int} {qx : Bool} {qM : Int} {qZ : Int} {a1 : Int} {r : Int} (h : qvF.f (Query.mk qg qd qh qw qi qp qx qM qZ) a1 = some r) : AC Tryz.prog 146 [.ag [.s (.int .i64 qg), .im false (rowsOf qGB qd), .s (.int .i64 qh), .s (.bool qw), .s (.int .i64 qi), .im false (rowsOf Int_c qp), .s (.bool qx), .s (.int .i64 qM), .s (.int .i64 qZ)], .v (.s (.int .i64 a1))] [.ag [.jk, .jk, .jk, .jk, .jk, .jk, .jk, .jk, .jk], .v (.jk)] [.v (.s (.int .i64 r))] := by
 unfold qvF.f at h
 let qO := rowsOf qGB
 let qB := rowsOf Int_c
 show AC Tryz.prog 146 [.ag [.s (.int .i64 qg), .im false (qO qd), .s (.int .i64 qh), .s (.bool qw), .s (.int .i64 qi), .im false (qB qp), .s (.bool qx), .s (.int .i64 qM), .s (.int .i64 qZ)], .v (.s (.int .i64 a1))] _ _
 refine run3 Tryz.func146 (by rfl) (by rfl) (by cbv) ⟨by decide, rfl⟩ ?_
 intro ar cm bo sc sa sx ss sl bs sb ln sr ap up rp fr ge le lt nz mm ma sm fl al ci hL F hP hA hT hM hC
 refine Run.seq ?_
 refine Run.region hL hT [] (by cbv) hq0 ?_
 refine Run.seq ?_
 refine Run.seq ?_
 refine Run.region hL hT [] (by cbv) ?_ ?_
 · exact (hq Tt (hq Tt hq0))
 refine Run.cond (by cbv) (hq0) (fun c1 => ?_) (fun c1 => ?_)
 ·
  have h := if_t c1 h
  refine Run.seq ?_
  refine Run.region hL hT [] (by cbv) hq0 ?_
  refine Run.ret ?_
  cases h
  refine ⟨_, _, by cbv, ?_, ?_⟩
  · exact LLe.r
  exact (ALe.v LLe.r ALe.nil)
 have h := if_f c1 h
 refine Run.skip ?_
 refine Run.seq ?_
 obtain ⟨m2, h_m2, h⟩ := bnd h
 obtain ⟨m3, h_m3, h⟩ := bnd h
 refine Run.region hL hT [(2, .hd [] (.t (.s (.int .i64 m2))) []), (4, .hd [] (.t (.s (.int .i64 m3))) [])] (by cbv) ?_ ?_
 · exact (hq Tt (hq (qZa h_m2) (hq (qaa h_m3) hq0)))
 refine Run.ret ?_
 cases h
 refine ⟨_, _, by cbv, ?_, ?_⟩
 · exact LLe.r
 exact (ALe.v LLe.r ALe.nil)
theorem qwJ {qHB : Int} {a0v_N : Int} {a0v_S : ByteArray} {qJ : List Json} {qY : List ByteArray} {r : Json} (h : qDF.f (Json.mk qHB a0v_N a0v_S qJ qY) = some r) : AC Tryz.prog 119 [.ag [.s (.int .i64 qHB), .s (.int .i64 a0v_N), .s (.string a0v_S), .ow 46 (rowsOf qND qJ), .ow 9 (rowsOf Str_c qY)]] [.ag [.jk, .jk, .jk, .jk, .jk]] [.ag [.s (.int .i64 r.Kind), .s (.int .i64 r.N), .s (.string r.S), .ow 46 (rowsOf qND r.List_), .ow 9 (rowsOf Str_c r.Names)]] := by
 unfold qDF.f at h
 let qtD := rowsOf qND
 let qKB := rowsOf Str_c
 show AC Tryz.prog 119 [.ag [.s (.int .i64 qHB), .s (.int .i64 a0v_N), .s (.string a0v_S), .ow 46 (qtD qJ), .ow 9 (qKB qY)]] _ _
 refine run3 Tryz.func119 (by rfl) (by rfl) (by cbv) ⟨by decide, rfl⟩ ?_
 intro ar cm bo sc sa sx ss sl bs sb ln sr ap up rp fr ge le lt nz mm ma sm fl al ci hL F hP hA hT hM hC
 refine Run.seq ?_
 refine Run.region hL hT [] (by cbv) hq0 ?_
 refine Run.seq ?_
 refine Run.seq ?_
 obtain ⟨r1, h_r1, h⟩ := bnd h
 refine Run.region hL hT [(1, .call [false] [.ag [.jk, .jk, .jk, .jk, .jk]] [.v (.s (.bool r1))])] (by cbv) ?_ ?_
 · exact (hq Tt (hq (hC (AC.args (qVH h_r1) (ALe.ag rfl (LLe.c (LLe.c (LLe.c (LLe.cons (LLe.im (RLe.eq (qQC qaR _))) (LLe.cons (LLe.im (RLe.eq (qQC qLO _))) LLe.nil))))) ALe.nil))) hq0))
 refine Run.cond (by cbv) (hq0) (fun c2 => ?_) (fun c2 => ?_)
 ·
  have h := if_t c2 h
  refine Run.seq ?_
  refine Run.region hL hT [] (by cbv) ?_ ?_
  · exact (hq Tt hq0)
  refine Run.ret ?_
  cases h
  refine ⟨_, _, by cbv, ?_, ?_⟩
  · exact (LLe.c (LLe.c (LLe.c (LLe.cons LLe.jk (LLe.cons LLe.jk LLe.nil)))))
  exact (ALe.ag rfl (LLe.c (LLe.c (LLe.c (LLe.cons LLe.nilO (LLe.cons LLe.nilO LLe.nil))))) ALe.nil)
 have h := if_f c2 h
 refine Run.skip ?_
 refine Run.seq ?_
 refine Run.region hL hT [] (by cbv) ?_ ?_
 · exact (hq Tt (hq Tt hq0))
 refine Run.weak ?_ (Weak.mvB 0 14290 3 (by cbv) (by cbv) (by cbv))
 refine Run.weak ?_ (Weak.mvB 1 14291 3 (by cbv) (by cbv) (by cbv))
 refine Run.ret ?_
 cases h
 refine ⟨_, _, by cbv, ?_, ?_⟩
 · exact LLe.r
 exact (ALe.ag rfl LLe.r ALe.nil)
theorem qWK {a0 : List Int} {a1 : Int} {r : Int} (h : qJC.f a0 a1 = some r) : AC Tryz.prog 169 [.v (.im false (rowsOf Int_c a0)), .v (.s (.int .i64 a1))] [.v (.jk), .v (.jk)] [.v (.s (.int .i64 r))] := by
 unfold qJC.f at h
 let qB := rowsOf Int_c
 let qQ := @lenI Int
 show AC Tryz.prog 169 [.v (.im false (qB a0)), .v (.s (.int .i64 a1))] _ _
 refine run3 Tryz.func169 (by rfl) (by rfl) (by cbv) ⟨by decide, rfl⟩ ?_
 intro ar cm bo sc sa sx ss sl bs sb ln sr ap up rp fr ge le lt nz mm ma sm fl al ci hL F hP hA hT hM hC
 refine Run.seq ?_
 refine Run.region hL hT [] (by cbv) hq0 ?_
 refine Run.seq ?_
 refine Run.seq ?_
 refine Run.region hL hT [] (by cbv) hq0 ?_
 rw [show ln (qB a0) = qQ a0 from ln_eq Int_c _]
 refine Run.block ?_
 refine Run.loop1 (fun (z5 : Int) => ⟨19, 100000, [(0, .t (.im false (qB a0))), (1, .t (.s (.int .i64 a1))), (7, .t (.s (.int .i64 (qQ a0)))), (8, .t (.s (.int .i64 z5)))], []⟩) (x0 := 0) h (Weak.of _ [] hA (by cbv) ?_) (fun _ => rfl) ?_
 · repeat (first | exact hq0 | refine hq (by first | exact Tt | rfl) ?_)
 intro k z5 h
 rw [qJC.l0] at h
 refine Run.seq ?_
 refine Run.region hL hT [] (by cbv) ?_ ?_
 · exact (hq Tt hq0)
 refine Run.seq ?_
 refine Run.cond (by cbv) (hq0) (fun c6 => ?_) (fun c6 => ?_)
 ·
  have h := if_t c6 h
  refine Run.skip ?_
  refine Run.seq ?_
  refine Run.block ?_
  refine Run.seq ?_
  refine Run.region hL hT [] (by cbv) hq0 ?_
  refine Run.seq ?_
  obtain ⟨x7, h_x7, h⟩ := bnd h
  refine Run.region hL hT [(3, .el [.s (.int .i64 x7)])] (by cbv) ?_ ?_
  · exact (hq (qS h_x7) (hq (ql (f := Int_c) h_x7) (hq (qt (f := Int_c) h_x7) (hq Tt hq0))))
  refine Run.cond (by cbv) (hq0) (fun c8 => ?_) (fun c8 => ?_)
  ·
   have h := if_t c8 h
   refine Run.seq ?_
   refine Run.region hL hT [] (by cbv) hq0 ?_
   refine Run.ret ?_
   cases h
   refine ⟨_, _, by cbv, ?_, ?_⟩
   · exact LLe.r
   exact (ALe.v LLe.r ALe.nil)
  have h := if_f c8 h
  refine Run.skip ?_
  refine Run.region hL hT [] (by cbv) ?_ ?_
  · exact (hq Tt hq0)
  refine ⟨(ar .add .i64 z5 1), h, Weak.of _ [] hA (by cbv) ?_⟩
  repeat (first | exact hq0 | refine hq (by first | exact Tt | rfl) ?_)
 have h := if_f c6 h
 refine Run.exit ?_
 refine Run.seq ?_
 refine Run.region hL hT [] (by cbv) hq0 ?_
 refine Run.ret ?_
 cases h
 refine ⟨_, _, by cbv, ?_, ?_⟩
 · exact LLe.r
 exact (ALe.v LLe.r ALe.nil)
theorem qkI {a0 : List Int} {a1 : Int} {r : Bool} (h : qSD.f a0 a1 = some r) : AC Tryz.prog 162 [.v (.im false (rowsOf Int_c a0)), .v (.s (.int .i64 a1))] [.v (.jk), .v (.jk)] [.v (.s (.bool r))] := by
 unfold qSD.f at h
 let qB := rowsOf Int_c
 show AC Tryz.prog 162 [.v (.im false (qB a0)), .v (.s (.int .i64 a1))] _ _
 refine run3 Tryz.func162 (by rfl) (by rfl) (by cbv) ⟨by decide, rfl⟩ ?_
 intro ar cm bo sc sa sx ss sl bs sb ln sr ap up rp fr ge le lt nz mm ma sm fl al ci hL F hP hA hT hM hC
 refine Run.seq ?_
 refine Run.region hL hT [] (by cbv) hq0 ?_
 refine Run.seq ?_
 obtain ⟨r1, h_r1, h⟩ := bnd h
 refine Run.region hL hT [(2, .call [false, false] [.v (.jk), .v (.jk)] [.v (.s (.int .i64 r1))])] (by cbv) ?_ ?_
 · exact (hq (hC (qWK h_r1)) (hq Tt hq0))
 refine Run.ret ?_
 cases h
 refine ⟨_, _, by cbv, ?_, ?_⟩
 · exact LLe.r
 exact (ALe.v LLe.r ALe.nil)
def qRT : Go.Shelf.Ren := ⟨fun | 171 => 170 | 243 => 179 | 246 => 186 | 283 => 190 | 284 => 191 | 285 => 192 | 286 => 193 | 129 => 197 | 317 => 196 | 318 => 198 | 319 => 199 | 320 => 200 | 337 => 201 | 338 => 202 | n => n, fun | 3 => 3 | 9 => 9 | 2 => 2 | 4 => 4 | 171 => 179 | 0 => 0 | 53 => 180 | 37 => 22 | 5 => 5 | 173 => 183 | 212 => 189 | 51 => 190 | 20 => 20 | 213 => 191 | 46 => 152 | 232 => 194 | 233 => 195 | n => n, fun | 17 => 0 | 18 => 1 | 19 => 2 | n => n⟩
theorem laysItoa : Go.Proofs.LaysM.n171 Tryz.prog qRT := {
 mixed := by kernel_rfl
 f129 := Tryz.func197.trans (congrArg some (by kernel_rfl))
 f171 := Tryz.func170.trans (congrArg some (by kernel_rfl))
 f243 := Tryz.func179.trans (congrArg some (by kernel_rfl))
 f246 := Tryz.func186.trans (congrArg some (by kernel_rfl))
 f283 := Tryz.func190.trans (congrArg some (by kernel_rfl))
 f284 := Tryz.func191.trans (congrArg some (by kernel_rfl))
 f285 := Tryz.func192.trans (congrArg some (by kernel_rfl))
 f286 := Tryz.func193.trans (congrArg some (by kernel_rfl))
 f317 := Tryz.func196.trans (congrArg some (by kernel_rfl))
 f318 := Tryz.func198.trans (congrArg some (by kernel_rfl))
 f319 := Tryz.func199.trans (congrArg some (by kernel_rfl))
 f320 := Tryz.func200.trans (congrArg some (by kernel_rfl))
 f337 := Tryz.func201.trans (congrArg some (by kernel_rfl))
 f338 := Tryz.func202.trans (congrArg some (by kernel_rfl))
 t0 := Tryz.underlying0
 a0 := Tryz.isAgg0
 z0 := Tryz.sizeOf0
 v0 := Tryz.zeroValue0
 t2 := Tryz.underlying2
 a2 := Tryz.isAgg2
 z2 := Tryz.sizeOf2
 v2 := Tryz.zeroValue2
 t3 := Tryz.underlying3
 a3 := Tryz.isAgg3
 z3 := Tryz.sizeOf3
 v3 := Tryz.zeroValue3
 t4 := Tryz.underlying4
 a4 := Tryz.isAgg4
 z4 := Tryz.sizeOf4
 v4 := Tryz.zeroValue4
 t5 := Tryz.underlying5
 a5 := Tryz.isAgg5
 z5 := Tryz.sizeOf5
 v5 := Tryz.zeroValue5
 t9 := Tryz.underlying9
 a9 := Tryz.isAgg9
 z9 := Tryz.sizeOf9
 v9 := Tryz.zeroValue9
 t20 := Tryz.underlying20
 a20 := Tryz.isAgg20
 z20 := Tryz.sizeOf20
 v20 := Tryz.zeroValue20
 t37 := Tryz.underlying22
 a37 := Tryz.isAgg22
 z37 := Tryz.sizeOf22
 v37 := Tryz.zeroValue22
 t46 := Tryz.underlying152
 a46 := Tryz.isAgg152
 z46 := Tryz.sizeOf152
 v46 := Tryz.zeroValue152
 t51 := Tryz.underlying190
 a51 := Tryz.isAgg190
 z51 := Tryz.sizeOf190
 v51 := Tryz.zeroValue190
 t53 := Tryz.underlying180
 a53 := Tryz.isAgg180
 z53 := Tryz.sizeOf180
 v53 := Tryz.zeroValue180
 t171 := Tryz.underlying179
 a171 := Tryz.isAgg179
 z171 := Tryz.sizeOf179
 v171 := Tryz.zeroValue179
 t173 := Tryz.underlying183
 a173 := Tryz.isAgg183
 z173 := Tryz.sizeOf183
 v173 := Tryz.zeroValue183
 t212 := Tryz.underlying189
 a212 := Tryz.isAgg189
 z212 := Tryz.sizeOf189
 v212 := Tryz.zeroValue189
 t213 := Tryz.underlying191
 a213 := Tryz.isAgg191
 z213 := Tryz.sizeOf191
 t232 := Tryz.underlying194
 a232 := Tryz.isAgg194
 z232 := Tryz.sizeOf194
 v232 := Tryz.zeroValue194
 t233 := Tryz.underlying195
 a233 := Tryz.isAgg195
 z233 := Tryz.sizeOf195
 v233 := Tryz.zeroValue195
 g17 := by kernel_rfl
 g18 := by kernel_rfl
 g19 := by kernel_rfl
 i0 := by kernel_rfl
 i2 := by kernel_rfl
 i3 := by kernel_rfl
 i4 := by kernel_rfl
 i5 := by kernel_rfl
 i9 := by kernel_rfl
 i20 := by kernel_rfl
 i37 := by kernel_rfl
 i46 := by kernel_rfl
 i51 := by kernel_rfl
 i53 := by kernel_rfl
 i171 := by kernel_rfl
 i173 := by kernel_rfl
 i212 := by kernel_rfl
 i232 := by kernel_rfl
 i233 := by kernel_rfl
 m17 := by kernel_rfl
 m18 := by kernel_rfl
 m19 := by kernel_rfl }
theorem qeO {a0 : Int} {r : ByteArray} (h : strconv_Itoa.f a0 = some r) : AC Tryz.prog 170 [.v (.s (.int .i64 a0))] [.v .jk] [.v (.s (.string r))] := AC.of_itoa ⟨_, Tryz.func170, by rfl, by rfl⟩ (g := 0) (by kernel_rfl) (fun n h0 h1 w htab => Go.Proofs.Any.strconv_Itoa laysItoa n h0 h1 w htab) h
theorem qUP {a0 : Int} {r : ByteArray} (h : qbG.f a0 = some r) : AC Tryz.prog 163 [.v (.s (.int .i64 a0))] [.v (.jk)] [.v (.s (.string r))] := by
 unfold qbG.f at h
 show AC Tryz.prog 163 [.v (.s (.int .i64 a0))] _ _
 refine run3 Tryz.func163 (by rfl) (by rfl) (by cbv) ⟨by decide, rfl⟩ ?_
 intro ar cm bo sc sa sx ss sl bs sb ln sr ap up rp fr ge le lt nz mm ma sm fl al ci hL F hP hA hT hM hC
 refine Run.seq ?_
 refine Run.region hL hT [] (by cbv) hq0 ?_
 refine Run.seq ?_
 obtain ⟨r1, h_r1, h⟩ := bnd h
 refine Run.region hL hT [(1, .call [false] [.v (.jk)] [.v (.s (.string r1))])] (by cbv) ?_ ?_
 · exact (hq (hC (qeO h_r1)) hq0)
 refine Run.ret ?_
 cases h
 refine ⟨_, _, by cbv, ?_, ?_⟩
 · exact LLe.r
 exact (ALe.v LLe.r ALe.nil)
theorem qqG {a0 : ByteArray} {r : Bool} (h : qGE.f a0 = some r) : AC Tryz.prog 187 [.v (.s (.string a0))] [.v (.jk)] [.v (.s (.bool r))] := by
 unfold qGE.f at h
 show AC Tryz.prog 187 [.v (.s (.string a0))] _ _
 refine run3 Tryz.func187 (by rfl) (by rfl) (by cbv) ⟨by decide, rfl⟩ ?_
 intro ar cm bo sc sa sx ss sl bs sb ln sr ap up rp fr ge le lt nz mm ma sm fl al ci hL F hP hA hT hM hC
 refine Run.seq ?_
 refine Run.region hL hT [] (by cbv) hq0 ?_
 refine Run.seq ?_
 refine Run.region hL hT [] (by cbv) hq0 ?_
 refine Run.ret ?_
 cases h
 refine ⟨_, _, by cbv, ?_, ?_⟩
 · exact LLe.r
 exact (ALe.v LLe.r ALe.nil)
theorem qGL {a0 : ByteArray} {a1 : ByteArray} {r : Bool} (h : qdE.f a0 a1 = some r) : AC Tryz.prog 180 [.v (.s (.string a0)), .v (.s (.string a1))] [.v (.jk), .v (.jk)] [.v (.s (.bool r))] := by
 unfold qdE.f at h
 show AC Tryz.prog 180 [.v (.s (.string a0)), .v (.s (.string a1))] _ _
 refine run3 Tryz.func180 (by rfl) (by rfl) (by cbv) ⟨by decide, rfl⟩ ?_
 intro ar cm bo sc sa sx ss sl bs sb ln sr ap up rp fr ge le lt nz mm ma sm fl al ci hL F hP hA hT hM hC
 refine Run.seq ?_
 refine Run.region hL hT [] (by cbv) hq0 ?_
 refine Run.seq ?_
 obtain ⟨r1, h_r1, h⟩ := bnd h
 obtain ⟨r2, h_r2, h⟩ := bnd h
 refine Run.region hL hT [(1, .call [false] [.v (.jk)] [.v (.s (.bool r1))]), (4, .call [false] [.v (.jk)] [.v (.s (.bool r2))])] (by cbv) ?_ ?_
 · exact (hq (hC (qqG h_r1)) (hq (fun _ => hq0) (hq (fun g4 => (hq g4 (hq (hC (qqG (gd_t h_r2 g4))) hq0))) (hq (fun g5 => (hq g5 hq0)) (hq (fun q6 => (hq q6 hq0)) (hq (fun _ => hq0) (hq (fun _ => hq0) (hq (fun _ => hq0) (hq (fun g10 => (hq g10 (hq g10 hq0))) (hq (fun _ => hq0) (hq (fun q12 => (hq (bo_m q12) hq0)) hq0)))))))))))
 refine Run.ret ?_
 cases h
 refine ⟨_, _, by cbv, ?_, ?_⟩
 · exact LLe.r
 exact (ALe.v LLe.r ALe.nil)
theorem qUF {a0 : ByteArray} {r : Bool} (h : qYC.f a0 = some r) : AC Tryz.prog 181 [.v (.s (.string a0))] [.v (.jk)] [.v (.s (.bool r))] := by
 unfold qYC.f at h
 show AC Tryz.prog 181 [.v (.s (.string a0))] _ _
 refine run3 Tryz.func181 (by rfl) (by rfl) (by cbv) ⟨by decide, rfl⟩ ?_
 intro ar cm bo sc sa sx ss sl bs sb ln sr ap up rp fr ge le lt nz mm ma sm fl al ci hL F hP hA hT hM hC
 refine Run.seq ?_
 refine Run.region hL hT [] (by cbv) hq0 ?_
 refine Run.seq ?_
 refine Run.region hL hT [] (by cbv) hq0 ?_
 refine Run.ret ?_
 cases h
 refine ⟨_, _, by cbv, ?_, ?_⟩
 · exact LLe.r
 exact (ALe.v LLe.r ALe.nil)
end Go.Proofs.YtbhleignjmcdiaaGreatDoor.L