/- The contracts of the program's functions. -/
import Derived.Test.YtbhleignjmcdiaaGreatDoorProg
import Derived.Test.YtbhleignjmcdiaaGreatDoorFnAnswerU
import Derived.KernelRfl
namespace Go.Proofs.YtbhleignjmcdiaaGreatDoor.L
open Go Go.Proofs
theorem Tt : True := True.intro
set_option linter.unusedVariables false
set_option linter.unusedSimpArgs false
set_option maxRecDepth 8000
def u8_c (x : Int) : List T := [.s (.int .u8 x)]
def Int_c (x : Int) : List T := [.s (.int .i64 x)]
theorem qTa : ∀ x, (Int_c x).length = 1 := fun _ => rfl
theorem qmS : ∀ x, (Int_c x).length = 1 ∧ ∀ c ∈ Int_c x, ∃ v, c = T.s v := fun x => ⟨rfl, by simp [Int_c]⟩
theorem qwC : ∀ x, fzL (Int_c x) = Int_c x := fun _ => rfl
def Row_i (x : Row) : List T := [.s (.int .i64 x.Id), .im false (rowsOf Int_c x.Cells)]
theorem qUa : ∀ x, (Row_i x).length = 2 := fun _ => rfl
def qLC (x : (List Row)) : List T := [.im false (rowsOf Row_i x)]
def qy (x : Cond) : List T := [.s (.int .i64 x.Col), .s (.int .i64 x.Op), .s (.int .i64 x.V)]
theorem qkY : ∀ x, fzL (qy x) = qy x := fun _ => rfl
def Row_o (x : Row) : List T := [.s (.int .i64 x.Id), .ow 3 (rowsOf Int_c x.Cells)]
theorem qVK : ∀ x, (Row_o x).length = 2 := fun _ => rfl
theorem qkP : ∀ x, fzL (Row_o x) = Row_i x := by
 intro x
 simp only [Row_o, Row_i, fzL, T.fz, qaS qwC]
def Str_c (x : ByteArray) : List T := [.s (.string x)]
theorem qVa : ∀ x, (Str_c x).length = 1 ∧ ∀ c ∈ Str_c x, ∃ v, c = T.s v := fun x => ⟨rfl, by simp [Str_c]⟩
theorem qnF : ∀ x, fzL (Str_c x) = Str_c x := fun _ => rfl
mutual
def ql : Json → List T
 | ⟨x_Kind, x_N, x_S, x_List_, x_Names⟩ => [.s (.int .i64 x_Kind), .s (.int .i64 x_N), .s (.string x_S), .im false (qlP x_List_), .im false (rowsOf Str_c x_Names)]
def qlP : List Json → Rws
 | [] => []
 | x :: l => ql x :: qlP l
end
theorem qXR : ∀ l, qlP l = rowsOf ql l
 | [] => rfl
 | x :: l => by rw [qlP, qXR l]; rfl
def qjW (x : Json) : List T := [.s (.int .i64 x.Kind), .s (.int .i64 x.N), .s (.string x.S), .im false (rowsOf ql x.List_), .im false (rowsOf Str_c x.Names)]
theorem qcE : ∀ x, ql x = qjW x
 | ⟨x_Kind, x_N, x_S, x_List_, x_Names⟩ => by rw [ql, qXR]; rfl
theorem qmP : ∀ x, (ql x).length = 5 := fun x => by rw [qcE]; rfl
mutual
def qVC : Json → List T
 | ⟨x_Kind, x_N, x_S, x_List_, x_Names⟩ => [.s (.int .i64 x_Kind), .s (.int .i64 x_N), .s (.string x_S), .im true (qnP x_List_), .im true (rowsOf Str_c x_Names)]
def qnP : List Json → Rws
 | [] => []
 | x :: l => qVC x :: qnP l
end
theorem qYR : ∀ l, qnP l = rowsOf qVC l
 | [] => rfl
 | x :: l => by rw [qnP, qYR l]; rfl
def qWa (x : Json) : List T := [.s (.int .i64 x.Kind), .s (.int .i64 x.N), .s (.string x.S), .im true (rowsOf qVC x.List_), .im true (rowsOf Str_c x.Names)]
theorem qYD : ∀ x, qVC x = qWa x
 | ⟨x_Kind, x_N, x_S, x_List_, x_Names⟩ => by rw [qVC, qYR]; rfl
theorem qoP : ∀ x, (qVC x).length = 5 := fun x => by rw [qYD]; rfl
mutual
theorem qTU {P : Program} : ∀ x, KLL P (ql x) (qVC x)
 | ⟨x_Kind, x_N, x_S, x_List_, x_Names⟩ => by
  rw [qcE, qYD]
  exact (KLL.c (KLL.c (KLL.c (KLL.cons (KLL.im (qWO x_List_)) (KLL.cons (KLL.im KRe.r) KLL.r)))))
theorem qWO {P : Program} : ∀ l, KRe P (rowsOf ql l) (rowsOf qVC l)
 | [] => KRe.nil
 | x :: l => KRe.cons (by rw [qmP, qoP]) (qTU x) (qWO l)
end
mutual
theorem qUU {P : Program} : ∀ x, LLe P (qVC x) (ql x)
 | ⟨x_Kind, x_N, x_S, x_List_, x_Names⟩ => by
  rw [qcE, qYD]
  exact (LLe.c (LLe.c (LLe.c (LLe.cons (LLe.k (qlJ x_List_)) (LLe.cons (LLe.k RLe.r) LLe.nil)))))
theorem qlJ {P : Program} : ∀ l, RLe P (rowsOf qVC l) (rowsOf ql l)
 | [] => RLe.nil
 | x :: l => RLe.cons (by rw [qmP, qoP]) (qUU x) (qlJ l)
end
theorem qVU {P : Program} : ∀ x, LLe P (fzL (qVC x)) (ql x)
 | ⟨x_Kind, x_N, x_S, x_List_, x_Names⟩ => by
  rw [qcE, qYD]
  exact (LLe.c (LLe.c (LLe.c (LLe.cons (LLe.im (qlJ x_List_)) (LLe.cons LLe.r LLe.nil)))))
theorem qXO : ∀ x, (fzL (qVC x)).length = 5 := fun x => by rw [qYD]; rfl
theorem qZR {P : Program} : ∀ l, RLe P (fzR (rowsOf qVC l)) (rowsOf ql l)
 | [] => RLe.nil
 | x :: l => RLe.cons (by rw [qXO, qmP]) (qVU x) (qZR l)
theorem qWU {P : Program} : ∀ x, KLL P (fzL (qVC x)) (qVC x)
 | ⟨x_Kind, x_N, x_S, x_List_, x_Names⟩ => by
  rw [qYD]
  exact (KLL.c (KLL.c (KLL.c (KLL.cons (KLL.im KRe.r) (KLL.cons (KLL.im KRe.r) KLL.r)))))
theorem qaR {P : Program} : ∀ l, KRe P (fzR (rowsOf qVC l)) (rowsOf qVC l)
 | [] => KRe.nil
 | x :: l => KRe.cons (by rw [qXO, qoP]) (qWU x) (qaR l)
theorem qmJ {P : Program} (l : List Json) : LLe P [.im true (Ls.fr (rowsOf qVC l))] [.im true (rowsOf qVC l)] := LLe.kk (qaR l)
mutual
def qnB : Json → List T
 | ⟨x_Kind, x_N, x_S, x_List_, x_Names⟩ => [.s (.int .i64 x_Kind), .s (.int .i64 x_N), .s (.string x_S), .ow 46 (qpP x_List_), .ow 9 (rowsOf Str_c x_Names)]
def qpP : List Json → Rws
 | [] => []
 | x :: l => qnB x :: qpP l
end
theorem qbR : ∀ l, qpP l = rowsOf qnB l
 | [] => rfl
 | x :: l => by rw [qpP, qbR l]; rfl
def qkW (x : Json) : List T := [.s (.int .i64 x.Kind), .s (.int .i64 x.N), .s (.string x.S), .ow 46 (rowsOf qnB x.List_), .ow 9 (rowsOf Str_c x.Names)]
theorem qcH : ∀ x, qnB x = qkW x
 | ⟨x_Kind, x_N, x_S, x_List_, x_Names⟩ => by rw [qnB, qbR]; rfl
mutual
theorem qdH : ∀ x, fzL (qnB x) = ql x
 | ⟨x_Kind, x_N, x_S, x_List_, x_Names⟩ => by
  rw [qcH, qcE]
  simp only [qkW, qjW, fzL, T.fz, qaS qnF, qcR x_List_]
theorem qcR : ∀ l, fzR (rowsOf qnB l) = rowsOf ql l
 | [] => rfl
 | x :: l => by
  show fzR (qnB x :: rowsOf qnB l) = ql x :: rowsOf ql l
  rw [fzR, qdH x, qcR l]
end
def qIE (x : (List Row)) : List T := [.ow 56 (rowsOf Row_o x)]
theorem qlY : ∀ x, (qIE x).length = 1 := fun _ => rfl
theorem qnJ : ∀ x, fzL (qIE x) = qLC x := by
 intro x
 simp only [qIE, qLC, fzL, T.fz, qaS qkP]
def tab : List (Nat × Ty) := [(3, Ty.mk false 1 8 0 [] [.int .i64 0] (some .i64) false false false false none),
 (4, Ty.mk false 1 1 0 [] [.bool false] (none) true false false false none),
 (5, Ty.mk false 1 1 0 [] [.int .u8 0] (some .u8) false false false false none),
 (9, Ty.mk false 1 16 0 [] [.string ByteArray.empty] (none) false false false true none),
 (22, Ty.mk false 1 24 5 [] [.slice none 0 0] (none) false false true false none),
 (24, Ty.mk false 1 24 3 [] [.slice none 0 0] (none) false false true false none),
 (26, Ty.mk true 1 24 0 [(0, 1)] [.slice none 0 0] (none) false false false false none),
 (27, Ty.mk false 1 24 50 [] [.slice none 0 0] (none) false false true false none),
 (29, Ty.mk true 3 56 0 [(0, 1), (1, 1), (2, 1)] [.slice none 0 0, .int .i64 0, .slice none 0 0] (none) false false false false none),
 (30, Ty.mk false 1 24 98 [] [.slice none 0 0] (none) false false true false none),
 (32, Ty.mk true 9 104 0 [(0, 1), (1, 1), (2, 1), (3, 1), (4, 1), (5, 1), (6, 1), (7, 1), (8, 1)] [.int .i64 0, .slice none 0 0, .int .i64 0, .bool false, .int .i64 0, .slice none 0 0, .bool false, .int .i64 0, .int .i64 0] (none) false false false false none),
 (43, Ty.mk false 1 24 46 [] [.slice none 0 0] (none) false false true false none),
 (44, Ty.mk false 1 24 9 [] [.slice none 0 0] (none) false false true false none),
 (46, Ty.mk true 5 80 0 [(0, 1), (1, 1), (2, 1), (3, 1), (4, 1)] [.int .i64 0, .int .i64 0, .string ByteArray.empty, .slice none 0 0, .slice none 0 0] (none) false false false false none),
 (50, Ty.mk false 1 24 56 [] [.slice none 0 0] (none) false false true false none),
 (56, Ty.mk true 2 32 0 [(0, 1), (1, 1)] [.int .i64 0, .slice none 0 0] (none) false false false false none),
 (73, Ty.mk false 1 8 0 [] [.pointer none] (none) false false false false none),
 (98, Ty.mk true 3 24 0 [(0, 1), (1, 1), (2, 1)] [.int .i64 0, .int .i64 0, .int .i64 0] (none) false false false false none),
 (119, Ty.mk true 3 40 0 [(0, 1), (1, 1), (2, 1)] [.slice none 0 0, .int .i64 0, .int .i64 0] (none) false false false false none),
 (152, Ty.mk false 1 8 0 [] [.int .u64 0] (some .u64) false false false false none)]
theorem qlG : TabOk Tryz.prog tab := TabOk.of (l := [(3, false), (4, false), (5, false), (9, false), (22, false), (24, false), (26, false), (27, false), (29, false), (30, false), (32, false), (43, false), (44, false), (46, false), (50, false), (56, false), (73, false), (98, false), (119, false), (152, false)]) (by kernel_rfl)
theorem mixed : Tryz.prog.follows .mixedOrders = true := by rfl
theorem run3 {f : FuncId} {fn : Func} {c : Code} {args outs res : List A} {σ : St} {ds : List (Option Nat)} (hf : Tryz.prog.funcs[f]? = some fn) (hnm : (fn.name == "runtime.NumGoroutine") = false) (hb : fn.body = some c) (he : entry tab fn.ntmps args = some (σ, ds)) (hds : (idsOf ds).Nodup ∧ ds.length = (acells args).length)
  (h : let ar := Ls.ar; let cm := Ls.cm; let bo := Ls.bo; let sc := Ls.sc; let sa := Ls.sa; let sx := Ls.sx; let ss := Ls.ss; let sl := Ls.sl; let bs := Ls.bs; let sb := Ls.sb; let ln := Ls.ln; let sr := Ls.sr; let ap := Ls.ap; let up := Ls.up; let rp := Ls.rp; let fr := Ls.fr; let ge := Ls.ge; let le := Ls.le; let lt := Ls.lt; let nz := Ls.nz; let mm := Ls.mm; let ma := Ls.ma; let sm := Ls.sm; let fl := Ls.fl; let al := Ls.al; let ci := Ls.ci; (⟨ar, cm, bo, sc, sa, sx, ss, sl, bs, sb, ln, sr, ap, up, rp, fr, ge, le, lt, nz, mm, ma, sm, fl, al, ci⟩ : Lf) = Ls → ∀ F : Fr, F.P = Tryz.prog → (∀ i v, F.anc i = some v → i ∈ idsOf ds) → TabOk F.P tab → F.P.follows .mixedOrders = true → (∀ {f a o r}, AC Tryz.prog f a o r → AC F.P f a o r) → Run F σ c (endQ (EndL Tryz.prog tab fn.results.toList ds outs res))) : AC Tryz.prog f args outs res :=
 AC.of_run2 qlG hf hnm hb he hds fun F hP hA => h rfl F hP hA (hP ▸ qlG) (hP ▸ mixed) fun h => hP ▸ h
theorem qhB {a0 : Int} {a1 : Int} {a2 : Int} {r : Bool} (h : quB.f a0 a1 a2 = some r) : AC Tryz.prog 43 [.v (.s (.int .i64 a0)), .v (.s (.int .i64 a1)), .v (.s (.int .i64 a2))] [.v (.jk), .v (.jk), .v (.jk)] [.v (.s (.bool r))] := by
 unfold quB.f at h
 show AC Tryz.prog 43 [.v (.s (.int .i64 a0)), .v (.s (.int .i64 a1)), .v (.s (.int .i64 a2))] _ _
 refine run3 Tryz.func43 (by rfl) (by rfl) (by cbv) ⟨by decide, rfl⟩ ?_
 intro ar cm bo sc sa sx ss sl bs sb ln sr ap up rp fr ge le lt nz mm ma sm fl al ci hL F hP hA hT hM hC
 refine Run.seq ?_
 refine Run.region hL hT [] (by cbv) hq0 ?_
 refine Run.seq ?_
 refine Run.region hL hT [] (by cbv) ?_ ?_
 · exact (hq Tt (hq (fun _ => hq0) (hq (fun _ => hq0) (hq (fun g3 => (hq g3 (hq g3 (hq Tt hq0)))) (hq (fun q4 => (hq q4 hq0)) (hq (fun _ => hq0) hq0))))))
 refine Run.ret ?_
 cases h
 refine ⟨_, _, by cbv, ?_, ?_⟩
 · exact LLe.r
 exact (ALe.v LLe.r ALe.nil)
theorem qqP {qzI : Int} {qkM : Int} {a0v_V : Int} {qGC : Int} {qm : List Int} {r : Bool} (h : qDH.f (Cond.mk qzI qkM a0v_V) (Row.mk qGC qm) = some r) : AC Tryz.prog 66 [.ag [.s (.int .i64 qzI), .s (.int .i64 qkM), .s (.int .i64 a0v_V)], .ag [.s (.int .i64 qGC), .im false (rowsOf Int_c qm)]] [.ag [.jk, .jk, .jk], .ag [.jk, .jk]] [.v (.s (.bool r))] := by
 unfold qDH.f at h
 let qB := rowsOf Int_c
 let qZ := @lenI Int
 show AC Tryz.prog 66 [.ag [.s (.int .i64 qzI), .s (.int .i64 qkM), .s (.int .i64 a0v_V)], .ag [.s (.int .i64 qGC), .im false (qB qm)]] _ _
 refine run3 Tryz.func66 (by rfl) (by rfl) (by cbv) ⟨by decide, rfl⟩ ?_
 intro ar cm bo sc sa sx ss sl bs sb ln sr ap up rp fr ge le lt nz mm ma sm fl al ci hL F hP hA hT hM hC
 refine Run.seq ?_
 refine Run.region hL hT [] (by cbv) hq0 ?_
 refine Run.seq ?_
 refine Run.seq ?_
 obtain ⟨r1, h_r1, h⟩ := bnd h
 refine Run.region hL hT [(6, .call [false, false, false] [.v (.jk), .v (.jk), .v (.jk)] [.v (.s (.bool r1))])] (by cbv) ?_ ?_
 · exact (hq Tt (hq Tt (hq Tt (hq (by rw [show ln (qB qm) = qZ qm from ln_eq Int_c _]; exact (hC (qhB h_r1))) hq0))))
 rw [show ln (qB qm) = qZ qm from ln_eq Int_c _]
 refine Run.cond (by cbv) (hq0) (fun c2 => ?_) (fun c2 => ?_)
 ·
  have h := if_t c2 h
  refine Run.seq ?_
  refine Run.region hL hT [] (by cbv) hq0 ?_
  refine Run.ret ?_
  cases h
  refine ⟨_, _, by cbv, ?_, ?_⟩
  · exact LLe.r
  exact (ALe.v LLe.r ALe.nil)
 have h := if_f c2 h
 refine Run.skip ?_
 refine Run.seq ?_
 obtain ⟨x3, h_x3, h⟩ := bnd h
 refine Run.region hL hT [(4, .el [.s (.int .i64 x3)])] (by cbv) ?_ ?_
 · exact (hq Tt (hq Tt (hq (qP h_x3) (hq (qe (f := Int_c) h_x3) (hq (qw (f := Int_c) h_x3) hq0)))))
 refine Run.seq ?_
 refine Run.seq ?_
 refine Run.region hL hT [] (by cbv) ?_ ?_
 · exact (hq Tt hq0)
 refine Run.block ?_
 refine Run.seq ?_
 refine Run.region hL hT [] (by cbv) ?_ ?_
 · exact (hq Tt hq0)
 refine Run.cond (by cbv) (hq0) (fun c4 => ?_) (fun c4 => ?_)
 ·
  have h := if_t c4 h
  refine Run.seq ?_
  refine Run.region hL hT [] (by cbv) ?_ ?_
  · exact (hq Tt (hq Tt hq0))
  refine Run.ret ?_
  cases h
  refine ⟨_, _, by cbv, ?_, ?_⟩
  · exact LLe.r
  exact (ALe.v LLe.r ALe.nil)
 have h := if_f c4 h
 refine Run.seq ?_
 refine Run.region hL hT [] (by cbv) ?_ ?_
 · exact (hq Tt hq0)
 refine Run.cond (by cbv) (hq0) (fun c5 => ?_) (fun c5 => ?_)
 ·
  have h := if_t c5 h
  refine Run.seq ?_
  refine Run.region hL hT [] (by cbv) ?_ ?_
  · exact (hq Tt (hq Tt hq0))
  refine Run.ret ?_
  cases h
  refine ⟨_, _, by cbv, ?_, ?_⟩
  · exact LLe.r
  exact (ALe.v LLe.r ALe.nil)
 have h := if_f c5 h
 refine Run.seq ?_
 refine Run.region hL hT [] (by cbv) ?_ ?_
 · exact (hq Tt hq0)
 refine Run.cond (by cbv) (hq0) (fun c6 => ?_) (fun c6 => ?_)
 ·
  have h := if_t c6 h
  refine Run.seq ?_
  refine Run.region hL hT [] (by cbv) ?_ ?_
  · exact (hq Tt (hq Tt hq0))
  refine Run.ret ?_
  cases h
  refine ⟨_, _, by cbv, ?_, ?_⟩
  · exact LLe.r
  exact (ALe.v LLe.r ALe.nil)
 have h := if_f c6 h
 refine Run.skip ?_
 refine Run.seq ?_
 refine Run.region hL hT [] (by cbv) ?_ ?_
 · exact (hq Tt (hq Tt (hq (fun _ => hq0) (hq (fun _ => hq0) (hq (fun g9 => (hq g9 (hq Tt hq0))) (hq (fun g10 => (hq g10 (hq g10 (hq Tt hq0)))) (hq (fun q11 => (hq q11 hq0)) (hq (fun _ => hq0) hq0))))))))
 refine Run.ret ?_
 cases h
 refine ⟨_, _, by cbv, ?_, ?_⟩
 · exact LLe.r
 exact (ALe.v LLe.r ALe.nil)
theorem qSG {qg : Int} {qa : List Cond} {qh : Int} {qCB : Bool} {qi : Int} {qp : List Int} {qDB : Bool} {qM : Int} {qY : Int} {qGC : Int} {qm : List Int} {r : Bool} (h : qRC.f (Query.mk qg qa qh qCB qi qp qDB qM qY) (Row.mk qGC qm) = some r) : AC Tryz.prog 22 [.ag [.s (.int .i64 qg), .im false (rowsOf qy qa), .s (.int .i64 qh), .s (.bool qCB), .s (.int .i64 qi), .im false (rowsOf Int_c qp), .s (.bool qDB), .s (.int .i64 qM), .s (.int .i64 qY)], .ag [.s (.int .i64 qGC), .im false (rowsOf Int_c qm)]] [.ag [.jk, .jk, .jk, .jk, .jk, .jk, .jk, .jk, .jk], .ag [.jk, .jk]] [.v (.s (.bool r))] := by
 unfold qRC.f at h
 let qK := rowsOf qy
 let qB := rowsOf Int_c
 let qbC := @lenI Cond
 show AC Tryz.prog 22 [.ag [.s (.int .i64 qg), .im false (qK qa), .s (.int .i64 qh), .s (.bool qCB), .s (.int .i64 qi), .im false (qB qp), .s (.bool qDB), .s (.int .i64 qM), .s (.int .i64 qY)], .ag [.s (.int .i64 qGC), .im false (qB qm)]] _ _
 refine run3 Tryz.func22 (by rfl) (by rfl) (by cbv) ⟨by decide, rfl⟩ ?_
 intro ar cm bo sc sa sx ss sl bs sb ln sr ap up rp fr ge le lt nz mm ma sm fl al ci hL F hP hA hT hM hC
 refine Run.seq ?_
 refine Run.region hL hT [] (by cbv) hq0 ?_
 refine Run.seq ?_
 refine Run.seq ?_
 refine Run.region hL hT [] (by cbv) ?_ ?_
 · exact (hq Tt hq0)
 rw [show ln (qK qa) = qbC qa from ln_eq qy _]
 refine Run.block ?_
 refine Run.loop1 (fun (z6 : Int) => ⟨19, 100000, [(3, .pt 1 0 0), (8, .t (.im false (qK qa))), (9, .t (.s (.int .i64 (qbC qa)))), (10, .t (.s (.int .i64 z6)))], [(1, .box 56 [.t (.s (.int .i64 qGC)), .t (.im false (qB qm))])]⟩) (x0 := 0) h (Weak.of _ [(1, 1)] hA (by cbv) ?_) (fun _ => rfl) ?_
 · repeat (first | exact hq0 | refine hq (by first | exact Tt | rfl) ?_)
 intro k z6 h
 rw [qRC.l0] at h
 refine Run.seq ?_
 refine Run.region hL hT [] (by cbv) ?_ ?_
 · exact (hq Tt hq0)
 refine Run.seq ?_
 refine Run.cond (by cbv) (hq0) (fun c7 => ?_) (fun c7 => ?_)
 ·
  have h := if_t c7 h
  refine Run.skip ?_
  refine Run.seq ?_
  refine Run.block ?_
  refine Run.seq ?_
  obtain ⟨⟨qXa, qOb, x8v_V⟩, h_x8, h⟩ := bnd h
  refine Run.region hL hT [(0, .el [.s (.int .i64 qXa), .s (.int .i64 qOb), .s (.int .i64 x8v_V)])] (by cbv) ?_ ?_
  · exact (hq (qP h_x8) (hq (qe (f := qy) h_x8) (hq (qw (f := qy) h_x8) (hq Tt hq0))))
  refine Run.seq ?_
  obtain ⟨r9, h_r9, h⟩ := bnd h
  refine Run.region hL hT [(2, .call [false, false] [.ag [.jk, .jk, .jk], .ag [.jk, .jk]] [.v (.s (.bool r9))])] (by cbv) ?_ ?_
  · exact (hq Tt (hq Tt (hq (hC (qqP h_r9)) hq0)))
  refine Run.cond (by cbv) (hq0) (fun c10 => ?_) (fun c10 => ?_)
  ·
   have h := if_t c10 h
   refine Run.seq ?_
   refine Run.region hL hT [] (by cbv) hq0 ?_
   refine Run.ret ?_
   cases h
   refine ⟨_, _, by cbv, ?_, ?_⟩
   · exact LLe.r
   exact (ALe.v LLe.r ALe.nil)
  have h := if_f c10 h
  refine Run.skip ?_
  refine Run.region hL hT [] (by cbv) ?_ ?_
  · exact (hq Tt hq0)
  refine ⟨(ar .add .i64 z6 1), h, Weak.of _ [(1, 1)] hA (by cbv) ?_⟩
  repeat (first | exact hq0 | refine hq (by first | exact Tt | rfl) ?_)
 have h := if_f c7 h
 refine Run.exit ?_
 refine Run.seq ?_
 refine Run.region hL hT [] (by cbv) hq0 ?_
 refine Run.ret ?_
 cases h
 refine ⟨_, _, by cbv, ?_, ?_⟩
 · exact LLe.r
 exact (ALe.v LLe.r ALe.nil)
theorem qWK {a0 : Int} {r : Bool} (h : qyD.f a0 = some r) : AC Tryz.prog 100 [.v (.s (.int .i64 a0))] [.v (.jk)] [.v (.s (.bool r))] := by
 unfold qyD.f at h
 show AC Tryz.prog 100 [.v (.s (.int .i64 a0))] _ _
 refine run3 Tryz.func100 (by rfl) (by rfl) (by cbv) ⟨by decide, rfl⟩ ?_
 intro ar cm bo sc sa sx ss sl bs sb ln sr ap up rp fr ge le lt nz mm ma sm fl al ci hL F hP hA hT hM hC
 refine Run.seq ?_
 refine Run.region hL hT [] (by cbv) hq0 ?_
 refine Run.seq ?_
 obtain ⟨r1, h_r1, h⟩ := bnd h
 refine Run.region hL hT [(1, .call [false, false, false] [.v (.jk), .v (.jk), .v (.jk)] [.v (.s (.bool r1))])] (by cbv) ?_ ?_
 · exact (hq (hC (qhB h_r1)) hq0)
 refine Run.ret ?_
 cases h
 refine ⟨_, _, by cbv, ?_, ?_⟩
 · exact LLe.r
 exact (ALe.v LLe.r ALe.nil)
theorem qdE {qL : List Int} {a1 : Int} {r : Bool} (h : qOD.f (Schema.mk qL) a1 = some r) : AC Tryz.prog 111 [.ag [.im false (rowsOf Int_c qL)], .v (.s (.int .i64 a1))] [.ag [.jk], .v (.jk)] [.v (.s (.bool r))] := by
 unfold qOD.f at h
 let qB := rowsOf Int_c
 let qZ := @lenI Int
 show AC Tryz.prog 111 [.ag [.im false (qB qL)], .v (.s (.int .i64 a1))] _ _
 refine run3 Tryz.func111 (by rfl) (by rfl) (by cbv) ⟨by decide, rfl⟩ ?_
 intro ar cm bo sc sa sx ss sl bs sb ln sr ap up rp fr ge le lt nz mm ma sm fl al ci hL F hP hA hT hM hC
 refine Run.seq ?_
 refine Run.region hL hT [] (by cbv) hq0 ?_
 refine Run.seq ?_
 obtain ⟨r1, h_r1, h⟩ := bnd h
 refine Run.region hL hT [(5, .call [false, false, false] [.v (.jk), .v (.jk), .v (.jk)] [.v (.s (.bool r1))])] (by cbv) ?_ ?_
 · exact (hq Tt (hq Tt (hq (by rw [show ln (qB qL) = qZ qL from ln_eq Int_c _]; exact (hC (qhB h_r1))) hq0)))
 rw [show ln (qB qL) = qZ qL from ln_eq Int_c _]
 refine Run.ret ?_
 cases h
 refine ⟨_, _, by cbv, ?_, ?_⟩
 · exact LLe.r
 exact (ALe.v LLe.r ALe.nil)
theorem qeH {a0 : Int} {r : Bool} (h : qLF.f a0 = some r) : AC Tryz.prog 112 [.v (.s (.int .i64 a0))] [.v (.jk)] [.v (.s (.bool r))] := by
 unfold qLF.f at h
 show AC Tryz.prog 112 [.v (.s (.int .i64 a0))] _ _
 refine run3 Tryz.func112 (by rfl) (by rfl) (by cbv) ⟨by decide, rfl⟩ ?_
 intro ar cm bo sc sa sx ss sl bs sb ln sr ap up rp fr ge le lt nz mm ma sm fl al ci hL F hP hA hT hM hC
 refine Run.seq ?_
 refine Run.region hL hT [] (by cbv) hq0 ?_
 refine Run.seq ?_
 obtain ⟨r1, h_r1, h⟩ := bnd h
 refine Run.region hL hT [(1, .call [false, false, false] [.v (.jk), .v (.jk), .v (.jk)] [.v (.s (.bool r1))])] (by cbv) ?_ ?_
 · exact (hq (hC (qhB h_r1)) hq0)
 refine Run.ret ?_
 cases h
 refine ⟨_, _, by cbv, ?_, ?_⟩
 · exact LLe.r
 exact (ALe.v LLe.r ALe.nil)
theorem qeE {qL : List Int} {r : Bool} (h : qwB.f (Schema.mk qL) = some r) : AC Tryz.prog 99 [.ag [.im false (rowsOf Int_c qL)]] [.ag [.jk]] [.v (.s (.bool r))] := by
 unfold qwB.f at h
 let qB := rowsOf Int_c
 let qZ := @lenI Int
 show AC Tryz.prog 99 [.ag [.im false (qB qL)]] _ _
 refine run3 Tryz.func99 (by rfl) (by rfl) (by cbv) ⟨by decide, rfl⟩ ?_
 intro ar cm bo sc sa sx ss sl bs sb ln sr ap up rp fr ge le lt nz mm ma sm fl al ci hL F hP hA hT hM hC
 refine Run.seq ?_
 refine Run.region hL hT [] (by cbv) hq0 ?_
 obtain ⟨K2, h_K2, h⟩ := joinE h
 refine Run.join1 K2 (r := r) (fun (y1 : Unit) => ⟨20, 100000, [(1, .pt 1 0 0)], [(1, .box 26 [.t (.im false (qB qL))])]⟩) ?_ ?_
 ·
  skip
  refine Run.seq ?_
  refine Run.region hL hT [] (by cbv) ?_ ?_
  · exact (hq Tt hq0)
  rw [show ln (qB qL) = qZ qL from ln_eq Int_c _]
  refine Run.block ?_
  refine Run.loop1 (fun (z7 : Int) => ⟨20, 100000, [(1, .pt 1 0 0), (6, .t (.im false (qB qL))), (7, .t (.s (.int .i64 (qZ qL)))), (8, .t (.s (.int .i64 z7)))], [(1, .box 26 [.t (.im false (qB qL))])]⟩) (x0 := 0) h (Weak.of _ [(1, 0)] hA (by cbv) ?_) (fun _ => rfl) ?_
  · repeat (first | exact hq0 | refine hq (by first | exact Tt | rfl) ?_)
  intro k z7 h
  rw [qwB.l0] at h
  refine Run.seq ?_
  refine Run.region hL hT [] (by cbv) ?_ ?_
  · exact (hq Tt hq0)
  refine Run.seq ?_
  refine Run.cond (by cbv) (hq0) (fun c8 => ?_) (fun c8 => ?_)
  ·
   have h := if_t c8 h
   refine Run.skip ?_
   refine Run.seq ?_
   refine Run.block ?_
   refine Run.seq ?_
   obtain ⟨x9, h_x9, h⟩ := bnd h
   refine Run.region hL hT [(0, .el [.s (.int .i64 x9)])] (by cbv) ?_ ?_
   · exact (hq (qP h_x9) (hq (qe (f := Int_c) h_x9) (hq (qw (f := Int_c) h_x9) hq0)))
   refine Run.seq ?_
   obtain ⟨r10, h_r10, h⟩ := bnd h
   refine Run.region hL hT [(1, .call [false, false, false] [.v (.jk), .v (.jk), .v (.jk)] [.v (.s (.bool r10))])] (by cbv) ?_ ?_
   · exact (hq (hC (qhB h_r10)) hq0)
   refine Run.cond (by cbv) (hq0) (fun c11 => ?_) (fun c11 => ?_)
   ·
    have h := if_t c11 h
    refine Run.seq ?_
    refine Run.region hL hT [] (by cbv) hq0 ?_
    refine Run.ret ?_
    cases h
    refine ⟨_, _, by cbv, ?_, ?_⟩
    · exact LLe.r
    exact (ALe.v LLe.r ALe.nil)
   have h := if_f c11 h
   refine Run.skip ?_
   refine Run.region hL hT [] (by cbv) ?_ ?_
   · exact (hq Tt hq0)
   refine ⟨(ar .add .i64 z7 1), h, Weak.of _ [(1, 1)] hA (by cbv) ?_⟩
   repeat (first | exact hq0 | refine hq (by first | exact Tt | rfl) ?_)
  have h := if_f c8 h
  refine Run.exit ?_
  refine ⟨(), h, Weak.of _ [(1, 1)] hA (by cbv) ?_⟩
  repeat (first | exact hq0 | refine hq (by first | exact Tt | rfl) ?_)
 intro y1 h
 rw [h_K2] at h
 refine Run.seq ?_
 obtain ⟨r12, h_r12, h⟩ := bnd h
 refine Run.region hL hT [(3, .call [false, false, false] [.v (.jk), .v (.jk), .v (.jk)] [.v (.s (.bool r12))])] (by cbv) ?_ ?_
 · exact (hq Tt (hq (by rw [show ln (qB qL) = qZ qL from ln_eq Int_c _]; exact (hC (qhB h_r12))) hq0))
 rw [show ln (qB qL) = qZ qL from ln_eq Int_c _]
 refine Run.ret ?_
 cases h
 refine ⟨_, _, by cbv, ?_, ?_⟩
 · exact LLe.r
 exact (ALe.v LLe.r ALe.nil)
theorem qrP {qL : List Int} {a1 : Int} {qDE : Int} {qOB : List Int} {r : Bool} (h : qKD.f (Schema.mk qL) a1 (Row.mk qDE qOB) = some r) : AC Tryz.prog 75 [.ag [.im false (rowsOf Int_c qL)], .v (.s (.int .i64 a1)), .ag [.s (.int .i64 qDE), .im false (rowsOf Int_c qOB)]] [.ag [.jk], .v (.jk), .ag [.jk, .jk]] [.v (.s (.bool r))] := by
 unfold qKD.f at h
 let qB := rowsOf Int_c
 let qZ := @lenI Int
 show AC Tryz.prog 75 [.ag [.im false (qB qL)], .v (.s (.int .i64 a1)), .ag [.s (.int .i64 qDE), .im false (qB qOB)]] _ _
 refine run3 Tryz.func75 (by rfl) (by rfl) (by cbv) ⟨by decide, rfl⟩ ?_
 intro ar cm bo sc sa sx ss sl bs sb ln sr ap up rp fr ge le lt nz mm ma sm fl al ci hL F hP hA hT hM hC
 refine Run.seq ?_
 refine Run.region hL hT [] (by cbv) hq0 ?_
 obtain ⟨K2, h_K2, h⟩ := joinE h
 refine Run.join1 K2 (r := r) (fun (y1 : Unit) => ⟨43, 100000, [(1, .t (.s (.int .i64 a1))), (3, .pt 1 0 0), (5, .pt 2 0 0)], [(1, .box 26 [.t (.im false (qB qL))]), (2, .box 56 [.t (.s (.int .i64 qDE)), .t (.im false (qB qOB))])]⟩) ?_ ?_
 ·
  skip
  refine Run.seq ?_
  refine Run.region hL hT [] (by cbv) ?_ ?_
  · exact (hq Tt hq0)
  rw [show ln (qB qOB) = qZ qOB from ln_eq Int_c _]
  refine Run.block ?_
  refine Run.loop1 (fun (z10 : Int) => ⟨43, 100000, [(1, .t (.s (.int .i64 a1))), (3, .pt 1 0 0), (5, .pt 2 0 0), (10, .t (.im false (qB qOB))), (11, .t (.s (.int .i64 (qZ qOB)))), (12, .t (.s (.int .i64 z10)))], [(1, .box 26 [.t (.im false (qB qL))]), (2, .box 56 [.t (.s (.int .i64 qDE)), .t (.im false (qB qOB))])]⟩) (x0 := 0) h (Weak.of _ [(1, 0), (2, 1)] hA (by cbv) ?_) (fun _ => rfl) ?_
  · repeat (first | exact hq0 | refine hq (by first | exact Tt | rfl) ?_)
  intro k z10 h
  rw [qKD.l0] at h
  refine Run.seq ?_
  refine Run.region hL hT [] (by cbv) ?_ ?_
  · exact (hq Tt hq0)
  refine Run.seq ?_
  refine Run.cond (by cbv) (hq0) (fun c11 => ?_) (fun c11 => ?_)
  ·
   have h := if_t c11 h
   refine Run.skip ?_
   refine Run.seq ?_
   refine Run.block ?_
   refine Run.seq ?_
   obtain ⟨x12, h_x12, h⟩ := bnd h
   refine Run.region hL hT [(0, .el [.s (.int .i64 x12)])] (by cbv) ?_ ?_
   · exact (hq (qP h_x12) (hq (qe (f := Int_c) h_x12) (hq (qw (f := Int_c) h_x12) hq0)))
   refine Run.seq ?_
   obtain ⟨r13, h_r13, h⟩ := bnd h
   refine Run.region hL hT [(1, .call [false] [.v (.jk)] [.v (.s (.bool r13))])] (by cbv) ?_ ?_
   · exact (hq (hC (qeH h_r13)) hq0)
   refine Run.cond (by cbv) (hq0) (fun c14 => ?_) (fun c14 => ?_)
   ·
    have h := if_t c14 h
    refine Run.seq ?_
    refine Run.region hL hT [] (by cbv) hq0 ?_
    refine Run.ret ?_
    cases h
    refine ⟨_, _, by cbv, ?_, ?_⟩
    · exact LLe.r
    exact (ALe.v LLe.r ALe.nil)
   have h := if_f c14 h
   refine Run.skip ?_
   refine Run.region hL hT [] (by cbv) ?_ ?_
   · exact (hq Tt hq0)
   refine ⟨(ar .add .i64 z10 1), h, Weak.of _ [(1, 1), (2, 2)] hA (by cbv) ?_⟩
   repeat (first | exact hq0 | refine hq (by first | exact Tt | rfl) ?_)
  have h := if_f c11 h
  refine Run.exit ?_
  refine ⟨(), h, Weak.of _ [(1, 1), (2, 2)] hA (by cbv) ?_⟩
  repeat (first | exact hq0 | refine hq (by first | exact Tt | rfl) ?_)
 intro y1 h
 rw [h_K2] at h
 refine Run.seq ?_
 obtain ⟨r15, h_r15, h⟩ := bnd h
 obtain ⟨r16, h_r16, h⟩ := bnd h
 obtain ⟨x17, h_x17, h⟩ := bnd h
 obtain ⟨r18, h_r18, h⟩ := bnd h
 refine Run.draw hL hT hM [(1, .call [false] [.ag [.jk]] [.v (.s (.bool r15))]), (5, .call [false, false] [.ag [.jk], .v (.jk)] [.v (.s (.bool r16))]), (14, .el [.s (.int .i64 x17)]), (21, .call [false, false, false] [.v (.jk), .v (.jk), .v (.jk)] [.v (.s (.bool r18))])] (by cbv) (by cbv) (by cbv) (by cbv) (by cbv) ?_ ?_
 · exact (hq Tt (hq (hC (qeE h_r15)) (hq (fun g19 => (hq Tt hq0)) (hq (fun _ => hq0) (hq (fun g21 => (hq g21 (hq g21 (hq (hC (qdE (gd_t h_r16 g21))) hq0)))) (hq (fun q22 => (hq q22 hq0)) (hq (fun _ => hq0) (hq (fun _ => hq0) (hq (fun g25 => (hq g25 (hq Tt hq0))) (hq (fun g26 => (hq g26 hq0)) (hq (fun _ => hq0) (hq (fun g28 => (hq g28 (hq Tt hq0))) (hq (fun _ => hq0) (hq (fun g30 => (hq g30 (hq g30 (hq (qP (gd_t h_x17 g30)) (hq (qe (f := Int_c) (gd_t h_x17 g30)) (hq (qw (f := Int_c) (gd_t h_x17 g30)) hq0)))))) (hq (fun g31 => (hq g31 hq0)) (hq (fun g32 => (hq g32 (hq g32 (hq Tt hq0)))) (hq (fun q33 => (hq q33 hq0)) (hq (fun _ => hq0) (hq (fun _ => hq0) (hq (fun g36 => (by have g36C := g36; rw [show ln (qB qOB) = qZ qOB from ln_eq Int_c _] at g36C; exact (hq g36 (hq Tt hq0)))) (hq (fun g37 => (by have g37C := g37; rw [show ln (qB qOB) = qZ qOB from ln_eq Int_c _] at g37C; exact (hq g37 (hq (hC (qhB (gd_t h_r18 g37C))) hq0)))) (hq (fun q38 => (by have q38C := q38; rw [show ln (qB qOB) = qZ qOB from ln_eq Int_c _] at q38C; exact (hq q38 hq0))) (hq (fun _ => hq0) hq0)))))))))))))))))))))))
 rw [show ln (qB qOB) = qZ qOB from ln_eq Int_c _]
 refine Run.ret ?_
 cases h
 refine ⟨_, _, by cbv, ?_, ?_⟩
 · exact LLe.r
 exact (ALe.v LLe.r ALe.nil)
theorem qbN {qL : List Int} {a1 : Int} {a2 : List Row} {r : Bool} (h : qqC.f (Schema.mk qL) a1 a2 = some r) : AC Tryz.prog 101 [.ag [.im false (rowsOf Int_c qL)], .v (.s (.int .i64 a1)), .v (.im false (rowsOf Row_i a2))] [.ag [.jk], .v (.jk), .v (.jk)] [.v (.s (.bool r))] := by
 unfold qqC.f at h
 let qB := rowsOf Int_c
 let qZB := rowsOf Row_i
 let qS := @lenI Row
 show AC Tryz.prog 101 [.ag [.im false (qB qL)], .v (.s (.int .i64 a1)), .v (.im false (qZB a2))] _ _
 refine run3 Tryz.func101 (by rfl) (by rfl) (by cbv) ⟨by decide, rfl⟩ ?_
 intro ar cm bo sc sa sx ss sl bs sb ln sr ap up rp fr ge le lt nz mm ma sm fl al ci hL F hP hA hT hM hC
 refine Run.seq ?_
 refine Run.region hL hT [] (by cbv) hq0 ?_
 obtain ⟨K2, h_K2, h⟩ := joinE h
 refine Run.join1 K2 (r := r) (fun (y1 : Unit) => ⟨49, 100000, [(1, .t (.s (.int .i64 a1))), (2, .t (.im false (qZB a2))), (3, .pt 1 0 0)], [(1, .box 26 [.t (.im false (qB qL))])]⟩) ?_ ?_
 ·
  skip
  refine Run.seq ?_
  refine Run.region hL hT [] (by cbv) hq0 ?_
  rw [show ln (qZB a2) = qS a2 from ln_eq Row_i _]
  refine Run.block ?_
  refine Run.loop1 (fun (z9 : Int) => ⟨49, 100000, [(1, .t (.s (.int .i64 a1))), (2, .t (.im false (qZB a2))), (3, .pt 1 0 0), (9, .t (.im false (qZB a2))), (10, .t (.s (.int .i64 (qS a2)))), (11, .t (.s (.int .i64 z9)))], [(1, .box 26 [.t (.im false (qB qL))])]⟩) (x0 := 0) h (Weak.of _ [(1, 0)] hA (by cbv) ?_) (fun _ => rfl) ?_
  · repeat (first | exact hq0 | refine hq (by first | exact Tt | rfl) ?_)
  intro k z9 h
  rw [qqC.l0] at h
  refine Run.seq ?_
  refine Run.region hL hT [] (by cbv) ?_ ?_
  · exact (hq Tt hq0)
  refine Run.seq ?_
  refine Run.cond (by cbv) (hq0) (fun c10 => ?_) (fun c10 => ?_)
  ·
   have h := if_t c10 h
   refine Run.skip ?_
   refine Run.seq ?_
   refine Run.block ?_
   refine Run.seq ?_
   obtain ⟨⟨qnS, qXK⟩, h_x11, h⟩ := bnd h
   refine Run.region hL hT [(1, .el [.s (.int .i64 qnS), .im false (qB qXK)])] (by cbv) ?_ ?_
   · exact (hq (qP h_x11) (hq (qe (f := Row_i) h_x11) (hq (qw (f := Row_i) h_x11) (hq Tt hq0))))
   refine Run.seq ?_
   obtain ⟨r12, h_r12, h⟩ := bnd h
   obtain ⟨⟨qYa, qXU⟩, h_x13, h⟩ := bnd h
   refine Run.draw hL hT hM [(3, .call [false, false, false] [.ag [.jk], .v (.jk), .ag [.jk, .jk]] [.v (.s (.bool r12))]), (12, .el [.s (.int .i64 qYa), .im false (qB qXU)])] (by cbv) (by cbv) (by cbv) (by cbv) (by cbv) ?_ ?_
   · exact (hq Tt (hq Tt (hq (hC (qrP h_r12)) (hq (fun _ => hq0) (hq (fun g15 => (hq g15 (hq Tt hq0))) (hq (fun g16 => (hq g16 hq0)) (hq (fun _ => hq0) (hq (fun _ => hq0) (hq (fun g19 => (hq g19 (hq Tt hq0))) (hq (fun g20 => (hq g20 (hq g20 (hq (qP (gd_t h_x13 g20)) (hq (qe (f := Row_i) (gd_t h_x13 g20)) (hq (qw (f := Row_i) (gd_t h_x13 g20)) hq0)))))) (hq (fun g21 => (hq g21 hq0)) (hq (fun g22 => (hq g22 hq0)) (hq (fun _ => hq0) (hq (fun g24 => (hq g24 (hq Tt hq0))) (hq (fun g25 => (hq g25 (hq g25 (hq Tt hq0)))) (hq (fun g26 => (hq g26 (hq (fun q27 => (hq (bo_a g26 q27) hq0)) (hq (fun _ => hq0) hq0)))) (hq (fun _ => hq0) (hq (fun q30 => (hq (bo_m q30) hq0)) hq0))))))))))))))))))
   refine Run.cond (by cbv) (hq0) (fun c31 => ?_) (fun c31 => ?_)
   ·
    have h := if_t c31 h
    refine Run.seq ?_
    refine Run.region hL hT [] (by cbv) hq0 ?_
    refine Run.ret ?_
    cases h
    refine ⟨_, _, by cbv, ?_, ?_⟩
    · exact LLe.r
    exact (ALe.v LLe.r ALe.nil)
   have h := if_f c31 h
   refine Run.skip ?_
   refine Run.region hL hT [] (by cbv) ?_ ?_
   · exact (hq Tt hq0)
   refine ⟨(ar .add .i64 z9 1), h, Weak.of _ [(1, 1)] hA (by cbv) ?_⟩
   repeat (first | exact hq0 | refine hq (by first | exact Tt | rfl) ?_)
  have h := if_f c10 h
  refine Run.exit ?_
  refine ⟨(), h, Weak.of _ [(1, 1)] hA (by cbv) ?_⟩
  repeat (first | exact hq0 | refine hq (by first | exact Tt | rfl) ?_)
 intro y1 h
 rw [h_K2] at h
 refine Run.seq ?_
 obtain ⟨r32, h_r32, h⟩ := bnd h
 obtain ⟨r33, h_r33, h⟩ := bnd h
 refine Run.region hL hT [(1, .call [false] [.ag [.jk]] [.v (.s (.bool r32))]), (5, .call [false, false] [.ag [.jk], .v (.jk)] [.v (.s (.bool r33))])] (by cbv) ?_ ?_
 · exact (hq Tt (hq (hC (qeE h_r32)) (hq (fun g34 => (hq Tt hq0)) (hq (fun _ => hq0) (hq (fun g36 => (hq g36 (hq g36 (hq (hC (qdE (gd_t h_r33 g36))) hq0)))) (hq (fun q37 => (hq q37 hq0)) (hq (fun _ => hq0) (hq (fun _ => hq0) (hq (fun g40 => (hq g40 hq0)) (hq (fun g41 => (hq g41 (hq Tt hq0))) (hq (fun q42 => (hq q42 hq0)) (hq (fun _ => hq0) hq0))))))))))))
 rw [show ln (qZB a2) = qS a2 from ln_eq Row_i _]
 refine Run.ret ?_
 cases h
 refine ⟨_, _, by cbv, ?_, ?_⟩
 · exact LLe.r
 exact (ALe.v LLe.r ALe.nil)
theorem qTG {qN : List Int} {qEB : Int} {qq : List (List Row)} {r : Bool} (h : qSC.f (Store.mk (Schema.mk qN) qEB qq) = some r) : AC Tryz.prog 42 [.ag [.im false (rowsOf Int_c qN), .s (.int .i64 qEB), .im false (rowsOf qLC qq)]] [.ag [.jk, .jk, .jk]] [.v (.s (.bool r))] := by
 unfold qSC.f at h
 let qB := rowsOf Int_c
 let qBC := rowsOf qLC
 let qZB := rowsOf Row_i
 let qZ := @lenI Int
 let qJE := @lenI (List Row)
 show AC Tryz.prog 42 [.ag [.im false (qB qN), .s (.int .i64 qEB), .im false (qBC qq)]] _ _
 refine run3 Tryz.func42 (by rfl) (by rfl) (by cbv) ⟨by decide, rfl⟩ ?_
 intro ar cm bo sc sa sx ss sl bs sb ln sr ap up rp fr ge le lt nz mm ma sm fl al ci hL F hP hA hT hM hC
 refine Run.seq ?_
 refine Run.region hL hT [] (by cbv) hq0 ?_
 refine Run.seq ?_
 refine Run.seq ?_
 obtain ⟨r1, h_r1, h⟩ := bnd h
 obtain ⟨r2, h_r2, h⟩ := bnd h
 refine Run.region hL hT [(2, .call [false] [.ag [.jk]] [.v (.s (.bool r1))]), (7, .call [false] [.v (.jk)] [.v (.s (.bool r2))])] (by cbv) ?_ ?_
 · exact (hq Tt (hq (hC (qeE h_r1)) (hq (fun _ => hq0) (hq (fun g4 => (hq g4 (hq Tt hq0))) (hq (fun g5 => (hq g5 (hq (hC (qWK (gd_t h_r2 g5))) hq0))) (hq (fun g6 => (hq g6 hq0)) (hq (fun _ => hq0) (hq (fun q8 => (hq (bo_m q8) hq0)) (hq (fun _ => hq0) (hq (fun g10 => (hq g10 (hq Tt hq0))) (hq (fun g11 => (hq g11 hq0)) (hq (fun _ => hq0) (hq (fun g13 => (hq g13 hq0)) (hq (fun g14 => (hq g14 (hq Tt hq0))) (hq (fun g15 => (hq g15 hq0)) (hq (fun g16 => (hq g16 (hq g16 (hq Tt hq0)))) (hq (fun _ => hq0) (hq (fun q18 => (hq (bo_m q18) hq0)) hq0))))))))))))))))))
 rw [show ln (qB qN) = qZ qN from ln_eq Int_c _]
 rw [show ln (qBC qq) = qJE qq from ln_eq qLC _]
 refine Run.cond (by cbv) (hq0) (fun c19 => ?_) (fun c19 => ?_)
 ·
  have h := if_t c19 h
  refine Run.seq ?_
  refine Run.region hL hT [] (by cbv) hq0 ?_
  refine Run.ret ?_
  cases h
  refine ⟨_, _, by cbv, ?_, ?_⟩
  · exact LLe.r
  exact (ALe.v LLe.r ALe.nil)
 have h := if_f c19 h
 refine Run.skip ?_
 refine Run.seq ?_
 refine Run.seq ?_
 refine Run.region hL hT [] (by cbv) ?_ ?_
 · exact (hq Tt hq0)
 rw [show ln (qBC qq) = qJE qq from ln_eq qLC _]
 refine Run.block ?_
 refine Run.loop1 (fun (z26 : Int) => ⟨40, 100000, [(1, .pt 1 0 0), (26, .t (.im false (qBC qq))), (27, .t (.s (.int .i64 (qJE qq)))), (28, .t (.s (.int .i64 z26)))], [(1, .box 29 [.t (.im false (qB qN)), .t (.s (.int .i64 qEB)), .t (.im false (qBC qq))])]⟩) (x0 := 0) h (Weak.of _ [(1, 0)] hA (by cbv) ?_) (fun _ => rfl) ?_
 · repeat (first | exact hq0 | refine hq (by first | exact Tt | rfl) ?_)
 intro k z26 h
 rw [qSC.l0] at h
 refine Run.seq ?_
 refine Run.region hL hT [] (by cbv) ?_ ?_
 · exact (hq Tt hq0)
 refine Run.seq ?_
 refine Run.cond (by cbv) (hq0) (fun c27 => ?_) (fun c27 => ?_)
 ·
  have h := if_t c27 h
  refine Run.skip ?_
  refine Run.seq ?_
  refine Run.block ?_
  refine Run.seq ?_
  obtain ⟨x28, h_x28, h⟩ := bnd h
  refine Run.region hL hT [(1, .el [.im false (qZB x28)])] (by cbv) ?_ ?_
  · exact (hq (qP h_x28) (hq (qe (f := qLC) h_x28) (hq (qw (f := qLC) h_x28) hq0)))
  refine Run.seq ?_
  obtain ⟨r29, h_r29, h⟩ := bnd h
  refine Run.region hL hT [(4, .call [false, false, false] [.ag [.jk], .v (.jk), .v (.jk)] [.v (.s (.bool r29))])] (by cbv) ?_ ?_
  · exact (hq Tt (hq (hC (qbN h_r29)) hq0))
  refine Run.cond (by cbv) (hq0) (fun c30 => ?_) (fun c30 => ?_)
  ·
   have h := if_t c30 h
   refine Run.seq ?_
   refine Run.region hL hT [] (by cbv) hq0 ?_
   refine Run.ret ?_
   cases h
   refine ⟨_, _, by cbv, ?_, ?_⟩
   · exact LLe.r
   exact (ALe.v LLe.r ALe.nil)
  have h := if_f c30 h
  refine Run.skip ?_
  refine Run.region hL hT [] (by cbv) ?_ ?_
  · exact (hq Tt hq0)
  refine ⟨(ar .add .i64 z26 1), h, Weak.of _ [(1, 1)] hA (by cbv) ?_⟩
  repeat (first | exact hq0 | refine hq (by first | exact Tt | rfl) ?_)
 have h := if_f c27 h
 refine Run.exit ?_
 refine Run.seq ?_
 refine Run.region hL hT [] (by cbv) hq0 ?_
 refine Run.ret ?_
 cases h
 refine ⟨_, _, by cbv, ?_, ?_⟩
 · exact LLe.r
 exact (ALe.v LLe.r ALe.nil)
theorem qlM {qL : List Int} {qr : Int} {qT : List Cond} {qt : Int} {qHB : Bool} {qu : Int} {qBB : List Int} {qIB : Bool} {qQ : Int} {qb : Int} {r : Bool} (h : qdF.f (Schema.mk qL) (Query.mk qr qT qt qHB qu qBB qIB qQ qb) = some r) : AC Tryz.prog 113 [.ag [.im false (rowsOf Int_c qL)], .ag [.s (.int .i64 qr), .im false (rowsOf qy qT), .s (.int .i64 qt), .s (.bool qHB), .s (.int .i64 qu), .im false (rowsOf Int_c qBB), .s (.bool qIB), .s (.int .i64 qQ), .s (.int .i64 qb)]] [.ag [.jk], .ag [.jk, .jk, .jk, .jk, .jk, .jk, .jk, .jk, .jk]] [.v (.s (.bool r))] := by
 unfold qdF.f at h
 let qK := rowsOf qy
 let qB := rowsOf Int_c
 show AC Tryz.prog 113 [.ag [.im false (qB qL)], .ag [.s (.int .i64 qr), .im false (qK qT), .s (.int .i64 qt), .s (.bool qHB), .s (.int .i64 qu), .im false (qB qBB), .s (.bool qIB), .s (.int .i64 qQ), .s (.int .i64 qb)]] _ _
 refine run3 Tryz.func113 (by rfl) (by rfl) (by cbv) ⟨by decide, rfl⟩ ?_
 intro ar cm bo sc sa sx ss sl bs sb ln sr ap up rp fr ge le lt nz mm ma sm fl al ci hL F hP hA hT hM hC
 refine Run.seq ?_
 refine Run.region hL hT [] (by cbv) hq0 ?_
 refine Run.seq ?_
 refine Run.seq ?_
 refine Run.region hL hT [] (by cbv) ?_ ?_
 · exact (hq Tt hq0)
 refine Run.cond (by cbv) (hq0) (fun c1 => ?_) (fun c1 => ?_)
 ·
  have h := if_t c1 h
  refine Run.seq ?_
  refine Run.region hL hT [] (by cbv) ?_ ?_
  · exact (hq Tt (hq Tt (hq (fun _ => hq0) (hq (fun g3 => (hq g3 (hq Tt hq0))) (hq (fun g4 => (hq g4 (hq Tt hq0))) (hq (fun q5 => (hq q5 hq0)) (hq (fun _ => hq0) hq0)))))))
  refine Run.ret ?_
  cases h
  refine ⟨_, _, by cbv, ?_, ?_⟩
  · exact LLe.r
  exact (ALe.v LLe.r ALe.nil)
 have h := if_f c1 h
 refine Run.skip ?_
 refine Run.seq ?_
 obtain ⟨r7, h_r7, h⟩ := bnd h
 obtain ⟨x8, h_x8, h⟩ := bnd h
 obtain ⟨r9, h_r9, h⟩ := bnd h
 refine Run.draw hL hT hM [(3, .call [false, false] [.ag [.jk], .v (.jk)] [.v (.s (.bool r7))]), (11, .el [.s (.int .i64 x8)]), (14, .call [false, false, false] [.v (.jk), .v (.jk), .v (.jk)] [.v (.s (.bool r9))])] (by cbv) (by cbv) (by cbv) (by cbv) (by cbv) ?_ ?_
 · exact (hq Tt (hq Tt (hq (hC (qdE h_r7)) (hq (fun _ => hq0) (hq (fun g11 => (hq g11 (hq Tt hq0))) (hq (fun _ => hq0) (hq (fun g13 => (hq g13 (hq Tt hq0))) (hq (fun _ => hq0) (hq (fun g15 => (hq g15 (hq Tt hq0))) (hq (fun g16 => (hq g16 (hq g16 (hq (qP (gd_t h_x8 g16)) (hq (qe (f := Int_c) (gd_t h_x8 g16)) (hq (qw (f := Int_c) (gd_t h_x8 g16)) hq0)))))) (hq (fun g17 => (hq g17 hq0)) (hq (fun g18 => (hq g18 (hq Tt hq0))) (hq (fun g19 => (hq g19 (hq g19 (hq (hC (qhB (gd_t h_r9 g19))) hq0)))) (hq (fun q20 => (hq q20 hq0)) (hq (fun _ => hq0) hq0)))))))))))))))
 refine Run.ret ?_
 cases h
 refine ⟨_, _, by cbv, ?_, ?_⟩
 · exact LLe.r
 exact (ALe.v LLe.r ALe.nil)
theorem qUG {qL : List Int} {qr : Int} {qT : List Cond} {qt : Int} {qHB : Bool} {qu : Int} {qBB : List Int} {qIB : Bool} {qQ : Int} {qb : Int} {r : Bool} (h : qbB.f (Schema.mk qL) (Query.mk qr qT qt qHB qu qBB qIB qQ qb) = some r) : AC Tryz.prog 51 [.ag [.im false (rowsOf Int_c qL)], .ag [.s (.int .i64 qr), .im false (rowsOf qy qT), .s (.int .i64 qt), .s (.bool qHB), .s (.int .i64 qu), .im false (rowsOf Int_c qBB), .s (.bool qIB), .s (.int .i64 qQ), .s (.int .i64 qb)]] [.ag [.jk], .ag [.jk, .jk, .jk, .jk, .jk, .jk, .jk, .jk, .jk]] [.v (.s (.bool r))] := by
 unfold qbB.f at h
 let qK := rowsOf qy
 let qB := rowsOf Int_c
 let qbC := @lenI Cond
 let qZ := @lenI Int
 show AC Tryz.prog 51 [.ag [.im false (qB qL)], .ag [.s (.int .i64 qr), .im false (qK qT), .s (.int .i64 qt), .s (.bool qHB), .s (.int .i64 qu), .im false (qB qBB), .s (.bool qIB), .s (.int .i64 qQ), .s (.int .i64 qb)]] _ _
 refine run3 Tryz.func51 (by rfl) (by rfl) (by cbv) ⟨by decide, rfl⟩ ?_
 intro ar cm bo sc sa sx ss sl bs sb ln sr ap up rp fr ge le lt nz mm ma sm fl al ci hL F hP hA hT hM hC
 refine Run.seq ?_
 refine Run.region hL hT [] (by cbv) hq0 ?_
 refine Run.seq ?_
 refine Run.seq ?_
 obtain ⟨r1, h_r1, h⟩ := bnd h
 obtain ⟨r2, h_r2, h⟩ := bnd h
 refine Run.region hL hT [(1, .call [false] [.ag [.jk]] [.v (.s (.bool r1))]), (7, .call [false, false] [.ag [.jk], .v (.jk)] [.v (.s (.bool r2))])] (by cbv) ?_ ?_
 · exact (hq Tt (hq (hC (qeE h_r1)) (hq (fun g3 => (hq Tt hq0)) (hq (fun _ => hq0) (hq (fun g5 => (hq g5 (hq Tt hq0))) (hq (fun g6 => (hq g6 (hq g6 (hq (hC (qdE (gd_t h_r2 g6))) hq0)))) (hq (fun g7 => (hq g7 hq0)) (hq (fun _ => hq0) (hq (fun q9 => (hq (bo_m q9) hq0)) hq0)))))))))
 refine Run.cond (by cbv) (hq0) (fun c10 => ?_) (fun c10 => ?_)
 ·
  have h := if_t c10 h
  refine Run.seq ?_
  refine Run.region hL hT [] (by cbv) hq0 ?_
  refine Run.ret ?_
  cases h
  refine ⟨_, _, by cbv, ?_, ?_⟩
  · exact LLe.r
  exact (ALe.v LLe.r ALe.nil)
 have h := if_f c10 h
 refine Run.skip ?_
 refine Run.seq ?_
 obtain ⟨x11, h_x11, h⟩ := bnd h
 refine Run.region hL hT [(4, .el [.s (.int .i64 x11)])] (by cbv) ?_ ?_
 · exact (hq Tt (hq Tt (hq (qP h_x11) (hq (qe (f := Int_c) h_x11) (hq (qw (f := Int_c) h_x11) hq0)))))
 obtain ⟨K13, h_K13, h⟩ := joinE h
 refine Run.join1 K13 (r := r) (fun (y12 : Unit) => ⟨112, 100000, [(2, .pt 1 0 0), (3, .pt 2 0 0), (5, .t (.s (.int .i64 x11)))], [(1, .box 26 [.t (.im false (qB qL))]), (2, .box 32 [.t (.s (.int .i64 qr)), .t (.im false (qK qT)), .t (.s (.int .i64 qt)), .t (.s (.bool qHB)), .t (.s (.int .i64 qu)), .t (.im false (qB qBB)), .t (.s (.bool qIB)), .t (.s (.int .i64 qQ)), .t (.s (.int .i64 qb))])]⟩) ?_ ?_
 ·
  skip
  refine Run.seq ?_
  refine Run.region hL hT [] (by cbv) ?_ ?_
  · exact (hq Tt hq0)
  rw [show ln (qK qT) = qbC qT from ln_eq qy _]
  refine Run.block ?_
  refine Run.loop1 (fun (z28 : Int) => ⟨112, 100000, [(2, .pt 1 0 0), (3, .pt 2 0 0), (5, .t (.s (.int .i64 x11))), (28, .t (.im false (qK qT))), (29, .t (.s (.int .i64 (qbC qT)))), (30, .t (.s (.int .i64 z28)))], [(1, .box 26 [.t (.im false (qB qL))]), (2, .box 32 [.t (.s (.int .i64 qr)), .t (.im false (qK qT)), .t (.s (.int .i64 qt)), .t (.s (.bool qHB)), .t (.s (.int .i64 qu)), .t (.im false (qB qBB)), .t (.s (.bool qIB)), .t (.s (.int .i64 qQ)), .t (.s (.int .i64 qb))])]⟩) (x0 := 0) h (Weak.of _ [(1, 0), (2, 1)] hA (by cbv) ?_) (fun _ => rfl) ?_
  · repeat (first | exact hq0 | refine hq (by first | exact Tt | rfl) ?_)
  intro k z28 h
  rw [qbB.l0] at h
  refine Run.seq ?_
  refine Run.region hL hT [] (by cbv) ?_ ?_
  · exact (hq Tt hq0)
  refine Run.seq ?_
  refine Run.cond (by cbv) (hq0) (fun c29 => ?_) (fun c29 => ?_)
  ·
   have h := if_t c29 h
   refine Run.skip ?_
   refine Run.seq ?_
   refine Run.block ?_
   refine Run.seq ?_
   obtain ⟨⟨qmY, qZa, qPb⟩, h_x30, h⟩ := bnd h
   refine Run.region hL hT [(0, .el [.s (.int .i64 qmY), .s (.int .i64 qZa), .s (.int .i64 qPb)])] (by cbv) ?_ ?_
   · exact (hq (qP h_x30) (hq (qe (f := qy) h_x30) (hq (qw (f := qy) h_x30) (hq Tt hq0))))
   refine Run.seq ?_
   obtain ⟨r31, h_r31, h⟩ := bnd h
   obtain ⟨r32, h_r32, h⟩ := bnd h
   obtain ⟨r33, h_r33, h⟩ := bnd h
   refine Run.region hL hT [(4, .call [false, false, false] [.v (.jk), .v (.jk), .v (.jk)] [.v (.s (.bool r31))]), (9, .call [false, false, false] [.v (.jk), .v (.jk), .v (.jk)] [.v (.s (.bool r32))]), (15, .call [false] [.v (.jk)] [.v (.s (.bool r33))])] (by cbv) ?_ ?_
   · exact (hq Tt (hq Tt (hq (hC (qhB h_r31)) (hq (fun _ => hq0) (hq (fun g35 => (hq g35 (hq Tt hq0))) (hq (fun g36 => (hq g36 (hq (hC (qhB (gd_t h_r32 g36))) hq0))) (hq (fun g37 => (hq g37 hq0)) (hq (fun _ => hq0) (hq (fun q39 => (hq (bo_m q39) hq0)) (hq (fun _ => hq0) (hq (fun g41 => (hq g41 (hq Tt hq0))) (hq (fun g42 => (hq g42 (hq (hC (qeH (gd_t h_r33 g42))) hq0))) (hq (fun g43 => (hq g43 hq0)) (hq (fun _ => hq0) (hq (fun q45 => (hq (bo_m q45) hq0)) hq0)))))))))))))))
   refine Run.cond (by cbv) (hq0) (fun c46 => ?_) (fun c46 => ?_)
   ·
    have h := if_t c46 h
    refine Run.seq ?_
    refine Run.region hL hT [] (by cbv) hq0 ?_
    refine Run.ret ?_
    cases h
    refine ⟨_, _, by cbv, ?_, ?_⟩
    · exact LLe.r
    exact (ALe.v LLe.r ALe.nil)
   have h := if_f c46 h
   refine Run.skip ?_
   refine Run.region hL hT [] (by cbv) ?_ ?_
   · exact (hq Tt hq0)
   refine ⟨(ar .add .i64 z28 1), h, Weak.of _ [(1, 1), (2, 2)] hA (by cbv) ?_⟩
   repeat (first | exact hq0 | refine hq (by first | exact Tt | rfl) ?_)
  have h := if_f c29 h
  refine Run.exit ?_
  refine ⟨(), h, Weak.of _ [(1, 1), (2, 2)] hA (by cbv) ?_⟩
  repeat (first | exact hq0 | refine hq (by first | exact Tt | rfl) ?_)
 intro y12 h
 rw [h_K13] at h
 obtain ⟨K48, h_K48, h⟩ := joinE h
 refine Run.join1 K48 (r := r) (fun (y47 : Unit) => ⟨112, 100000, [(2, .pt 1 0 0), (3, .pt 2 0 0), (5, .t (.s (.int .i64 x11)))], [(1, .box 26 [.t (.im false (qB qL))]), (2, .box 32 [.t (.s (.int .i64 qr)), .t (.im false (qK qT)), .t (.s (.int .i64 qt)), .t (.s (.bool qHB)), .t (.s (.int .i64 qu)), .t (.im false (qB qBB)), .t (.s (.bool qIB)), .t (.s (.int .i64 qQ)), .t (.s (.int .i64 qb))])]⟩) ?_ ?_
 ·
  skip
  refine Run.seq ?_
  refine Run.region hL hT [] (by cbv) ?_ ?_
  · exact (hq Tt hq0)
  rw [show ln (qB qBB) = qZ qBB from ln_eq Int_c _]
  refine Run.block ?_
  refine Run.loop1 (fun (z63 : Int) => ⟨112, 100000, [(2, .pt 1 0 0), (3, .pt 2 0 0), (5, .t (.s (.int .i64 x11))), (54, .t (.im false (qB qBB))), (55, .t (.s (.int .i64 (qZ qBB)))), (56, .t (.s (.int .i64 z63)))], [(1, .box 26 [.t (.im false (qB qL))]), (2, .box 32 [.t (.s (.int .i64 qr)), .t (.im false (qK qT)), .t (.s (.int .i64 qt)), .t (.s (.bool qHB)), .t (.s (.int .i64 qu)), .t (.im false (qB qBB)), .t (.s (.bool qIB)), .t (.s (.int .i64 qQ)), .t (.s (.int .i64 qb))])]⟩) (x0 := 0) h (Weak.of _ [(1, 1), (2, 2)] hA (by cbv) ?_) (fun _ => rfl) ?_
  · repeat (first | exact hq0 | refine hq (by first | exact Tt | rfl) ?_)
  intro k z63 h
  rw [qbB.l1] at h
  refine Run.seq ?_
  refine Run.region hL hT [] (by cbv) ?_ ?_
  · exact (hq Tt hq0)
  refine Run.seq ?_
  refine Run.cond (by cbv) (hq0) (fun c64 => ?_) (fun c64 => ?_)
  ·
   have h := if_t c64 h
   refine Run.skip ?_
   refine Run.seq ?_
   refine Run.block ?_
   refine Run.seq ?_
   obtain ⟨x65, h_x65, h⟩ := bnd h
   refine Run.region hL hT [(1, .el [.s (.int .i64 x65)])] (by cbv) ?_ ?_
   · exact (hq (qP h_x65) (hq (qe (f := Int_c) h_x65) (hq (qw (f := Int_c) h_x65) hq0)))
   refine Run.seq ?_
   obtain ⟨r66, h_r66, h⟩ := bnd h
   obtain ⟨x67, h_x67, h⟩ := bnd h
   refine Run.region hL hT [(3, .call [false, false, false] [.v (.jk), .v (.jk), .v (.jk)] [.v (.s (.bool r66))]), (13, .el [.s (.int .i64 x67)])] (by cbv) ?_ ?_
   · exact (hq Tt (hq (hC (qhB h_r66)) (hq (fun _ => hq0) (hq (fun g69 => (hq g69 (hq Tt hq0))) (hq (fun g70 => (hq g70 hq0)) (hq (fun _ => hq0) (hq (fun g72 => (hq g72 (hq Tt hq0))) (hq (fun _ => hq0) (hq (fun g74 => (hq g74 (hq Tt hq0))) (hq (fun g75 => (hq g75 (hq g75 (hq (qP (gd_t h_x67 g75)) (hq (qe (f := Int_c) (gd_t h_x67 g75)) (hq (qw (f := Int_c) (gd_t h_x67 g75)) hq0)))))) (hq (fun g76 => (hq g76 hq0)) (hq (fun _ => hq0) (hq (fun g78 => (hq g78 (hq g78 (hq Tt hq0)))) (hq (fun g79 => (hq g79 (hq (fun q80 => (hq (bo_a g79 q80) hq0)) (hq (fun _ => hq0) hq0)))) (hq (fun _ => hq0) (hq (fun q83 => (hq (bo_m q83) hq0)) hq0))))))))))))))))
   refine Run.cond (by cbv) (hq0) (fun c84 => ?_) (fun c84 => ?_)
   ·
    have h := if_t c84 h
    refine Run.seq ?_
    refine Run.region hL hT [] (by cbv) hq0 ?_
    refine Run.ret ?_
    cases h
    refine ⟨_, _, by cbv, ?_, ?_⟩
    · exact LLe.r
    exact (ALe.v LLe.r ALe.nil)
   have h := if_f c84 h
   refine Run.skip ?_
   refine Run.region hL hT [] (by cbv) ?_ ?_
   · exact (hq Tt hq0)
   refine ⟨(ar .add .i64 z63 1), h, Weak.of _ [(1, 1), (2, 2)] hA (by cbv) ?_⟩
   repeat (first | exact hq0 | refine hq (by first | exact Tt | rfl) ?_)
  have h := if_f c64 h
  refine Run.exit ?_
  refine ⟨(), h, Weak.of _ [(1, 1), (2, 2)] hA (by cbv) ?_⟩
  repeat (first | exact hq0 | refine hq (by first | exact Tt | rfl) ?_)
 intro y47 h
 rw [h_K48] at h
 refine Run.seq ?_
 obtain ⟨r85, h_r85, h⟩ := bnd h
 refine Run.region hL hT [(3, .call [false, false, false] [.v (.jk), .v (.jk), .v (.jk)] [.v (.s (.bool r85))])] (by cbv) ?_ ?_
 · exact (hq Tt (hq (hC (qhB h_r85)) (hq (fun _ => hq0) (hq (fun g87 => (hq g87 (hq Tt hq0))) (hq (fun g88 => (hq g88 hq0)) (hq (fun g89 => (hq g89 hq0)) (hq (fun _ => hq0) (hq (fun g91 => (hq g91 (hq Tt hq0))) (hq (fun g92 => (hq g92 (hq Tt hq0))) (hq (fun g93 => (hq g93 (hq (fun _ => hq0) (hq (fun q95 => (hq (bo_a g93 (bo_m q95)) hq0)) hq0)))) (hq (fun q96 => (hq q96 hq0)) (hq (fun _ => hq0) hq0))))))))))))
 refine Run.seq ?_
 obtain ⟨r98, h_r98, h⟩ := bnd h
 obtain ⟨r99, h_r99, h⟩ := bnd h
 refine Run.region hL hT [(10, .call [false, false, false] [.v (.jk), .v (.jk), .v (.jk)] [.v (.s (.bool r98))]), (15, .call [false, false] [.ag [.jk], .ag [.jk, .jk, .jk, .jk, .jk, .jk, .jk, .jk, .jk]] [.v (.s (.bool r99))])] (by cbv) ?_ ?_
 · exact (hq Tt (hq Tt (hq (fun _ => hq0) (hq (fun q101 => (by have q101C := q101; rw [show ln (qK qT) = qbC qT from ln_eq qy _] at q101C; exact (hq q101 hq0))) (hq (fun _ => hq0) (hq (fun _ => hq0) (hq (fun g104 => (by have g104C := g104; rw [show ln (qK qT) = qbC qT from ln_eq qy _] at g104C; exact (hq g104 (hq Tt hq0)))) (hq (fun g105 => (by have g105C := g105; rw [show ln (qK qT) = qbC qT from ln_eq qy _] at g105C; exact (hq g105 (hq (hC (qhB (gd_t h_r98 g105C))) hq0)))) (hq (fun q106 => (by have q106C := q106; rw [show ln (qK qT) = qbC qT from ln_eq qy _] at q106C; exact (hq q106 hq0))) (hq (fun _ => hq0) (hq (fun g108 => (by have g108C := g108; rw [show ln (qK qT) = qbC qT from ln_eq qy _] at g108C; exact (hq Tt hq0))) (hq (fun g109 => (by have g109C := g109; rw [show ln (qK qT) = qbC qT from ln_eq qy _] at g109C; exact (hq Tt hq0))) (hq (fun g110 => (by have g110C := g110; rw [show ln (qK qT) = qbC qT from ln_eq qy _] at g110C; exact (hq g110 (hq g110 (hq (hC (qlM (gd_t h_r99 g110C))) hq0))))) (hq (fun q111 => (by have q111C := q111; rw [show ln (qK qT) = qbC qT from ln_eq qy _] at q111C; exact (hq q111 hq0))) (hq (fun _ => hq0) hq0)))))))))))))))
 rw [show ln (qK qT) = qbC qT from ln_eq qy _]
 refine Run.ret ?_
 cases h
 refine ⟨_, _, by cbv, ?_, ?_⟩
 · exact LLe.r
 exact (ALe.v LLe.r ALe.nil)
theorem qIL {a0 : List Int} {r : (List Int)} (h : quE.f a0 = some r) : AC Tryz.prog 102 [.v (.im false (rowsOf Int_c a0))] [.v (.jk)] [.v (.ow 3 (rowsOf Int_c r))] := by
 unfold quE.f at h
 let qB := rowsOf Int_c
 show AC Tryz.prog 102 [.v (.im false (qB a0))] _ _
 refine run3 Tryz.func102 (by rfl) (by rfl) (by cbv) ⟨by decide, rfl⟩ ?_
 intro ar cm bo sc sa sx ss sl bs sb ln sr ap up rp fr ge le lt nz mm ma sm fl al ci hL F hP hA hT hM hC
 refine Run.seq ?_
 refine Run.region hL hT [] (by cbv) hq0 ?_
 refine Run.seq ?_
 obtain ⟨l1, h_l1, h⟩ := bnd h
 refine Run.region hL hT [] (by cbv) ?_ ?_
 · exact (hq (qHT qmS _) (hq (qnC (P := Tryz.prog) (f := Int_c) RLe.r RLe.r h_l1) hq0))
 refine Run.row (rows := (ap ([]) ((qB a0)))) 4098 (qB l1) (by cbv) (qmC (f := Int_c) RLe.r RLe.r h_l1) ?_
 refine Run.ret ?_
 cases h
 refine ⟨_, _, by cbv, ?_, ?_⟩
 · exact LLe.r
 exact (ALe.v LLe.r ALe.nil)
theorem qmM {qCF : Int} {qqB : List Int} {r : Row} (h : qeF.f (Row.mk qCF qqB) = some r) : AC Tryz.prog 56 [.ag [.s (.int .i64 qCF), .im false (rowsOf Int_c qqB)]] [.ag [.jk, .jk]] [.ag [.s (.int .i64 r.Id), .ow 3 (rowsOf Int_c r.Cells)]] := by
 unfold qeF.f at h
 let qB := rowsOf Int_c
 show AC Tryz.prog 56 [.ag [.s (.int .i64 qCF), .im false (qB qqB)]] _ _
 refine run3 Tryz.func56 (by rfl) (by rfl) (by cbv) ⟨by decide, rfl⟩ ?_
 intro ar cm bo sc sa sx ss sl bs sb ln sr ap up rp fr ge le lt nz mm ma sm fl al ci hL F hP hA hT hM hC
 refine Run.seq ?_
 refine Run.region hL hT [] (by cbv) hq0 ?_
 refine Run.seq ?_
 obtain ⟨r1, h_r1, h⟩ := bnd h
 refine Run.draw hL hT hM [(4, .call [false] [.v (.jk)] [.v (.ow 3 (qB r1))])] (by cbv) (by cbv) (by cbv) (by cbv) (by cbv) ?_ ?_
 · exact (hq Tt (hq Tt (hq (hC (qIL h_r1)) (hq Tt hq0))))
 refine Run.ret ?_
 cases h
 refine ⟨_, _, by cbv, ?_, ?_⟩
 · exact LLe.r
 exact (ALe.ag rfl LLe.r ALe.nil)
theorem qsG {qCF : Int} {qqB : List Int} {a1 : Int} {r : Int} (h : qfE.f (Row.mk qCF qqB) a1 = some r) : AC Tryz.prog 67 [.ag [.s (.int .i64 qCF), .im false (rowsOf Int_c qqB)], .v (.s (.int .i64 a1))] [.ag [.jk, .jk], .v (.jk)] [.v (.s (.int .i64 r))] := by
 unfold qfE.f at h
 let qB := rowsOf Int_c
 let qZ := @lenI Int
 show AC Tryz.prog 67 [.ag [.s (.int .i64 qCF), .im false (qB qqB)], .v (.s (.int .i64 a1))] _ _
 refine run3 Tryz.func67 (by rfl) (by rfl) (by cbv) ⟨by decide, rfl⟩ ?_
 intro ar cm bo sc sa sx ss sl bs sb ln sr ap up rp fr ge le lt nz mm ma sm fl al ci hL F hP hA hT hM hC
 refine Run.seq ?_
 refine Run.region hL hT [] (by cbv) hq0 ?_
 refine Run.seq ?_
 refine Run.seq ?_
 obtain ⟨r1, h_r1, h⟩ := bnd h
 refine Run.region hL hT [(5, .call [false, false, false] [.v (.jk), .v (.jk), .v (.jk)] [.v (.s (.bool r1))])] (by cbv) ?_ ?_
 · exact (hq Tt (hq Tt (hq (by rw [show ln (qB qqB) = qZ qqB from ln_eq Int_c _]; exact (hC (qhB h_r1))) hq0)))
 rw [show ln (qB qqB) = qZ qqB from ln_eq Int_c _]
 refine Run.cond (by cbv) (hq0) (fun c2 => ?_) (fun c2 => ?_)
 ·
  have h := if_t c2 h
  refine Run.seq ?_
  refine Run.region hL hT [] (by cbv) hq0 ?_
  refine Run.ret ?_
  cases h
  refine ⟨_, _, by cbv, ?_, ?_⟩
  · exact LLe.r
  exact (ALe.v LLe.r ALe.nil)
 have h := if_f c2 h
 refine Run.skip ?_
 refine Run.seq ?_
 obtain ⟨x3, h_x3, h⟩ := bnd h
 refine Run.region hL hT [(3, .el [.s (.int .i64 x3)])] (by cbv) ?_ ?_
 · exact (hq Tt (hq (qP h_x3) (hq (qe (f := Int_c) h_x3) (hq (qw (f := Int_c) h_x3) hq0))))
 refine Run.ret ?_
 cases h
 refine ⟨_, _, by cbv, ?_, ?_⟩
 · exact LLe.r
 exact (ALe.v LLe.r ALe.nil)
theorem qoJ {qg : Int} {qa : List Cond} {qh : Int} {qCB : Bool} {qi : Int} {qp : List Int} {qDB : Bool} {qM : Int} {qY : Int} {qGC : Int} {qm : List Int} {qDE : Int} {qOB : List Int} {r : Bool} (h : qyF.f (Query.mk qg qa qh qCB qi qp qDB qM qY) (Row.mk qGC qm) (Row.mk qDE qOB) = some r) : AC Tryz.prog 23 [.ag [.s (.int .i64 qg), .im false (rowsOf qy qa), .s (.int .i64 qh), .s (.bool qCB), .s (.int .i64 qi), .im false (rowsOf Int_c qp), .s (.bool qDB), .s (.int .i64 qM), .s (.int .i64 qY)], .ag [.s (.int .i64 qGC), .im false (rowsOf Int_c qm)], .ag [.s (.int .i64 qDE), .im false (rowsOf Int_c qOB)]] [.ag [.jk, .jk, .jk, .jk, .jk, .jk, .jk, .jk, .jk], .ag [.jk, .jk], .ag [.jk, .jk]] [.v (.s (.bool r))] := by
 unfold qyF.f at h
 let qK := rowsOf qy
 let qB := rowsOf Int_c
 show AC Tryz.prog 23 [.ag [.s (.int .i64 qg), .im false (qK qa), .s (.int .i64 qh), .s (.bool qCB), .s (.int .i64 qi), .im false (qB qp), .s (.bool qDB), .s (.int .i64 qM), .s (.int .i64 qY)], .ag [.s (.int .i64 qGC), .im false (qB qm)], .ag [.s (.int .i64 qDE), .im false (qB qOB)]] _ _
 refine run3 Tryz.func23 (by rfl) (by rfl) (by cbv) ⟨by decide, rfl⟩ ?_
 intro ar cm bo sc sa sx ss sl bs sb ln sr ap up rp fr ge le lt nz mm ma sm fl al ci hL F hP hA hT hM hC
 refine Run.seq ?_
 refine Run.region hL hT [] (by cbv) hq0 ?_
 refine Run.seq ?_
 refine Run.seq ?_
 refine Run.region hL hT [] (by cbv) ?_ ?_
 · exact (hq Tt (hq Tt hq0))
 refine Run.cond (by cbv) (hq0) (fun c1 => ?_) (fun c1 => ?_)
 ·
  have h := if_t c1 h
  refine Run.seq ?_
  refine Run.region hL hT [] (by cbv) ?_ ?_
  · exact (hq Tt (hq Tt (hq Tt hq0)))
  refine Run.ret ?_
  cases h
  refine ⟨_, _, by cbv, ?_, ?_⟩
  · exact LLe.r
  exact (ALe.v LLe.r ALe.nil)
 have h := if_f c1 h
 refine Run.skip ?_
 refine Run.seq ?_
 obtain ⟨r2, h_r2, h⟩ := bnd h
 obtain ⟨r3, h_r3, h⟩ := bnd h
 refine Run.draw hL hT hM [(4, .call [false, false] [.ag [.jk, .jk], .v (.jk)] [.v (.s (.int .i64 r2))]), (9, .call [false, false] [.ag [.jk, .jk], .v (.jk)] [.v (.s (.int .i64 r3))])] (by cbv) (by cbv) (by cbv) (by cbv) (by cbv) ?_ ?_
 · exact (hq Tt (hq Tt (hq Tt (hq (hC (qsG h_r2)) (hq Tt (hq Tt (hq Tt (hq (hC (qsG h_r3)) hq0))))))))
 refine Run.seq ?_
 refine Run.block ?_
 refine Run.seq ?_
 refine Run.region hL hT [] (by cbv) ?_ ?_
 · exact (hq Tt hq0)
 refine Run.cond (by cbv) (hq0) (fun c4 => ?_) (fun c4 => ?_)
 ·
  have h := if_t c4 h
  refine Run.seq ?_
  refine Run.region hL hT [] (by cbv) ?_ ?_
  · exact (hq Tt (hq Tt (hq Tt hq0)))
  refine Run.ret ?_
  cases h
  refine ⟨_, _, by cbv, ?_, ?_⟩
  · exact LLe.r
  exact (ALe.v LLe.r ALe.nil)
 have h := if_f c4 h
 refine Run.seq ?_
 refine Run.region hL hT [] (by cbv) ?_ ?_
 · exact (hq Tt hq0)
 refine Run.cond (by cbv) (hq0) (fun c5 => ?_) (fun c5 => ?_)
 ·
  have h := if_t c5 h
  refine Run.seq ?_
  refine Run.region hL hT [] (by cbv) ?_ ?_
  · exact (hq Tt hq0)
  refine Run.ret ?_
  cases h
  refine ⟨_, _, by cbv, ?_, ?_⟩
  · exact LLe.r
  exact (ALe.v LLe.r ALe.nil)
 have h := if_f c5 h
 refine Run.skip ?_
 refine Run.seq ?_
 refine Run.region hL hT [] (by cbv) ?_ ?_
 · exact (hq Tt hq0)
 refine Run.ret ?_
 cases h
 refine ⟨_, _, by cbv, ?_, ?_⟩
 · exact LLe.r
 exact (ALe.v LLe.r ALe.nil)
theorem qUE {qCF : Int} {qqB : List Int} {qGC : Int} {qm : List Int} {qnM : Int} {qoM : List Cond} {qpM : Int} {qsP : Bool} {qqM : Int} {qtP : List Int} {quP : Bool} {qII : Int} {qYK : Int} {r : Int} (h : qxC.f (Row.mk qCF qqB) (Row.mk qGC qm) (Query.mk qnM qoM qpM qsP qqM qtP quP qII qYK) = some r) : AC Tryz.prog 58 [.ag [.s (.int .i64 qCF), .im false (rowsOf Int_c qqB)], .ag [.s (.int .i64 qGC), .im false (rowsOf Int_c qm)], .v (.ip [.s (.int .i64 qnM), .im false (rowsOf qy qoM), .s (.int .i64 qpM), .s (.bool qsP), .s (.int .i64 qqM), .im false (rowsOf Int_c qtP), .s (.bool quP), .s (.int .i64 qII), .s (.int .i64 qYK)])] [.ag [.jk, .jk], .ag [.jk, .jk], .v (.jk)] [.v (.s (.int .i64 r))] := by
 unfold qxC.f at h
 let qK := rowsOf qy
 let qB := rowsOf Int_c
 show AC Tryz.prog 58 [.ag [.s (.int .i64 qCF), .im false (qB qqB)], .ag [.s (.int .i64 qGC), .im false (qB qm)], .v (.ip [.s (.int .i64 qnM), .im false (qK qoM), .s (.int .i64 qpM), .s (.bool qsP), .s (.int .i64 qqM), .im false (qB qtP), .s (.bool quP), .s (.int .i64 qII), .s (.int .i64 qYK)])] _ _
 refine run3 Tryz.func58 (by rfl) (by rfl) (by cbv) ⟨by decide, rfl⟩ ?_
 intro ar cm bo sc sa sx ss sl bs sb ln sr ap up rp fr ge le lt nz mm ma sm fl al ci hL F hP hA hT hM hC
 refine Run.seq ?_
 refine Run.region hL hT [] (by cbv) hq0 ?_
 refine Run.seq ?_
 refine Run.seq ?_
 obtain ⟨r1, h_r1, h⟩ := bnd h
 refine Run.region hL hT [(3, .call [false, false, false] [.ag [.jk, .jk, .jk, .jk, .jk, .jk, .jk, .jk, .jk], .ag [.jk, .jk], .ag [.jk, .jk]] [.v (.s (.bool r1))])] (by cbv) ?_ ?_
 · exact (hq Tt (hq Tt (hq (hC (qoJ h_r1)) hq0)))
 refine Run.cond (by cbv) (hq0) (fun c2 => ?_) (fun c2 => ?_)
 ·
  have h := if_t c2 h
  refine Run.seq ?_
  refine Run.region hL hT [] (by cbv) hq0 ?_
  refine Run.ret ?_
  cases h
  refine ⟨_, _, by cbv, ?_, ?_⟩
  · exact LLe.r
  exact (ALe.v LLe.r ALe.nil)
 have h := if_f c2 h
 refine Run.skip ?_
 refine Run.seq ?_
 refine Run.region hL hT [] (by cbv) hq0 ?_
 refine Run.ret ?_
 cases h
 refine ⟨_, _, by cbv, ?_, ?_⟩
 · exact LLe.r
 exact (ALe.v LLe.r ALe.nil)
theorem qyB {a0 : List Row} {a1 : Int} {a2 : Int} {qNF : Int} {qOF : List Cond} {qPF : Int} {qzF : Bool} {qQF : Int} {qAG : List Int} {qBG : Bool} {qzD : Int} {qpE : Int} {r : (List Row)} (h : qE.f a0 a1 a2 (Query.mk qNF qOF qPF qzF qQF qAG qBG qzD qpE) = some r) : AC Tryz.prog 150 [.v (.ow 56 (rowsOf Row_o a0)), .v (.s (.int .i64 a1)), .v (.s (.int .i64 a2)), .v (.fn 58 [.ip [.s (.int .i64 qNF), .im false (rowsOf qy qOF), .s (.int .i64 qPF), .s (.bool qzF), .s (.int .i64 qQF), .im false (rowsOf Int_c qAG), .s (.bool qBG), .s (.int .i64 qzD), .s (.int .i64 qpE)]])] [.v (.ow 56 (rowsOf Row_o r)), .v (.jk), .v (.jk), .v (.jk)] [] := by
 unfold qE.f at h
 let qK := rowsOf qy
 let qB := rowsOf Int_c
 let qJ := rowsOf Row_o
 show AC Tryz.prog 150 [.v (.ow 56 (qJ a0)), .v (.s (.int .i64 a1)), .v (.s (.int .i64 a2)), .v (.fn 58 [.ip [.s (.int .i64 qNF), .im false (qK qOF), .s (.int .i64 qPF), .s (.bool qzF), .s (.int .i64 qQF), .im false (qB qAG), .s (.bool qBG), .s (.int .i64 qzD), .s (.int .i64 qpE)]])] _ _
 refine run3 Tryz.func150 (by rfl) (by rfl) (by cbv) ⟨by decide, rfl⟩ ?_
 intro ar cm bo sc sa sx ss sl bs sb ln sr ap up rp fr ge le lt nz mm ma sm fl al ci hL F hP hA hT hM hC
 refine Run.weak ?_ (Weak.fnT 3 (by cbv))
 refine Run.seq ?_
 refine Run.region hL hT [] (by cbv) ?_ ?_
 · exact (hq Tt hq0)
 refine Run.block ?_
 refine Run.loop2 (fun (z14 : List Row) (z15 : Int) => ⟨53, 100000, [(0, .rf 0), (1, .t (.s (.int .i64 a1))), (2, .t (.s (.int .i64 a2))), (3, .fn 58 [.t (.ip [.s (.int .i64 qNF), .im false (qK qOF), .s (.int .i64 qPF), .s (.bool qzF), .s (.int .i64 qQF), .im false (qB qAG), .s (.bool qBG), .s (.int .i64 qzD), .s (.int .i64 qpE)])]), (8, .t (.s (.int .i64 z15)))], [(0, .row 0 56 2 (qJ z14))]⟩) (x0 := a0) (x1 := (ar .add .i64 a1 1)) h (Weak.of _ [(0, 0)] hA (by cbv) ?_) (fun _ _ => rfl) ?_
 · repeat (first | exact hq0 | refine hq (by first | exact Tt | rfl) ?_)
 intro k z14 z15 h
 rw [qE.l0] at h
 refine Run.seq ?_
 refine Run.seq ?_
 refine Run.region hL hT [] (by cbv) ?_ ?_
 · exact (hq Tt hq0)
 refine Run.cond (by cbv) (hq0) (fun c16 => ?_) (fun c16 => ?_)
 ·
  have h := if_t c16 h
  refine Run.skip ?_
  obtain ⟨K18, h_K18, h⟩ := joinE h
  refine Run.join1 K18 (r := r) (fun (y17 : List Row) => ⟨53, 100000, [(0, .rf 0), (1, .t (.s (.int .i64 a1))), (2, .t (.s (.int .i64 a2))), (3, .fn 58 [.t (.ip [.s (.int .i64 qNF), .im false (qK qOF), .s (.int .i64 qPF), .s (.bool qzF), .s (.int .i64 qQF), .im false (qB qAG), .s (.bool qBG), .s (.int .i64 qzD), .s (.int .i64 qpE)])]), (8, .t (.s (.int .i64 z15)))], [(0, .row 0 56 2 (qJ y17))]⟩) ?_ ?_
  ·
   skip
   refine Run.block ?_
   refine Run.seq ?_
   refine Run.region hL hT [] (by cbv) hq0 ?_
   refine Run.block ?_
   refine Run.loop2 (fun (z33 : List Row) (z34 : Int) => ⟨53, 100000, [(0, .rf 0), (1, .t (.s (.int .i64 a1))), (2, .t (.s (.int .i64 a2))), (3, .fn 58 [.t (.ip [.s (.int .i64 qNF), .im false (qK qOF), .s (.int .i64 qPF), .s (.bool qzF), .s (.int .i64 qQF), .im false (qB qAG), .s (.bool qBG), .s (.int .i64 qzD), .s (.int .i64 qpE)])]), (8, .t (.s (.int .i64 z15))), (9, .t (.s (.int .i64 z34)))], [(0, .row 0 56 2 (qJ z33))]⟩) (x0 := z14) (x1 := z15) h (Weak.of _ [(0, 0)] hA (by cbv) ?_) (fun _ _ => rfl) ?_
   · repeat (first | exact hq0 | refine hq (by first | exact Tt | rfl) ?_)
   intro k z33 z34 h
   rw [qE.l1] at h
   refine Run.seq ?_
   refine Run.seq ?_
   obtain ⟨⟨qoS, qZK⟩, h_x35, h⟩ := bnd h
   obtain ⟨⟨qpS, qaK⟩, h_x36, h⟩ := bnd h
   obtain ⟨r37, h_r37, h⟩ := bnd h
   refine Run.draw hL hT hM [(8, .el [.s (.int .i64 qoS), .ow 3 (qB qZK)]), (13, .el [.s (.int .i64 qpS), .ow 3 (qB qaK)]), (14, .call [false, false] [.ag [.jk, .jk], .ag [.jk, .jk], .v (.jk)] [.v (.s (.int .i64 r37))])] (by cbv) (by cbv) (by cbv) (by cbv) (by cbv) ?_ ?_
   · exact (hq Tt (hq (fun _ => hq0) (hq (fun _ => hq0) (hq (fun _ => hq0) (hq (fun g41 => (hq g41 (hq g41 (hq (qP (gd_t h_x35 g41)) (hq (qe (f := Row_o) (gd_t h_x35 g41)) hq0))))) (hq (fun g42 => (hq g42 (hq (qP (gd_t h_x35 g42)) (hq (qe (f := Row_o) (gd_t h_x35 g42)) (hq (qw (f := Row_o) (gd_t h_x35 g42)) hq0))))) (hq (fun _ => hq0) (hq (fun _ => hq0) (hq (fun g45 => (hq g45 (hq Tt hq0))) (hq (fun g46 => (hq g46 (hq g46 (hq (qP (gd_t h_x36 g46)) (hq (qe (f := Row_o) (gd_t h_x36 g46)) hq0))))) (hq (fun g47 => (hq g47 (hq (qP (gd_t h_x36 g47)) (hq (qe (f := Row_o) (gd_t h_x36 g47)) (hq (qw (f := Row_o) (gd_t h_x36 g47)) hq0))))) (hq (fun g48 => (hq g48 (hq g48 (hq g48 (hq (hC (AC.args (qUE (gd_t h_r37 g48)) (ALe.ag rfl (LLe.c (LLe.cons (LLe.im (RLe.eq (qAC qwC _))) LLe.nil)) (ALe.ag rfl (LLe.c (LLe.cons (LLe.im (RLe.eq (qAC qwC _))) LLe.nil)) (ALe.v LLe.r ALe.nil))))) hq0))))) (hq (fun g49 => (hq g49 (hq Tt hq0))) (hq (fun q50 => (hq q50 hq0)) (hq (fun _ => hq0) hq0)))))))))))))))
   refine Run.cond (by cbv) (hq0) (fun c52 => ?_) (fun c52 => ?_)
   ·
    have h := if_t c52 h
    refine Run.skip ?_
    refine Run.seq ?_
    refine Run.block ?_
    obtain ⟨⟨qlW, qYO⟩, h_x53, h⟩ := bnd h
    obtain ⟨⟨qmW, qZO⟩, h_x54, h⟩ := bnd h
    obtain ⟨u55, h_u55, h⟩ := bnd h
    obtain ⟨l56, h_l56, h⟩ := bnd h
    refine Run.weak ?_ (Weak.take2 (rows := qJ z33) (e2 := 3) (r1 := qB qYO) (r2 := qB qZO) hT 0 (ar .sub .i64 z34 1) z34 1 107096 1107096 107097 1107097 (by cbv) (by cbv) (by cbv) (by cbv) (by cbv) (by cbv) (qTD h_x53) (qWE Row_o h_x53) ((congrArg (fun q => q[1]?) (qw (f := Row_o) h_x53)).trans rfl) rfl (qTD h_x54) (qWE Row_o h_x54) (ne_t h_u55) ((congrArg (fun q => q[1]?) (qw (f := Row_o) h_x54)).trans rfl) rfl (by cbv) (up (up (qJ z33) (ar .sub .i64 z34 1) 1 [.jk]) z34 1 [.jk]) rfl)
    refine Run.draw hL hT hM [(9, .lk [.s (.int .i64 qlW), .jk] [(1, 1107096)]), (13, .lk [.s (.int .i64 qmW), .jk] [(1, 1107097)])] (by cbv) (by cbv) (by cbv) (by cbv) (by cbv) ?_ ?_
    · exact (hq Tt (hq Tt (hq (qP h_x53) (hq (sw_lt Row_o h_x53) (hq Tt (hq (qP h_x53) (hq (sw_lt Row_o h_x53) (hq (qvQ Row_o h_x53 h_x54 (ne_t h_u55)) (hq (qP h_x54) (hq (sw_lt Row_o h_x54) (hq Tt (hq (qP h_x54) (hq (sw_lt Row_o h_x54) (hq (qwQ Row_o h_x53 h_x54 (ne_t h_u55)) (hq (qP h_x54) (hq (sw_lt Row_o h_x54) (hq (qP h_x54) (hq (sw_lt Row_o h_x54) (hq (qP h_x53) (hq (qwK Row_o h_x53) (hq (qP h_x53) (hq (qwK Row_o h_x53) hq0))))))))))))))))))))))
    refine Run.row (rows := (up (up (up (up (qJ z33) (ar .sub .i64 z34 1) 1 [.jk]) z34 1 [.jk]) z34 0 [.s (.int .i64 qlW), .ow 3 (qB qYO)]) (ar .sub .i64 z34 1) 0 [.s (.int .i64 qmW), .ow 3 (qB qZO)])) 0 (qJ l56) (by cbv) (qLP (f := Row_o) qVK h_x53 h_x54 (ne_t h_u55) (by decide) (.inr ⟨rfl, rfl⟩) h_l56 rfl rfl) ?_
    refine Run.region hL hT [] (by cbv) ?_ ?_
    · exact (hq Tt hq0)
    refine ⟨l56, (ar .sub .i64 z34 1), h, Weak.of _ [(0, 0)] hA (by cbv) ?_⟩
    repeat (first | exact hq0 | refine hq (by first | exact Tt | rfl) ?_)
   have h := if_f c52 h
   refine Run.exit ?_
   refine ⟨z33, h, Weak.of _ [(0, 0)] hA (by cbv) ?_⟩
   repeat (first | exact hq0 | refine hq (by first | exact Tt | rfl) ?_)
  intro y17 h
  rw [h_K18] at h
  refine Run.region hL hT [] (by cbv) ?_ ?_
  · exact (hq Tt hq0)
  refine ⟨y17, (ar .add .i64 z15 1), h, Weak.of _ [(0, 0)] hA (by cbv) ?_⟩
  repeat (first | exact hq0 | refine hq (by first | exact Tt | rfl) ?_)
 have h := if_f c16 h
 refine Run.exit ?_
 cases h
 refine ⟨_, _, by cbv, ?_, ?_⟩
 · exact LLe.r
 exact ALe.nil
theorem qeB {a0 : List Row} {a1 : Int} {a2 : Int} {a3 : Int} {qJB : Int} {qKB : List Cond} {qLB : Int} {qTB : Bool} {qMB : Int} {qUB : List Int} {qVB : Bool} {qf : Int} {qFB : Int} {r : (List Row)} (h : qG.f a0 a1 a2 a3 (Query.mk qJB qKB qLB qTB qMB qUB qVB qf qFB) = some r) : AC Tryz.prog 174 [.v (.ow 56 (rowsOf Row_o a0)), .v (.s (.int .i64 a1)), .v (.s (.int .i64 a2)), .v (.s (.int .i64 a3)), .v (.fn 58 [.ip [.s (.int .i64 qJB), .im false (rowsOf qy qKB), .s (.int .i64 qLB), .s (.bool qTB), .s (.int .i64 qMB), .im false (rowsOf Int_c qUB), .s (.bool qVB), .s (.int .i64 qf), .s (.int .i64 qFB)]])] [.v (.ow 56 (rowsOf Row_o r)), .v (.jk), .v (.jk), .v (.jk), .v (.jk)] [] := by
 unfold qG.f at h
 let qK := rowsOf qy
 let qB := rowsOf Int_c
 let qJ := rowsOf Row_o
 show AC Tryz.prog 174 [.v (.ow 56 (qJ a0)), .v (.s (.int .i64 a1)), .v (.s (.int .i64 a2)), .v (.s (.int .i64 a3)), .v (.fn 58 [.ip [.s (.int .i64 qJB), .im false (qK qKB), .s (.int .i64 qLB), .s (.bool qTB), .s (.int .i64 qMB), .im false (qB qUB), .s (.bool qVB), .s (.int .i64 qf), .s (.int .i64 qFB)]])] _ _
 refine run3 Tryz.func174 (by rfl) (by rfl) (by cbv) ⟨by decide, rfl⟩ ?_
 intro ar cm bo sc sa sx ss sl bs sb ln sr ap up rp fr ge le lt nz mm ma sm fl al ci hL F hP hA hT hM hC
 refine Run.weak ?_ (Weak.fnT 4 (by cbv))
 refine Run.seq ?_
 refine Run.region hL hT [] (by cbv) hq0 ?_
 refine Run.block ?_
 refine Run.loop2 (fun (z6 : List Row) (z7 : Int) => ⟨38, 100000, [(0, .rf 0), (1, .t (.s (.int .i64 a1))), (2, .t (.s (.int .i64 a2))), (3, .t (.s (.int .i64 a3))), (10, .t (.s (.int .i64 z7)))], [(0, .row 0 56 2 (qJ z6))]⟩) (x0 := a0) (x1 := 0) h (Weak.of _ [(0, 0)] hA (by cbv) ?_) (fun _ _ => rfl) ?_
 · repeat (first | exact hq0 | refine hq (by first | exact Tt | rfl) ?_)
 intro k z6 z7 h
 rw [qG.l0] at h
 refine Run.seq ?_
 refine Run.seq ?_
 refine Run.region hL hT [] (by cbv) ?_ ?_
 · exact (hq Tt hq0)
 refine Run.cond (by cbv) (hq0) (fun c8 => ?_) (fun c8 => ?_)
 ·
  have h := if_t c8 h
  refine Run.skip ?_
  refine Run.seq ?_
  refine Run.block ?_
  obtain ⟨⟨qdR, qJI⟩, h_x9, h⟩ := bnd h
  obtain ⟨⟨qvP, qYI⟩, h_x10, h⟩ := bnd h
  obtain ⟨u11, h_u11, h⟩ := bnd h
  obtain ⟨l12, h_l12, h⟩ := bnd h
  refine Run.weak ?_ (Weak.take2 (rows := qJ z6) (e2 := 3) (r1 := qB qJI) (r2 := qB qYI) hT 0 (ar .add .i64 a2 z7) (ar .add .i64 a1 z7) 1 107096 1107096 107097 1107097 (by cbv) (by cbv) (by cbv) (by cbv) (by cbv) (by cbv) (qTD h_x9) (qWE Row_o h_x9) ((congrArg (fun q => q[1]?) (qw (f := Row_o) h_x9)).trans rfl) rfl (qTD h_x10) (qWE Row_o h_x10) (ne_t h_u11) ((congrArg (fun q => q[1]?) (qw (f := Row_o) h_x10)).trans rfl) rfl (by cbv) (up (up (qJ z6) (ar .add .i64 a2 z7) 1 [.jk]) (ar .add .i64 a1 z7) 1 [.jk]) rfl)
  refine Run.draw hL hT hM [(13, .lk [.s (.int .i64 qdR), .jk] [(1, 1107096)]), (19, .lk [.s (.int .i64 qvP), .jk] [(1, 1107097)])] (by cbv) (by cbv) (by cbv) (by cbv) (by cbv) ?_ ?_
  · exact (hq Tt (hq Tt (hq Tt (hq (qP h_x9) (hq (sw_lt Row_o h_x9) (hq Tt (hq (qP h_x9) (hq (sw_lt Row_o h_x9) (hq (qvQ Row_o h_x9 h_x10 (ne_t h_u11)) (hq Tt (hq (qP h_x10) (hq (sw_lt Row_o h_x10) (hq Tt (hq (qP h_x10) (hq (sw_lt Row_o h_x10) (hq (qwQ Row_o h_x9 h_x10 (ne_t h_u11)) (hq (qP h_x10) (hq (sw_lt Row_o h_x10) (hq (qP h_x10) (hq (sw_lt Row_o h_x10) (hq (qP h_x9) (hq (qwK Row_o h_x9) (hq (qP h_x9) (hq (qwK Row_o h_x9) hq0))))))))))))))))))))))))
  refine Run.row (rows := (up (up (up (up (qJ z6) (ar .add .i64 a2 z7) 1 [.jk]) (ar .add .i64 a1 z7) 1 [.jk]) (ar .add .i64 a1 z7) 0 [.s (.int .i64 qdR), .ow 3 (qB qJI)]) (ar .add .i64 a2 z7) 0 [.s (.int .i64 qvP), .ow 3 (qB qYI)])) 0 (qJ l12) (by cbv) (qLP (f := Row_o) qVK h_x9 h_x10 (ne_t h_u11) (by decide) (.inr ⟨rfl, rfl⟩) h_l12 rfl rfl) ?_
  refine Run.region hL hT [] (by cbv) ?_ ?_
  · exact (hq Tt hq0)
  refine ⟨l12, (ar .add .i64 z7 1), h, Weak.of _ [(0, 0)] hA (by cbv) ?_⟩
  repeat (first | exact hq0 | refine hq (by first | exact Tt | rfl) ?_)
 have h := if_f c8 h
 refine Run.exit ?_
 cases h
 refine ⟨_, _, by cbv, ?_, ?_⟩
 · exact LLe.r
 exact ALe.nil
theorem qPD {a0 : List Row} {a1 : Int} {a2 : Int} {a3 : Int} {qJB : Int} {qKB : List Cond} {qLB : Int} {qTB : Bool} {qMB : Int} {qUB : List Int} {qVB : Bool} {qf : Int} {qFB : Int} {r : (List Row)} (h : qI.f a0 a1 a2 a3 (Query.mk qJB qKB qLB qTB qMB qUB qVB qf qFB) = some r) : AC Tryz.prog 165 [.v (.ow 56 (rowsOf Row_o a0)), .v (.s (.int .i64 a1)), .v (.s (.int .i64 a2)), .v (.s (.int .i64 a3)), .v (.fn 58 [.ip [.s (.int .i64 qJB), .im false (rowsOf qy qKB), .s (.int .i64 qLB), .s (.bool qTB), .s (.int .i64 qMB), .im false (rowsOf Int_c qUB), .s (.bool qVB), .s (.int .i64 qf), .s (.int .i64 qFB)]])] [.v (.ow 56 (rowsOf Row_o r)), .v (.jk), .v (.jk), .v (.jk), .v (.jk)] [] := by
 unfold qI.f at h
 let qK := rowsOf qy
 let qB := rowsOf Int_c
 let qJ := rowsOf Row_o
 show AC Tryz.prog 165 [.v (.ow 56 (qJ a0)), .v (.s (.int .i64 a1)), .v (.s (.int .i64 a2)), .v (.s (.int .i64 a3)), .v (.fn 58 [.ip [.s (.int .i64 qJB), .im false (qK qKB), .s (.int .i64 qLB), .s (.bool qTB), .s (.int .i64 qMB), .im false (qB qUB), .s (.bool qVB), .s (.int .i64 qf), .s (.int .i64 qFB)]])] _ _
 refine run3 Tryz.func165 (by rfl) (by rfl) (by cbv) ⟨by decide, rfl⟩ ?_
 intro ar cm bo sc sa sx ss sl bs sb ln sr ap up rp fr ge le lt nz mm ma sm fl al ci hL F hP hA hT hM hC
 refine Run.weak ?_ (Weak.fnT 4 (by cbv))
 refine Run.seq ?_
 refine Run.region hL hT [] (by cbv) ?_ ?_
 · exact (hq Tt hq0)
 refine Run.seq ?_
 refine Run.region hL hT [] (by cbv) ?_ ?_
 · exact (hq Tt hq0)
 obtain ⟨K3, h_K3, h⟩ := joinE h
 refine Run.join2 K3 (r := r) (fun (y1 : List Row) (y2 : Int) => ⟨58, 100000, [(0, .rf 0), (2, .t (.s (.int .i64 a2))), (4, .fn 58 [.t (.ip [.s (.int .i64 qJB), .im false (qK qKB), .s (.int .i64 qLB), .s (.bool qTB), .s (.int .i64 qMB), .im false (qB qUB), .s (.bool qVB), .s (.int .i64 qf), .s (.int .i64 qFB)])]), (10, .t (.s (.int .i64 y2)))], [(0, .row 0 56 2 (qJ y1))]⟩) ?_ ?_
 ·
  skip
  refine Run.block ?_
  refine Run.loop3 (fun (z17 : List Row) (z18 : Int) (z19 : Int) => ⟨58, 100000, [(0, .rf 0), (2, .t (.s (.int .i64 a2))), (4, .fn 58 [.t (.ip [.s (.int .i64 qJB), .im false (qK qKB), .s (.int .i64 qLB), .s (.bool qTB), .s (.int .i64 qMB), .im false (qB qUB), .s (.bool qVB), .s (.int .i64 qf), .s (.int .i64 qFB)])]), (10, .t (.s (.int .i64 z18))), (11, .t (.s (.int .i64 z19)))], [(0, .row 0 56 2 (qJ z17))]⟩) (x0 := a0) (x1 := (ar .sub .i64 a2 a1)) (x2 := (ar .sub .i64 a3 a2)) h (Weak.of _ [(0, 0)] hA (by cbv) ?_) (fun _ _ _ => rfl) ?_
  · repeat (first | exact hq0 | refine hq (by first | exact Tt | rfl) ?_)
  intro k z17 z18 z19 h
  rw [qI.l0] at h
  refine Run.seq ?_
  refine Run.seq ?_
  refine Run.region hL hT [] (by cbv) ?_ ?_
  · exact (hq Tt hq0)
  refine Run.cond (by cbv) (hq0) (fun c20 => ?_) (fun c20 => ?_)
  ·
   have h := if_t c20 h
   refine Run.skip ?_
   refine Run.block ?_
   refine Run.seq ?_
   refine Run.region hL hT [] (by cbv) ?_ ?_
   · exact (hq Tt hq0)
   refine Run.cond (by cbv) (hq0) (fun c21 => ?_) (fun c21 => ?_)
   ·
    have h := if_t c21 h
    refine Run.seq ?_
    obtain ⟨r22, h_r22, h⟩ := bnd h
    refine Run.region hL hT [(7, .call [true, false, false, false, false] [.v (.ow 56 (qJ r22)), .v (.jk), .v (.jk), .v (.jk), .v (.jk)] [])] (by cbv) ?_ ?_
    · exact (hq Tt (hq (hC (qeB h_r22)) hq0))
    refine Run.region hL hT [] (by cbv) ?_ ?_
    · exact (hq Tt hq0)
    refine ⟨r22, (ar .sub .i64 z18 z19), z19, h, Weak.of _ [(0, 0)] hA (by cbv) ?_⟩
    repeat (first | exact hq0 | refine hq (by first | exact Tt | rfl) ?_)
   have h := if_f c21 h
   refine Run.seq ?_
   obtain ⟨r23, h_r23, h⟩ := bnd h
   refine Run.region hL hT [(11, .call [true, false, false, false, false] [.v (.ow 56 (qJ r23)), .v (.jk), .v (.jk), .v (.jk), .v (.jk)] [])] (by cbv) ?_ ?_
   · exact (hq Tt (hq Tt (hq Tt (hq (hC (qeB h_r23)) hq0))))
   refine Run.region hL hT [] (by cbv) ?_ ?_
   · exact (hq Tt hq0)
   refine ⟨r23, z18, (ar .sub .i64 z19 z18), h, Weak.of _ [(0, 0)] hA (by cbv) ?_⟩
   repeat (first | exact hq0 | refine hq (by first | exact Tt | rfl) ?_)
  have h := if_f c20 h
  refine Run.exit ?_
  refine ⟨z17, z18, h, Weak.of _ [(0, 0)] hA (by cbv) ?_⟩
  repeat (first | exact hq0 | refine hq (by first | exact Tt | rfl) ?_)
 intro y1 y2 h
 rw [h_K3] at h
 obtain ⟨r24, h_r24, h⟩ := bnd h
 refine Run.region hL hT [(7, .call [true, false, false, false, false] [.v (.ow 56 (qJ r24)), .v (.jk), .v (.jk), .v (.jk), .v (.jk)] [])] (by cbv) ?_ ?_
 · exact (hq Tt (hq (hC (qeB h_r24)) hq0))
 cases h
 refine ⟨_, _, by cbv, ?_, ?_⟩
 · exact LLe.r
 exact ALe.nil
theorem qHD (self : (List Row) → Int → Int → Int → Query → Option ((List Row))) (hself : ∀ {a0 : List Row} {a1 : Int} {a2 : Int} {a3 : Int} {qJB : Int} {qKB : List Cond} {qLB : Int} {qTB : Bool} {qMB : Int} {qUB : List Int} {qVB : Bool} {qf : Int} {qFB : Int} {r : (List Row)} (h : self a0 a1 a2 a3 (Query.mk qJB qKB qLB qTB qMB qUB qVB qf qFB) = some r), AC Tryz.prog 151 [.v (.ow 56 (rowsOf Row_o a0)), .v (.s (.int .i64 a1)), .v (.s (.int .i64 a2)), .v (.s (.int .i64 a3)), .v (.fn 58 [.ip [.s (.int .i64 qJB), .im false (rowsOf qy qKB), .s (.int .i64 qLB), .s (.bool qTB), .s (.int .i64 qMB), .im false (rowsOf Int_c qUB), .s (.bool qVB), .s (.int .i64 qf), .s (.int .i64 qFB)]])] [.v (.ow 56 (rowsOf Row_o r)), .v (.jk), .v (.jk), .v (.jk), .v (.jk)] []) {a0 : List Row} {a1 : Int} {a2 : Int} {a3 : Int} {qJB : Int} {qKB : List Cond} {qLB : Int} {qTB : Bool} {qMB : Int} {qUB : List Int} {qVB : Bool} {qf : Int} {qFB : Int} {r : (List Row)} (h : qA.b self a0 a1 a2 a3 (Query.mk qJB qKB qLB qTB qMB qUB qVB qf qFB) = some r) : AC Tryz.prog 151 [.v (.ow 56 (rowsOf Row_o a0)), .v (.s (.int .i64 a1)), .v (.s (.int .i64 a2)), .v (.s (.int .i64 a3)), .v (.fn 58 [.ip [.s (.int .i64 qJB), .im false (rowsOf qy qKB), .s (.int .i64 qLB), .s (.bool qTB), .s (.int .i64 qMB), .im false (rowsOf Int_c qUB), .s (.bool qVB), .s (.int .i64 qf), .s (.int .i64 qFB)]])] [.v (.ow 56 (rowsOf Row_o r)), .v (.jk), .v (.jk), .v (.jk), .v (.jk)] [] := by
 unfold qA.b at h
 let qK := rowsOf qy
 let qB := rowsOf Int_c
 let qJ := rowsOf Row_o
 show AC Tryz.prog 151 [.v (.ow 56 (qJ a0)), .v (.s (.int .i64 a1)), .v (.s (.int .i64 a2)), .v (.s (.int .i64 a3)), .v (.fn 58 [.ip [.s (.int .i64 qJB), .im false (qK qKB), .s (.int .i64 qLB), .s (.bool qTB), .s (.int .i64 qMB), .im false (qB qUB), .s (.bool qVB), .s (.int .i64 qf), .s (.int .i64 qFB)]])] _ _
 refine run3 Tryz.func151 (by rfl) (by rfl) (by cbv) ⟨by decide, rfl⟩ ?_
 intro ar cm bo sc sa sx ss sl bs sb ln sr ap up rp fr ge le lt nz mm ma sm fl al ci hL F hP hA hT hM hC
 refine Run.weak ?_ (Weak.fnT 4 (by cbv))
 obtain ⟨K2, h_K2, h⟩ := joinE h
 refine Run.join1 K2 (r := r) (fun (y1 : Unit) => ⟨220, 100000, [(0, .rf 0), (1, .t (.s (.int .i64 a1))), (2, .t (.s (.int .i64 a2))), (3, .t (.s (.int .i64 a3))), (4, .fn 58 [.t (.ip [.s (.int .i64 qJB), .im false (qK qKB), .s (.int .i64 qLB), .s (.bool qTB), .s (.int .i64 qMB), .im false (qB qUB), .s (.bool qVB), .s (.int .i64 qf), .s (.int .i64 qFB)])])], [(0, .row 0 56 2 (qJ a0))]⟩) ?_ ?_
 ·
  skip
  refine Run.seq ?_
  refine Run.region hL hT [] (by cbv) ?_ ?_
  · exact (hq Tt (hq Tt hq0))
  refine Run.cond (by cbv) (hq0) (fun c3 => ?_) (fun c3 => ?_)
  ·
   have h := if_t c3 h
   refine Run.seq ?_
   refine Run.region hL hT [] (by cbv) hq0 ?_
   refine Run.seq ?_
   refine Run.region hL hT [] (by cbv) hq0 ?_
   obtain ⟨K5, h_K5, h⟩ := joinE h
   refine Run.join1 K5 (r := r) (fun (y4 : Int) => ⟨220, 100000, [(0, .rf 0), (1, .t (.s (.int .i64 a1))), (10, .t (.s (.int .i64 y4)))], [(0, .row 0 56 2 (qJ a0))]⟩) ?_ ?_
   ·
    skip
    refine Run.block ?_
    refine Run.loop2 (fun (z19 : Int) (z20 : Int) => ⟨220, 100000, [(0, .rf 0), (1, .t (.s (.int .i64 a1))), (4, .fn 58 [.t (.ip [.s (.int .i64 qJB), .im false (qK qKB), .s (.int .i64 qLB), .s (.bool qTB), .s (.int .i64 qMB), .im false (qB qUB), .s (.bool qVB), .s (.int .i64 qf), .s (.int .i64 qFB)])]), (10, .t (.s (.int .i64 z19))), (11, .t (.s (.int .i64 z20)))], [(0, .row 0 56 2 (qJ a0))]⟩) (x0 := a2) (x1 := a3) h (Weak.of _ [(0, 0)] hA (by cbv) ?_) (fun _ _ => rfl) ?_
    · repeat (first | exact hq0 | refine hq (by first | exact Tt | rfl) ?_)
    intro k z19 z20 h
    rw [qA.l0] at h
    refine Run.seq ?_
    refine Run.seq ?_
    refine Run.region hL hT [] (by cbv) ?_ ?_
    · exact (hq Tt hq0)
    refine Run.cond (by cbv) (hq0) (fun c21 => ?_) (fun c21 => ?_)
    ·
     have h := if_t c21 h
     refine Run.skip ?_
     refine Run.block ?_
     refine Run.seq ?_
     refine Run.region hL hT [] (by cbv) ?_ ?_
     · exact (hq Tt (hq Tt (hq Tt (hq (by decide : (0 : Int) ≤ 1) (hq (by decide : (1 : Int) < 64) hq0)))))
     refine Run.seq ?_
     obtain ⟨⟨qaa, qYU⟩, h_x22, h⟩ := bnd h
     obtain ⟨⟨qba, qZU⟩, h_x23, h⟩ := bnd h
     obtain ⟨r24, h_r24, h⟩ := bnd h
     refine Run.draw hL hT hM [(4, .el [.s (.int .i64 qaa), .ow 3 (qB qYU)]), (8, .el [.s (.int .i64 qba), .ow 3 (qB qZU)]), (9, .call [false, false] [.ag [.jk, .jk], .ag [.jk, .jk], .v (.jk)] [.v (.s (.int .i64 r24))])] (by cbv) (by cbv) (by cbv) (by cbv) (by cbv) ?_ ?_
     · exact (hq (qP h_x22) (hq (qe (f := Row_o) h_x22) (hq (qP h_x22) (hq (qe (f := Row_o) h_x22) (hq (qw (f := Row_o) h_x22) (hq (qP h_x23) (hq (qe (f := Row_o) h_x23) (hq (qP h_x23) (hq (qe (f := Row_o) h_x23) (hq (qw (f := Row_o) h_x23) (hq (hC (AC.args (qUE h_r24) (ALe.ag rfl (LLe.c (LLe.cons (LLe.im (RLe.eq (qAC qwC _))) LLe.nil)) (ALe.ag rfl (LLe.c (LLe.cons (LLe.im (RLe.eq (qAC qwC _))) LLe.nil)) (ALe.v LLe.r ALe.nil))))) (hq Tt hq0))))))))))))
     refine Run.cond (by cbv) (hq0) (fun c25 => ?_) (fun c25 => ?_)
     ·
      have h := if_t c25 h
      refine Run.region hL hT [] (by cbv) ?_ ?_
      · exact (hq Tt hq0)
      refine ⟨(ar .add .i64 (ar .or .i64 (ar .shr .u64 (ar .or .u64 (ar .add .i64 z19 z20) 0) 1) 0) 1), z20, h, Weak.of _ [(0, 0)] hA (by cbv) ?_⟩
      repeat (first | exact hq0 | refine hq (by first | exact Tt | rfl) ?_)
     have h := if_f c25 h
     refine Run.region hL hT [] (by cbv) hq0 ?_
     refine ⟨z19, (ar .or .i64 (ar .shr .u64 (ar .or .u64 (ar .add .i64 z19 z20) 0) 1) 0), h, Weak.of _ [(0, 0)] hA (by cbv) ?_⟩
     repeat (first | exact hq0 | refine hq (by first | exact Tt | rfl) ?_)
    have h := if_f c21 h
    refine Run.exit ?_
    refine ⟨z19, h, Weak.of _ [(0, 0)] hA (by cbv) ?_⟩
    repeat (first | exact hq0 | refine hq (by first | exact Tt | rfl) ?_)
   intro y4 h
   rw [h_K5] at h
   refine Run.seq ?_
   refine Run.seq ?_
   refine Run.region hL hT [] (by cbv) hq0 ?_
   refine Run.block ?_
   refine Run.loop2 (fun (z29 : List Row) (z30 : Int) => ⟨220, 100000, [(0, .rf 0), (10, .t (.s (.int .i64 y4))), (13, .t (.s (.int .i64 z30)))], [(0, .row 0 56 2 (qJ z29))]⟩) (x0 := a0) (x1 := a1) h (Weak.of _ [(0, 0)] hA (by cbv) ?_) (fun _ _ => rfl) ?_
   · repeat (first | exact hq0 | refine hq (by first | exact Tt | rfl) ?_)
   intro k z29 z30 h
   rw [qA.l1] at h
   refine Run.seq ?_
   refine Run.seq ?_
   refine Run.region hL hT [] (by cbv) ?_ ?_
   · exact (hq Tt (hq Tt hq0))
   refine Run.cond (by cbv) (hq0) (fun c31 => ?_) (fun c31 => ?_)
   ·
    have h := if_t c31 h
    refine Run.skip ?_
    refine Run.seq ?_
    refine Run.block ?_
    obtain ⟨⟨qnW, qaO⟩, h_x32, h⟩ := bnd h
    obtain ⟨⟨qwP, qZI⟩, h_x33, h⟩ := bnd h
    obtain ⟨u34, h_u34, h⟩ := bnd h
    obtain ⟨l35, h_l35, h⟩ := bnd h
    refine Run.weak ?_ (Weak.take2 (rows := qJ z29) (e2 := 3) (r1 := qB qaO) (r2 := qB qZI) hT 0 (ar .add .i64 z30 1) z30 1 107096 1107096 107097 1107097 (by cbv) (by cbv) (by cbv) (by cbv) (by cbv) (by cbv) (qTD h_x32) (qWE Row_o h_x32) ((congrArg (fun q => q[1]?) (qw (f := Row_o) h_x32)).trans rfl) rfl (qTD h_x33) (qWE Row_o h_x33) (ne_t h_u34) ((congrArg (fun q => q[1]?) (qw (f := Row_o) h_x33)).trans rfl) rfl (by cbv) (up (up (qJ z29) (ar .add .i64 z30 1) 1 [.jk]) z30 1 [.jk]) rfl)
    refine Run.draw hL hT hM [(9, .lk [.s (.int .i64 qnW), .jk] [(1, 1107096)]), (13, .lk [.s (.int .i64 qwP), .jk] [(1, 1107097)])] (by cbv) (by cbv) (by cbv) (by cbv) (by cbv) ?_ ?_
    · exact (hq Tt (hq Tt (hq (qP h_x32) (hq (sw_lt Row_o h_x32) (hq Tt (hq (qP h_x32) (hq (sw_lt Row_o h_x32) (hq (qvQ Row_o h_x32 h_x33 (ne_t h_u34)) (hq (qP h_x33) (hq (sw_lt Row_o h_x33) (hq Tt (hq (qP h_x33) (hq (sw_lt Row_o h_x33) (hq (qwQ Row_o h_x32 h_x33 (ne_t h_u34)) (hq (qP h_x33) (hq (sw_lt Row_o h_x33) (hq (qP h_x33) (hq (sw_lt Row_o h_x33) (hq (qP h_x32) (hq (qwK Row_o h_x32) (hq (qP h_x32) (hq (qwK Row_o h_x32) hq0))))))))))))))))))))))
    refine Run.row (rows := (up (up (up (up (qJ z29) (ar .add .i64 z30 1) 1 [.jk]) z30 1 [.jk]) z30 0 [.s (.int .i64 qnW), .ow 3 (qB qaO)]) (ar .add .i64 z30 1) 0 [.s (.int .i64 qwP), .ow 3 (qB qZI)])) 0 (qJ l35) (by cbv) (qLP (f := Row_o) qVK h_x32 h_x33 (ne_t h_u34) (by decide) (.inr ⟨rfl, rfl⟩) h_l35 rfl rfl) ?_
    refine Run.region hL hT [] (by cbv) ?_ ?_
    · exact (hq Tt hq0)
    refine ⟨l35, (ar .add .i64 z30 1), h, Weak.of _ [(0, 0)] hA (by cbv) ?_⟩
    repeat (first | exact hq0 | refine hq (by first | exact Tt | rfl) ?_)
   have h := if_f c31 h
   refine Run.exit ?_
   refine Run.ret ?_
   cases h
   refine ⟨_, _, by cbv, ?_, ?_⟩
   · exact LLe.r
   exact ALe.nil
  have h := if_f c3 h
  refine Run.skip ?_
  refine ⟨(), h, Weak.of _ [(0, 0)] hA (by cbv) ?_⟩
  repeat (first | exact hq0 | refine hq (by first | exact Tt | rfl) ?_)
 intro y1 h
 rw [h_K2] at h
 obtain ⟨K37, h_K37, h⟩ := joinE h
 refine Run.join1 K37 (r := r) (fun (y36 : Unit) => ⟨220, 100000, [(0, .rf 0), (1, .t (.s (.int .i64 a1))), (2, .t (.s (.int .i64 a2))), (3, .t (.s (.int .i64 a3))), (4, .fn 58 [.t (.ip [.s (.int .i64 qJB), .im false (qK qKB), .s (.int .i64 qLB), .s (.bool qTB), .s (.int .i64 qMB), .im false (qB qUB), .s (.bool qVB), .s (.int .i64 qf), .s (.int .i64 qFB)])])], [(0, .row 0 56 2 (qJ a0))]⟩) ?_ ?_
 ·
  skip
  refine Run.seq ?_
  refine Run.region hL hT [] (by cbv) ?_ ?_
  · exact (hq Tt (hq Tt hq0))
  refine Run.cond (by cbv) (hq0) (fun c38 => ?_) (fun c38 => ?_)
  ·
   have h := if_t c38 h
   refine Run.seq ?_
   refine Run.region hL hT [] (by cbv) hq0 ?_
   refine Run.seq ?_
   refine Run.region hL hT [] (by cbv) hq0 ?_
   obtain ⟨K40, h_K40, h⟩ := joinE h
   refine Run.join1 K40 (r := r) (fun (y39 : Int) => ⟨220, 100000, [(0, .rf 0), (2, .t (.s (.int .i64 a2))), (14, .t (.s (.int .i64 y39)))], [(0, .row 0 56 2 (qJ a0))]⟩) ?_ ?_
   ·
    skip
    refine Run.block ?_
    refine Run.loop2 (fun (z54 : Int) (z55 : Int) => ⟨220, 100000, [(0, .rf 0), (2, .t (.s (.int .i64 a2))), (4, .fn 58 [.t (.ip [.s (.int .i64 qJB), .im false (qK qKB), .s (.int .i64 qLB), .s (.bool qTB), .s (.int .i64 qMB), .im false (qB qUB), .s (.bool qVB), .s (.int .i64 qf), .s (.int .i64 qFB)])]), (14, .t (.s (.int .i64 z54))), (15, .t (.s (.int .i64 z55)))], [(0, .row 0 56 2 (qJ a0))]⟩) (x0 := a1) (x1 := a2) h (Weak.of _ [(0, 0)] hA (by cbv) ?_) (fun _ _ => rfl) ?_
    · repeat (first | exact hq0 | refine hq (by first | exact Tt | rfl) ?_)
    intro k z54 z55 h
    rw [qA.l2] at h
    refine Run.seq ?_
    refine Run.seq ?_
    refine Run.region hL hT [] (by cbv) ?_ ?_
    · exact (hq Tt hq0)
    refine Run.cond (by cbv) (hq0) (fun c56 => ?_) (fun c56 => ?_)
    ·
     have h := if_t c56 h
     refine Run.skip ?_
     refine Run.block ?_
     refine Run.seq ?_
     refine Run.region hL hT [] (by cbv) ?_ ?_
     · exact (hq Tt (hq Tt (hq Tt (hq (by decide : (0 : Int) ≤ 1) (hq (by decide : (1 : Int) < 64) hq0)))))
     refine Run.seq ?_
     obtain ⟨⟨qca, qaU⟩, h_x57, h⟩ := bnd h
     obtain ⟨⟨qda, qbU⟩, h_x58, h⟩ := bnd h
     obtain ⟨r59, h_r59, h⟩ := bnd h
     refine Run.draw hL hT hM [(4, .el [.s (.int .i64 qca), .ow 3 (qB qaU)]), (8, .el [.s (.int .i64 qda), .ow 3 (qB qbU)]), (9, .call [false, false] [.ag [.jk, .jk], .ag [.jk, .jk], .v (.jk)] [.v (.s (.int .i64 r59))])] (by cbv) (by cbv) (by cbv) (by cbv) (by cbv) ?_ ?_
     · exact (hq (qP h_x57) (hq (qe (f := Row_o) h_x57) (hq (qP h_x57) (hq (qe (f := Row_o) h_x57) (hq (qw (f := Row_o) h_x57) (hq (qP h_x58) (hq (qe (f := Row_o) h_x58) (hq (qP h_x58) (hq (qe (f := Row_o) h_x58) (hq (qw (f := Row_o) h_x58) (hq (hC (AC.args (qUE h_r59) (ALe.ag rfl (LLe.c (LLe.cons (LLe.im (RLe.eq (qAC qwC _))) LLe.nil)) (ALe.ag rfl (LLe.c (LLe.cons (LLe.im (RLe.eq (qAC qwC _))) LLe.nil)) (ALe.v LLe.r ALe.nil))))) (hq Tt hq0))))))))))))
     refine Run.cond (by cbv) (hq0) (fun c60 => ?_) (fun c60 => ?_)
     ·
      have h := if_t c60 h
      refine Run.region hL hT [] (by cbv) ?_ ?_
      · exact (hq Tt hq0)
      refine ⟨(ar .add .i64 (ar .or .i64 (ar .shr .u64 (ar .or .u64 (ar .add .i64 z54 z55) 0) 1) 0) 1), z55, h, Weak.of _ [(0, 0)] hA (by cbv) ?_⟩
      repeat (first | exact hq0 | refine hq (by first | exact Tt | rfl) ?_)
     have h := if_f c60 h
     refine Run.region hL hT [] (by cbv) hq0 ?_
     refine ⟨z54, (ar .or .i64 (ar .shr .u64 (ar .or .u64 (ar .add .i64 z54 z55) 0) 1) 0), h, Weak.of _ [(0, 0)] hA (by cbv) ?_⟩
     repeat (first | exact hq0 | refine hq (by first | exact Tt | rfl) ?_)
    have h := if_f c56 h
    refine Run.exit ?_
    refine ⟨z54, h, Weak.of _ [(0, 0)] hA (by cbv) ?_⟩
    repeat (first | exact hq0 | refine hq (by first | exact Tt | rfl) ?_)
   intro y39 h
   rw [h_K40] at h
   refine Run.seq ?_
   refine Run.seq ?_
   refine Run.region hL hT [] (by cbv) hq0 ?_
   refine Run.block ?_
   refine Run.loop2 (fun (z64 : List Row) (z65 : Int) => ⟨220, 100000, [(0, .rf 0), (14, .t (.s (.int .i64 y39))), (17, .t (.s (.int .i64 z65)))], [(0, .row 0 56 2 (qJ z64))]⟩) (x0 := a0) (x1 := a2) h (Weak.of _ [(0, 0)] hA (by cbv) ?_) (fun _ _ => rfl) ?_
   · repeat (first | exact hq0 | refine hq (by first | exact Tt | rfl) ?_)
   intro k z64 z65 h
   rw [qA.l3] at h
   refine Run.seq ?_
   refine Run.seq ?_
   refine Run.region hL hT [] (by cbv) ?_ ?_
   · exact (hq Tt hq0)
   refine Run.cond (by cbv) (hq0) (fun c66 => ?_) (fun c66 => ?_)
   ·
    have h := if_t c66 h
    refine Run.skip ?_
    refine Run.seq ?_
    refine Run.block ?_
    obtain ⟨⟨qoW, qbO⟩, h_x67, h⟩ := bnd h
    obtain ⟨⟨qpW, qcO⟩, h_x68, h⟩ := bnd h
    obtain ⟨u69, h_u69, h⟩ := bnd h
    obtain ⟨l70, h_l70, h⟩ := bnd h
    refine Run.weak ?_ (Weak.take2 (rows := qJ z64) (e2 := 3) (r1 := qB qbO) (r2 := qB qcO) hT 0 (ar .sub .i64 z65 1) z65 1 107096 1107096 107097 1107097 (by cbv) (by cbv) (by cbv) (by cbv) (by cbv) (by cbv) (qTD h_x67) (qWE Row_o h_x67) ((congrArg (fun q => q[1]?) (qw (f := Row_o) h_x67)).trans rfl) rfl (qTD h_x68) (qWE Row_o h_x68) (ne_t h_u69) ((congrArg (fun q => q[1]?) (qw (f := Row_o) h_x68)).trans rfl) rfl (by cbv) (up (up (qJ z64) (ar .sub .i64 z65 1) 1 [.jk]) z65 1 [.jk]) rfl)
    refine Run.draw hL hT hM [(9, .lk [.s (.int .i64 qoW), .jk] [(1, 1107096)]), (13, .lk [.s (.int .i64 qpW), .jk] [(1, 1107097)])] (by cbv) (by cbv) (by cbv) (by cbv) (by cbv) ?_ ?_
    · exact (hq Tt (hq Tt (hq (qP h_x67) (hq (sw_lt Row_o h_x67) (hq Tt (hq (qP h_x67) (hq (sw_lt Row_o h_x67) (hq (qvQ Row_o h_x67 h_x68 (ne_t h_u69)) (hq (qP h_x68) (hq (sw_lt Row_o h_x68) (hq Tt (hq (qP h_x68) (hq (sw_lt Row_o h_x68) (hq (qwQ Row_o h_x67 h_x68 (ne_t h_u69)) (hq (qP h_x68) (hq (sw_lt Row_o h_x68) (hq (qP h_x68) (hq (sw_lt Row_o h_x68) (hq (qP h_x67) (hq (qwK Row_o h_x67) (hq (qP h_x67) (hq (qwK Row_o h_x67) hq0))))))))))))))))))))))
    refine Run.row (rows := (up (up (up (up (qJ z64) (ar .sub .i64 z65 1) 1 [.jk]) z65 1 [.jk]) z65 0 [.s (.int .i64 qoW), .ow 3 (qB qbO)]) (ar .sub .i64 z65 1) 0 [.s (.int .i64 qpW), .ow 3 (qB qcO)])) 0 (qJ l70) (by cbv) (qLP (f := Row_o) qVK h_x67 h_x68 (ne_t h_u69) (by decide) (.inr ⟨rfl, rfl⟩) h_l70 rfl rfl) ?_
    refine Run.region hL hT [] (by cbv) ?_ ?_
    · exact (hq Tt hq0)
    refine ⟨l70, (ar .sub .i64 z65 1), h, Weak.of _ [(0, 0)] hA (by cbv) ?_⟩
    repeat (first | exact hq0 | refine hq (by first | exact Tt | rfl) ?_)
   have h := if_f c66 h
   refine Run.exit ?_
   refine Run.ret ?_
   cases h
   refine ⟨_, _, by cbv, ?_, ?_⟩
   · exact LLe.r
   exact ALe.nil
  have h := if_f c38 h
  refine Run.skip ?_
  refine ⟨(), h, Weak.of _ [(0, 0)] hA (by cbv) ?_⟩
  repeat (first | exact hq0 | refine hq (by first | exact Tt | rfl) ?_)
 intro y36 h
 rw [h_K37] at h
 refine Run.seq ?_
 refine Run.region hL hT [] (by cbv) ?_ ?_
 · exact (hq Tt (hq Tt (hq Tt (hq (by decide : (0 : Int) ≤ 1) (hq (by decide : (1 : Int) < 64) hq0)))))
 refine Run.seq ?_
 refine Run.region hL hT [] (by cbv) ?_ ?_
 · exact (hq Tt hq0)
 refine Run.seq ?_
 refine Run.region hL hT [] (by cbv) hq0 ?_
 obtain ⟨K75, h_K75, h⟩ := joinE h
 refine Run.join4 K75 (r := r) (fun (y71 : Int) (y72 : Int) (y73 : Int) (y74 : Int) => ⟨220, 100000, [(0, .rf 0), (1, .t (.s (.int .i64 a1))), (2, .t (.s (.int .i64 a2))), (3, .t (.s (.int .i64 a3))), (4, .fn 58 [.t (.ip [.s (.int .i64 qJB), .im false (qK qKB), .s (.int .i64 qLB), .s (.bool qTB), .s (.int .i64 qMB), .im false (qB qUB), .s (.bool qVB), .s (.int .i64 qf), .s (.int .i64 qFB)])]), (18, .t (.s (.int .i64 y71))), (19, .t (.s (.int .i64 y72))), (20, .t (.s (.int .i64 y73))), (21, .t (.s (.int .i64 y74)))], [(0, .row 0 56 2 (qJ a0))]⟩) ?_ ?_
 ·
  skip
  refine Run.seq ?_
  refine Run.region hL hT [] (by cbv) ?_ ?_
  · exact (hq Tt hq0)
  refine Run.cond (by cbv) (hq0) (fun c76 => ?_) (fun c76 => ?_)
  ·
   have h := if_t c76 h
   refine Run.seq ?_
   refine Run.region hL hT [] (by cbv) ?_ ?_
   · exact (hq Tt hq0)
   refine Run.region hL hT [] (by cbv) hq0 ?_
   refine ⟨(ar .or .i64 (ar .shr .u64 (ar .or .u64 (ar .add .i64 a1 a3) 0) 1) 0), (ar .add .i64 (ar .or .i64 (ar .shr .u64 (ar .or .u64 (ar .add .i64 a1 a3) 0) 1) 0) a2), (ar .sub .i64 (ar .add .i64 (ar .or .i64 (ar .shr .u64 (ar .or .u64 (ar .add .i64 a1 a3) 0) 1) 0) a2) a3), (ar .or .i64 (ar .shr .u64 (ar .or .u64 (ar .add .i64 a1 a3) 0) 1) 0), h, Weak.of _ [(0, 0)] hA (by cbv) ?_⟩
   repeat (first | exact hq0 | refine hq (by first | exact Tt | rfl) ?_)
  have h := if_f c76 h
  refine Run.seq ?_
  refine Run.region hL hT [] (by cbv) hq0 ?_
  refine Run.region hL hT [] (by cbv) hq0 ?_
  refine ⟨(ar .or .i64 (ar .shr .u64 (ar .or .u64 (ar .add .i64 a1 a3) 0) 1) 0), (ar .add .i64 (ar .or .i64 (ar .shr .u64 (ar .or .u64 (ar .add .i64 a1 a3) 0) 1) 0) a2), a1, a2, h, Weak.of _ [(0, 0)] hA (by cbv) ?_⟩
  repeat (first | exact hq0 | refine hq (by first | exact Tt | rfl) ?_)
 intro y71 y72 y73 y74 h
 rw [h_K75] at h
 refine Run.seq ?_
 refine Run.region hL hT [] (by cbv) ?_ ?_
 · exact (hq Tt hq0)
 obtain ⟨K78, h_K78, h⟩ := joinE h
 refine Run.join1 K78 (r := r) (fun (y77 : Int) => ⟨220, 100000, [(0, .rf 0), (1, .t (.s (.int .i64 a1))), (2, .t (.s (.int .i64 a2))), (3, .t (.s (.int .i64 a3))), (4, .fn 58 [.t (.ip [.s (.int .i64 qJB), .im false (qK qKB), .s (.int .i64 qLB), .s (.bool qTB), .s (.int .i64 qMB), .im false (qB qUB), .s (.bool qVB), .s (.int .i64 qf), .s (.int .i64 qFB)])]), (18, .t (.s (.int .i64 y71))), (19, .t (.s (.int .i64 y72))), (20, .t (.s (.int .i64 y77)))], [(0, .row 0 56 2 (qJ a0))]⟩) ?_ ?_
 ·
  skip
  refine Run.block ?_
  refine Run.loop3 (fun (z97 : Int) (z98 : Int) (z99 : Int) => ⟨220, 100000, [(0, .rf 0), (1, .t (.s (.int .i64 a1))), (2, .t (.s (.int .i64 a2))), (3, .t (.s (.int .i64 a3))), (4, .fn 58 [.t (.ip [.s (.int .i64 qJB), .im false (qK qKB), .s (.int .i64 qLB), .s (.bool qTB), .s (.int .i64 qMB), .im false (qB qUB), .s (.bool qVB), .s (.int .i64 qf), .s (.int .i64 qFB)])]), (18, .t (.s (.int .i64 y71))), (19, .t (.s (.int .i64 y72))), (20, .t (.s (.int .i64 z97))), (21, .t (.s (.int .i64 z98))), (22, .t (.s (.int .i64 z99)))], [(0, .row 0 56 2 (qJ a0))]⟩) (x0 := y73) (x1 := y74) (x2 := (ar .sub .i64 y72 1)) h (Weak.of _ [(0, 0)] hA (by cbv) ?_) (fun _ _ _ => rfl) ?_
  · repeat (first | exact hq0 | refine hq (by first | exact Tt | rfl) ?_)
  intro k z97 z98 z99 h
  rw [qA.l4] at h
  refine Run.seq ?_
  refine Run.seq ?_
  refine Run.region hL hT [] (by cbv) ?_ ?_
  · exact (hq Tt hq0)
  refine Run.cond (by cbv) (hq0) (fun c100 => ?_) (fun c100 => ?_)
  ·
   have h := if_t c100 h
   refine Run.skip ?_
   refine Run.block ?_
   refine Run.seq ?_
   refine Run.region hL hT [] (by cbv) ?_ ?_
   · exact (hq Tt (hq Tt (hq Tt (hq (by decide : (0 : Int) ≤ 1) (hq (by decide : (1 : Int) < 64) hq0)))))
   refine Run.seq ?_
   obtain ⟨⟨qnY, qqS⟩, qeR, h⟩ := bnd h
   obtain ⟨⟨qoY, qrS⟩, qfR, h⟩ := bnd h
   obtain ⟨r103, qQb, h⟩ := bnd h
   refine Run.draw hL hT hM [(6, .el [.s (.int .i64 qnY), .ow 3 (qB qqS)]), (10, .el [.s (.int .i64 qoY), .ow 3 (qB qrS)]), (11, .call [false, false] [.ag [.jk, .jk], .ag [.jk, .jk], .v (.jk)] [.v (.s (.int .i64 r103))])] (by cbv) (by cbv) (by cbv) (by cbv) (by cbv) ?_ ?_
   · exact (hq Tt (hq (qP qeR) (hq (qe (f := Row_o) qeR) (hq (qP qeR) (hq (qe (f := Row_o) qeR) (hq (qw (f := Row_o) qeR) (hq (qP qfR) (hq (qe (f := Row_o) qfR) (hq (qP qfR) (hq (qe (f := Row_o) qfR) (hq (qw (f := Row_o) qfR) (hq (hC (AC.args (qUE qQb) (ALe.ag rfl (LLe.c (LLe.cons (LLe.im (RLe.eq (qAC qwC _))) LLe.nil)) (ALe.ag rfl (LLe.c (LLe.cons (LLe.im (RLe.eq (qAC qwC _))) LLe.nil)) (ALe.v LLe.r ALe.nil))))) (hq Tt hq0)))))))))))))
   refine Run.cond (by cbv) (hq0) (fun c104 => ?_) (fun c104 => ?_)
   ·
    have h := if_t c104 h
    refine Run.region hL hT [] (by cbv) ?_ ?_
    · exact (hq Tt hq0)
    refine ⟨(ar .add .i64 (ar .or .i64 (ar .shr .u64 (ar .or .u64 (ar .add .i64 z97 z98) 0) 1) 0) 1), z98, z99, h, Weak.of _ [(0, 0)] hA (by cbv) ?_⟩
    repeat (first | exact hq0 | refine hq (by first | exact Tt | rfl) ?_)
   have h := if_f c104 h
   refine Run.region hL hT [] (by cbv) hq0 ?_
   refine ⟨z97, (ar .or .i64 (ar .shr .u64 (ar .or .u64 (ar .add .i64 z97 z98) 0) 1) 0), z99, h, Weak.of _ [(0, 0)] hA (by cbv) ?_⟩
   repeat (first | exact hq0 | refine hq (by first | exact Tt | rfl) ?_)
  have h := if_f c100 h
  refine Run.exit ?_
  refine ⟨z97, h, Weak.of _ [(0, 0)] hA (by cbv) ?_⟩
  repeat (first | exact hq0 | refine hq (by first | exact Tt | rfl) ?_)
 intro y77 h
 rw [h_K78] at h
 refine Run.seq ?_
 refine Run.region hL hT [] (by cbv) ?_ ?_
 · exact (hq Tt hq0)
 obtain ⟨K107, h_K107, h⟩ := joinE h
 refine Run.join2 K107 (r := r) (fun (y105 : List Row) (y106 : Int) => ⟨220, 100000, [(0, .rf 0), (1, .t (.s (.int .i64 a1))), (3, .t (.s (.int .i64 a3))), (4, .fn 58 [.t (.ip [.s (.int .i64 qJB), .im false (qK qKB), .s (.int .i64 qLB), .s (.bool qTB), .s (.int .i64 qMB), .im false (qB qUB), .s (.bool qVB), .s (.int .i64 qf), .s (.int .i64 qFB)])]), (18, .t (.s (.int .i64 y71))), (20, .t (.s (.int .i64 y77))), (24, .t (.s (.int .i64 y106)))], [(0, .row 0 56 2 (qJ y105))]⟩) ?_ ?_
 ·
  skip
  refine Run.seq ?_
  refine Run.region hL hT [] (by cbv) ?_ ?_
  · exact (hq Tt (hq (fun _ => hq0) (hq (fun _ => hq0) (hq (fun g110 => (hq g110 (hq g110 (hq Tt hq0)))) (hq (fun q111 => (hq q111 hq0)) (hq (fun _ => hq0) hq0))))))
  refine Run.cond (by cbv) (hq0) (fun c113 => ?_) (fun c113 => ?_)
  ·
   have h := if_t c113 h
   obtain ⟨r114, qRb, h⟩ := bnd h
   refine Run.region hL hT [(5, .call [true, false, false, false, false] [.v (.ow 56 (qJ r114)), .v (.jk), .v (.jk), .v (.jk), .v (.jk)] [])] (by cbv) ?_ ?_
   · exact (hq (hC (qPD qRb)) hq0)
   refine ⟨r114, (ar .sub .i64 y72 y77), h, Weak.of _ [(0, 0)] hA (by cbv) ?_⟩
   repeat (first | exact hq0 | refine hq (by first | exact Tt | rfl) ?_)
  have h := if_f c113 h
  refine Run.skip ?_
  refine ⟨a0, (ar .sub .i64 y72 y77), h, Weak.of _ [(0, 0)] hA (by cbv) ?_⟩
  repeat (first | exact hq0 | refine hq (by first | exact Tt | rfl) ?_)
 intro y105 y106 h
 rw [h_K107] at h
 obtain ⟨K116, h_K116, h⟩ := joinE h
 refine Run.join1 K116 (r := r) (fun (y115 : List Row) => ⟨220, 100000, [(0, .rf 0), (3, .t (.s (.int .i64 a3))), (4, .fn 58 [.t (.ip [.s (.int .i64 qJB), .im false (qK qKB), .s (.int .i64 qLB), .s (.bool qTB), .s (.int .i64 qMB), .im false (qB qUB), .s (.bool qVB), .s (.int .i64 qf), .s (.int .i64 qFB)])]), (18, .t (.s (.int .i64 y71))), (24, .t (.s (.int .i64 y106)))], [(0, .row 0 56 2 (qJ y115))]⟩) ?_ ?_
 ·
  skip
  refine Run.seq ?_
  refine Run.region hL hT [] (by cbv) ?_ ?_
  · exact (hq Tt (hq (fun _ => hq0) (hq (fun _ => hq0) (hq (fun g119 => (hq g119 (hq g119 (hq Tt hq0)))) (hq (fun q120 => (hq q120 hq0)) (hq (fun _ => hq0) hq0))))))
  refine Run.cond (by cbv) (hq0) (fun c122 => ?_) (fun c122 => ?_)
  ·
   have h := if_t c122 h
   obtain ⟨r123, qSb, h⟩ := bnd h
   refine Run.region hL hT [(5, .call [true, false, false, false, false] [.v (.ow 56 (qJ r123)), .v (.jk), .v (.jk), .v (.jk), .v (.jk)] [])] (by cbv) ?_ ?_
   · exact (hq (hC (hself qSb)) hq0)
   refine ⟨r123, h, Weak.of _ [(0, 0)] hA (by cbv) ?_⟩
   repeat (first | exact hq0 | refine hq (by first | exact Tt | rfl) ?_)
  have h := if_f c122 h
  refine Run.skip ?_
  refine ⟨y105, h, Weak.of _ [(0, 0)] hA (by cbv) ?_⟩
  repeat (first | exact hq0 | refine hq (by first | exact Tt | rfl) ?_)
 intro y115 h
 rw [h_K116] at h
 refine Run.seq ?_
 refine Run.region hL hT [] (by cbv) ?_ ?_
 · exact (hq Tt (hq (fun _ => hq0) (hq (fun _ => hq0) (hq (fun g126 => (hq g126 (hq g126 (hq Tt hq0)))) (hq (fun q127 => (hq q127 hq0)) (hq (fun _ => hq0) hq0))))))
 refine Run.cond (by cbv) (hq0) (fun c129 => ?_) (fun c129 => ?_)
 ·
  have h := if_t c129 h
  obtain ⟨r130, qqW, h⟩ := bnd h
  refine Run.region hL hT [(5, .call [true, false, false, false, false] [.v (.ow 56 (qJ r130)), .v (.jk), .v (.jk), .v (.jk), .v (.jk)] [])] (by cbv) ?_ ?_
  · exact (hq (hC (hself qqW)) hq0)
  cases h
  refine ⟨_, _, by cbv, ?_, ?_⟩
  · exact LLe.r
  exact ALe.nil
 have h := if_f c129 h
 refine Run.skip ?_
 cases h
 refine ⟨_, _, by cbv, ?_, ?_⟩
 · exact LLe.r
 exact ALe.nil
theorem qHC : ∀ (k : Nat) {a0 : List Row} {a1 : Int} {a2 : Int} {a3 : Int} {qJB : Int} {qKB : List Cond} {qLB : Int} {qTB : Bool} {qMB : Int} {qUB : List Int} {qVB : Bool} {qf : Int} {qFB : Int} {r : (List Row)} (h : qA.g k a0 a1 a2 a3 (Query.mk qJB qKB qLB qTB qMB qUB qVB qf qFB) = some r), AC Tryz.prog 151 [.v (.ow 56 (rowsOf Row_o a0)), .v (.s (.int .i64 a1)), .v (.s (.int .i64 a2)), .v (.s (.int .i64 a3)), .v (.fn 58 [.ip [.s (.int .i64 qJB), .im false (rowsOf qy qKB), .s (.int .i64 qLB), .s (.bool qTB), .s (.int .i64 qMB), .im false (rowsOf Int_c qUB), .s (.bool qVB), .s (.int .i64 qf), .s (.int .i64 qFB)]])] [.v (.ow 56 (rowsOf Row_o r)), .v (.jk), .v (.jk), .v (.jk), .v (.jk)] []
 | 0 => fun h => by cases h
 | k + 1 => fun h => qHD (qA.g k) (qHC k) h
theorem qMC {a0 : List Row} {a1 : Int} {a2 : Int} {a3 : Int} {qJB : Int} {qKB : List Cond} {qLB : Int} {qTB : Bool} {qMB : Int} {qUB : List Int} {qVB : Bool} {qf : Int} {qFB : Int} {r : (List Row)} (h : qA.f a0 a1 a2 a3 (Query.mk qJB qKB qLB qTB qMB qUB qVB qf qFB) = some r) : AC Tryz.prog 151 [.v (.ow 56 (rowsOf Row_o a0)), .v (.s (.int .i64 a1)), .v (.s (.int .i64 a2)), .v (.s (.int .i64 a3)), .v (.fn 58 [.ip [.s (.int .i64 qJB), .im false (rowsOf qy qKB), .s (.int .i64 qLB), .s (.bool qTB), .s (.int .i64 qMB), .im false (rowsOf Int_c qUB), .s (.bool qVB), .s (.int .i64 qf), .s (.int .i64 qFB)]])] [.v (.ow 56 (rowsOf Row_o r)), .v (.jk), .v (.jk), .v (.jk), .v (.jk)] [] := qHC 1000 h
theorem qQD {a0 : List Row} {a1 : Int} {qKE : Int} {qLE : List Cond} {qME : Int} {qqE : Bool} {qNE : Int} {qrE : List Int} {qsE : Bool} {qzC : Int} {qdD : Int} {r : (List Row)} (h : qC.f a0 a1 (Query.mk qKE qLE qME qqE qNE qrE qsE qzC qdD) = some r) : AC Tryz.prog 122 [.v (.ow 56 (rowsOf Row_o a0)), .v (.s (.int .i64 a1)), .v (.fn 58 [.ip [.s (.int .i64 qKE), .im false (rowsOf qy qLE), .s (.int .i64 qME), .s (.bool qqE), .s (.int .i64 qNE), .im false (rowsOf Int_c qrE), .s (.bool qsE), .s (.int .i64 qzC), .s (.int .i64 qdD)]])] [.v (.ow 56 (rowsOf Row_o r)), .v (.jk), .v (.jk)] [] := by
 unfold qC.f at h
 let qK := rowsOf qy
 let qB := rowsOf Int_c
 let qJ := rowsOf Row_o
 show AC Tryz.prog 122 [.v (.ow 56 (qJ a0)), .v (.s (.int .i64 a1)), .v (.fn 58 [.ip [.s (.int .i64 qKE), .im false (qK qLE), .s (.int .i64 qME), .s (.bool qqE), .s (.int .i64 qNE), .im false (qB qrE), .s (.bool qsE), .s (.int .i64 qzC), .s (.int .i64 qdD)]])] _ _
 refine run3 Tryz.func122 (by rfl) (by rfl) (by cbv) ⟨by decide, rfl⟩ ?_
 intro ar cm bo sc sa sx ss sl bs sb ln sr ap up rp fr ge le lt nz mm ma sm fl al ci hL F hP hA hT hM hC
 refine Run.weak ?_ (Weak.fnT 2 (by cbv))
 refine Run.seq ?_
 refine Run.region hL hT [] (by cbv) hq0 ?_
 refine Run.seq ?_
 refine Run.region hL hT [] (by cbv) hq0 ?_
 obtain ⟨K3, h_K3, h⟩ := joinE h
 refine Run.join2 K3 (r := r) (fun (y1 : List Row) (y2 : Int) => ⟨63, 100000, [(0, .rf 0), (1, .t (.s (.int .i64 a1))), (2, .fn 58 [.t (.ip [.s (.int .i64 qKE), .im false (qK qLE), .s (.int .i64 qME), .s (.bool qqE), .s (.int .i64 qNE), .im false (qB qrE), .s (.bool qsE), .s (.int .i64 qzC), .s (.int .i64 qdD)])]), (6, .t (.s (.int .i64 20))), (7, .t (.s (.int .i64 y2)))], [(0, .row 0 56 2 (qJ y1))]⟩) ?_ ?_
 ·
  skip
  refine Run.block ?_
  refine Run.loop3 (fun (z18 : List Row) (z19 : Int) (z20 : Int) => ⟨63, 100000, [(0, .rf 0), (1, .t (.s (.int .i64 a1))), (2, .fn 58 [.t (.ip [.s (.int .i64 qKE), .im false (qK qLE), .s (.int .i64 qME), .s (.bool qqE), .s (.int .i64 qNE), .im false (qB qrE), .s (.bool qsE), .s (.int .i64 qzC), .s (.int .i64 qdD)])]), (6, .t (.s (.int .i64 20))), (7, .t (.s (.int .i64 z19))), (8, .t (.s (.int .i64 z20)))], [(0, .row 0 56 2 (qJ z18))]⟩) (x0 := a0) (x1 := 0) (x2 := 20) h (Weak.of _ [(0, 0)] hA (by cbv) ?_) (fun _ _ _ => rfl) ?_
  · repeat (first | exact hq0 | refine hq (by first | exact Tt | rfl) ?_)
  intro k z18 z19 z20 h
  rw [qC.l0] at h
  refine Run.seq ?_
  refine Run.seq ?_
  refine Run.region hL hT [] (by cbv) ?_ ?_
  · exact (hq Tt hq0)
  refine Run.cond (by cbv) (hq0) (fun c21 => ?_) (fun c21 => ?_)
  ·
   have h := if_t c21 h
   refine Run.skip ?_
   refine Run.block ?_
   refine Run.seq ?_
   obtain ⟨r22, h_r22, h⟩ := bnd h
   refine Run.region hL hT [(4, .call [true, false, false, false] [.v (.ow 56 (qJ r22)), .v (.jk), .v (.jk), .v (.jk)] [])] (by cbv) ?_ ?_
   · exact (hq (hC (qyB h_r22)) hq0)
   refine Run.seq ?_
   refine Run.region hL hT [] (by cbv) hq0 ?_
   refine Run.region hL hT [] (by cbv) ?_ ?_
   · exact (hq Tt hq0)
   refine ⟨r22, z20, (ar .add .i64 z20 20), h, Weak.of _ [(0, 0)] hA (by cbv) ?_⟩
   repeat (first | exact hq0 | refine hq (by first | exact Tt | rfl) ?_)
  have h := if_f c21 h
  refine Run.exit ?_
  refine ⟨z18, z19, h, Weak.of _ [(0, 0)] hA (by cbv) ?_⟩
  repeat (first | exact hq0 | refine hq (by first | exact Tt | rfl) ?_)
 intro y1 y2 h
 rw [h_K3] at h
 refine Run.seq ?_
 obtain ⟨r23, h_r23, h⟩ := bnd h
 refine Run.region hL hT [(4, .call [true, false, false, false] [.v (.ow 56 (qJ r23)), .v (.jk), .v (.jk), .v (.jk)] [])] (by cbv) ?_ ?_
 · exact (hq (hC (qyB h_r23)) hq0)
 refine Run.block ?_
 refine Run.loop2 (fun (z36 : List Row) (z37 : Int) => ⟨63, 100000, [(0, .rf 0), (1, .t (.s (.int .i64 a1))), (2, .fn 58 [.t (.ip [.s (.int .i64 qKE), .im false (qK qLE), .s (.int .i64 qME), .s (.bool qqE), .s (.int .i64 qNE), .im false (qB qrE), .s (.bool qsE), .s (.int .i64 qzC), .s (.int .i64 qdD)])]), (6, .t (.s (.int .i64 z37)))], [(0, .row 0 56 2 (qJ z36))]⟩) (x0 := r23) (x1 := 20) h (Weak.of _ [(0, 0)] hA (by cbv) ?_) (fun _ _ => rfl) ?_
 · repeat (first | exact hq0 | refine hq (by first | exact Tt | rfl) ?_)
 intro k z36 z37 h
 rw [qC.l1] at h
 refine Run.seq ?_
 refine Run.seq ?_
 refine Run.region hL hT [] (by cbv) ?_ ?_
 · exact (hq Tt hq0)
 refine Run.cond (by cbv) (hq0) (fun c38 => ?_) (fun c38 => ?_)
 ·
  have h := if_t c38 h
  refine Run.skip ?_
  refine Run.block ?_
  refine Run.seq ?_
  refine Run.region hL hT [] (by cbv) ?_ ?_
  · exact (hq Tt hq0)
  obtain ⟨K41, h_K41, h⟩ := joinE h
  refine Run.join2 K41 (r := r) (fun (y39 : List Row) (y40 : Int) => ⟨63, 100000, [(0, .rf 0), (1, .t (.s (.int .i64 a1))), (2, .fn 58 [.t (.ip [.s (.int .i64 qKE), .im false (qK qLE), .s (.int .i64 qME), .s (.bool qqE), .s (.int .i64 qNE), .im false (qB qrE), .s (.bool qsE), .s (.int .i64 qzC), .s (.int .i64 qdD)])]), (6, .t (.s (.int .i64 z37))), (7, .t (.s (.int .i64 y40)))], [(0, .row 0 56 2 (qJ y39))]⟩) ?_ ?_
  ·
   skip
   refine Run.block ?_
   refine Run.loop3 (fun (z56 : List Row) (z57 : Int) (z58 : Int) => ⟨63, 100000, [(0, .rf 0), (1, .t (.s (.int .i64 a1))), (2, .fn 58 [.t (.ip [.s (.int .i64 qKE), .im false (qK qLE), .s (.int .i64 qME), .s (.bool qqE), .s (.int .i64 qNE), .im false (qB qrE), .s (.bool qsE), .s (.int .i64 qzC), .s (.int .i64 qdD)])]), (6, .t (.s (.int .i64 z37))), (7, .t (.s (.int .i64 z57))), (8, .t (.s (.int .i64 z58)))], [(0, .row 0 56 2 (qJ z56))]⟩) (x0 := z36) (x1 := 0) (x2 := (ar .mul .i64 2 z37)) h (Weak.of _ [(0, 0)] hA (by cbv) ?_) (fun _ _ _ => rfl) ?_
   · repeat (first | exact hq0 | refine hq (by first | exact Tt | rfl) ?_)
   intro k z56 z57 z58 h
   rw [qC.l2] at h
   refine Run.seq ?_
   refine Run.seq ?_
   refine Run.region hL hT [] (by cbv) ?_ ?_
   · exact (hq Tt hq0)
   refine Run.cond (by cbv) (hq0) (fun c59 => ?_) (fun c59 => ?_)
   ·
    have h := if_t c59 h
    refine Run.skip ?_
    refine Run.block ?_
    refine Run.seq ?_
    obtain ⟨r60, h_r60, h⟩ := bnd h
    refine Run.region hL hT [(7, .call [true, false, false, false, false] [.v (.ow 56 (qJ r60)), .v (.jk), .v (.jk), .v (.jk), .v (.jk)] [])] (by cbv) ?_ ?_
    · exact (hq Tt (hq (hC (qMC h_r60)) hq0))
    refine Run.seq ?_
    refine Run.region hL hT [] (by cbv) hq0 ?_
    refine Run.region hL hT [] (by cbv) ?_ ?_
    · exact (hq Tt (hq Tt hq0))
    refine ⟨r60, z58, (ar .add .i64 z58 (ar .mul .i64 2 z37)), h, Weak.of _ [(0, 0)] hA (by cbv) ?_⟩
    repeat (first | exact hq0 | refine hq (by first | exact Tt | rfl) ?_)
   have h := if_f c59 h
   refine Run.exit ?_
   refine ⟨z56, z57, h, Weak.of _ [(0, 0)] hA (by cbv) ?_⟩
   repeat (first | exact hq0 | refine hq (by first | exact Tt | rfl) ?_)
  intro y39 y40 h
  rw [h_K41] at h
  refine Run.seq ?_
  refine Run.seq ?_
  refine Run.region hL hT [] (by cbv) ?_ ?_
  · exact (hq Tt hq0)
  refine Run.seq ?_
  refine Run.region hL hT [] (by cbv) ?_ ?_
  · exact (hq Tt hq0)
  refine Run.cond (by cbv) (hq0) (fun c61 => ?_) (fun c61 => ?_)
  ·
   have h := if_t c61 h
   obtain ⟨r62, h_r62, h⟩ := bnd h
   refine Run.region hL hT [(5, .call [true, false, false, false, false] [.v (.ow 56 (qJ r62)), .v (.jk), .v (.jk), .v (.jk), .v (.jk)] [])] (by cbv) ?_ ?_
   · exact (hq (hC (qMC h_r62)) hq0)
   refine Run.region hL hT [] (by cbv) ?_ ?_
   · exact (hq Tt hq0)
   refine ⟨r62, (ar .mul .i64 z37 2), h, Weak.of _ [(0, 0)] hA (by cbv) ?_⟩
   repeat (first | exact hq0 | refine hq (by first | exact Tt | rfl) ?_)
  have h := if_f c61 h
  refine Run.skip ?_
  refine Run.region hL hT [] (by cbv) ?_ ?_
  · exact (hq Tt hq0)
  refine ⟨y39, (ar .mul .i64 z37 2), h, Weak.of _ [(0, 0)] hA (by cbv) ?_⟩
  repeat (first | exact hq0 | refine hq (by first | exact Tt | rfl) ?_)
 have h := if_f c38 h
 refine Run.exit ?_
 cases h
 refine ⟨_, _, by cbv, ?_, ?_⟩
 · exact LLe.r
 exact ALe.nil
theorem qJD {a0 : List Row} {qAJ : Int} {qBJ : List Cond} {qCJ : Int} {qbK : Bool} {qDJ : Int} {qcK : List Int} {qdK : Bool} {qtG : Int} {qKI : Int} {r : (List Row)} (h : qz.f a0 (Query.mk qAJ qBJ qCJ qbK qDJ qcK qdK qtG qKI) = some r) : AC Tryz.prog 57 [.v (.ow 56 (rowsOf Row_o a0)), .v (.fn 58 [.ip [.s (.int .i64 qAJ), .im false (rowsOf qy qBJ), .s (.int .i64 qCJ), .s (.bool qbK), .s (.int .i64 qDJ), .im false (rowsOf Int_c qcK), .s (.bool qdK), .s (.int .i64 qtG), .s (.int .i64 qKI)]])] [.v (.ow 56 (rowsOf Row_o r)), .v (.jk)] [] := by
 unfold qz.f at h
 let qK := rowsOf qy
 let qB := rowsOf Int_c
 let qJ := rowsOf Row_o
 let qS := @lenI Row
 show AC Tryz.prog 57 [.v (.ow 56 (qJ a0)), .v (.fn 58 [.ip [.s (.int .i64 qAJ), .im false (qK qBJ), .s (.int .i64 qCJ), .s (.bool qbK), .s (.int .i64 qDJ), .im false (qB qcK), .s (.bool qdK), .s (.int .i64 qtG), .s (.int .i64 qKI)]])] _ _
 refine run3 Tryz.func57 (by rfl) (by rfl) (by cbv) ⟨by decide, rfl⟩ ?_
 intro ar cm bo sc sa sx ss sl bs sb ln sr ap up rp fr ge le lt nz mm ma sm fl al ci hL F hP hA hT hM hC
 refine Run.weak ?_ (Weak.fnT 1 (by cbv))
 obtain ⟨r1, h_r1, h⟩ := bnd h
 refine Run.region hL hT [(4, .call [true, false, false] [.v (.ow 56 (qJ r1)), .v (.jk), .v (.jk)] [])] (by cbv) ?_ ?_
 · exact (hq (by rw [show ln (qJ a0) = qS a0 from ln_eq Row_o _]; exact (hC (qQD h_r1))) hq0)
 rw [show ln (qJ a0) = qS a0 from ln_eq Row_o _]
 cases h
 refine ⟨_, _, by cbv, ?_, ?_⟩
 · exact LLe.r
 exact ALe.nil
theorem qLI {qN : List Int} {qEB : Int} {qq : List (List Row)} {qr : Int} {qT : List Cond} {qt : Int} {qHB : Bool} {qu : Int} {qBB : List Int} {qIB : Bool} {qQ : Int} {qb : Int} {r : (List Row)} (h : qXC.f (Store.mk (Schema.mk qN) qEB qq) (Query.mk qr qT qt qHB qu qBB qIB qQ qb) = some r) : AC Tryz.prog 16 [.ag [.im false (rowsOf Int_c qN), .s (.int .i64 qEB), .im false (rowsOf qLC qq)], .ag [.s (.int .i64 qr), .im false (rowsOf qy qT), .s (.int .i64 qt), .s (.bool qHB), .s (.int .i64 qu), .im false (rowsOf Int_c qBB), .s (.bool qIB), .s (.int .i64 qQ), .s (.int .i64 qb)]] [.ag [.jk, .jk, .jk], .ag [.jk, .jk, .jk, .jk, .jk, .jk, .jk, .jk, .jk]] [.v (.ow 56 (rowsOf Row_o r))] := by
 unfold qXC.f at h
 let qK := rowsOf qy
 let qB := rowsOf Int_c
 let qBC := rowsOf qLC
 let qZB := rowsOf Row_i
 let qJ := rowsOf Row_o
 let qS := @lenI Row
 show AC Tryz.prog 16 [.ag [.im false (qB qN), .s (.int .i64 qEB), .im false (qBC qq)], .ag [.s (.int .i64 qr), .im false (qK qT), .s (.int .i64 qt), .s (.bool qHB), .s (.int .i64 qu), .im false (qB qBB), .s (.bool qIB), .s (.int .i64 qQ), .s (.int .i64 qb)]] _ _
 refine run3 Tryz.func16 (by rfl) (by rfl) (by cbv) ⟨by decide, rfl⟩ ?_
 intro ar cm bo sc sa sx ss sl bs sb ln sr ap up rp fr ge le lt nz mm ma sm fl al ci hL F hP hA hT hM hC
 refine Run.seq ?_
 refine Run.region hL hT [] (by cbv) hq0 ?_
 refine Run.seq ?_
 refine Run.region hL hT [] (by cbv) hq0 ?_
 refine Run.seq ?_
 refine Run.seq ?_
 obtain ⟨r1, h_r1, h⟩ := bnd h
 obtain ⟨r2, h_r2, h⟩ := bnd h
 refine Run.region hL hT [(1, .call [false] [.ag [.jk, .jk, .jk]] [.v (.s (.bool r1))]), (7, .call [false, false] [.ag [.jk], .ag [.jk, .jk, .jk, .jk, .jk, .jk, .jk, .jk, .jk]] [.v (.s (.bool r2))])] (by cbv) ?_ ?_
 · exact (hq Tt (hq (hC (qTG h_r1)) (hq (fun _ => hq0) (hq (fun g4 => (hq g4 (hq Tt hq0))) (hq (fun g5 => (hq Tt hq0)) (hq (fun g6 => (hq g6 (hq g6 (hq (hC (qUG (gd_t h_r2 g6))) hq0)))) (hq (fun g7 => (hq g7 hq0)) (hq (fun _ => hq0) (hq (fun q9 => (hq (bo_m q9) hq0)) hq0)))))))))
 refine Run.cond (by cbv) (hq0) (fun c10 => ?_) (fun c10 => ?_)
 ·
  have h := if_t c10 h
  refine Run.seq ?_
  refine Run.region hL hT [] (by cbv) hq0 ?_
  refine Run.ret ?_
  cases h
  refine ⟨_, _, by cbv, ?_, ?_⟩
  · exact LLe.r
  exact (ALe.v LLe.r ALe.nil)
 have h := if_f c10 h
 refine Run.skip ?_
 obtain ⟨K12, h_K12, h⟩ := joinE h
 refine Run.join1 K12 (r := r) (fun (y11 : List Row) => ⟨44, 100000, [(3, .pt 1 0 0), (5, .rf 2)], [(1, .box 32 [.t (.s (.int .i64 qr)), .t (.im false (qK qT)), .t (.s (.int .i64 qt)), .t (.s (.bool qHB)), .t (.s (.int .i64 qu)), .t (.im false (qB qBB)), .t (.s (.bool qIB)), .t (.s (.int .i64 qQ)), .t (.s (.int .i64 qb))]), (2, .row 0 56 2 (qJ y11))]⟩) ?_ ?_
 ·
  skip
  refine Run.seq ?_
  obtain ⟨x13, h_x13, h⟩ := bnd h
  refine Run.region hL hT [(4, .el [.im false (qZB x13)])] (by cbv) ?_ ?_
  · exact (hq Tt (hq Tt (hq (qP h_x13) (hq (qe (f := qLC) h_x13) (hq (qw (f := qLC) h_x13) hq0)))))
  rw [show ln (qZB x13) = qS x13 from ln_eq Row_i _]
  refine Run.block ?_
  refine Run.loop2 (fun (z27 : List Row) (z28 : Int) => ⟨44, 100000, [(3, .pt 1 0 0), (5, .rf 2), (25, .t (.im false (qZB x13))), (26, .t (.s (.int .i64 (qS x13)))), (27, .t (.s (.int .i64 z28)))], [(1, .box 32 [.t (.s (.int .i64 qr)), .t (.im false (qK qT)), .t (.s (.int .i64 qt)), .t (.s (.bool qHB)), .t (.s (.int .i64 qu)), .t (.im false (qB qBB)), .t (.s (.bool qIB)), .t (.s (.int .i64 qQ)), .t (.s (.int .i64 qb))]), (2, .row 0 56 2 (qJ z27))]⟩) (x0 := []) (x1 := 0) h (Weak.of _ [(1, 1), (2, 4096)] hA (by cbv) ?_) (fun _ _ => rfl) ?_
  · repeat (first | exact hq0 | refine hq (by first | exact Tt | rfl) ?_)
  intro k z27 z28 h
  rw [qXC.l0] at h
  refine Run.seq ?_
  refine Run.region hL hT [] (by cbv) ?_ ?_
  · exact (hq Tt hq0)
  refine Run.seq ?_
  refine Run.cond (by cbv) (hq0) (fun c29 => ?_) (fun c29 => ?_)
  ·
   have h := if_t c29 h
   refine Run.skip ?_
   refine Run.seq ?_
   refine Run.block ?_
   refine Run.seq ?_
   obtain ⟨⟨qea, qcU⟩, h_x30, h⟩ := bnd h
   refine Run.region hL hT [(0, .el [.s (.int .i64 qea), .im false (qB qcU)])] (by cbv) ?_ ?_
   · exact (hq (qP h_x30) (hq (qe (f := Row_i) h_x30) (hq (qw (f := Row_i) h_x30) (hq Tt hq0))))
   refine Run.seq ?_
   obtain ⟨r31, h_r31, h⟩ := bnd h
   refine Run.region hL hT [(2, .call [false, false] [.ag [.jk, .jk, .jk, .jk, .jk, .jk, .jk, .jk, .jk], .ag [.jk, .jk]] [.v (.s (.bool r31))])] (by cbv) ?_ ?_
   · exact (hq Tt (hq Tt (hq (hC (qSG h_r31)) hq0)))
   refine Run.cond (by cbv) (hq0) (fun c32 => ?_) (fun c32 => ?_)
   ·
    have h := if_t c32 h
    obtain ⟨⟨qrW, qdO⟩, h_r33, h⟩ := bnd h
    obtain ⟨l34, h_l34, h⟩ := bnd h
    obtain ⟨l35, h_l35, h⟩ := bnd h
    refine Run.region hL hT [(2, .call [false] [.ag [.jk, .jk]] [.ag [.s (.int .i64 qrW), .ow 3 (qB qdO)]])] (by cbv) ?_ ?_
    · exact (hq Tt (hq (hC (qmM h_r33)) (hq (qnC (P := Tryz.prog) (f := Row_o) RLe.r (qGB (f := Row_o) h_l34 (RLe.cons rfl LLe.r RLe.nil)) h_l35) hq0)))
    refine Run.row (rows := (ap (qJ z27) ([[.s (.int .i64 qrW), .ow 3 (qB qdO)]]))) 112292 (qJ l35) (by cbv) (qmC (f := Row_o) RLe.r (qGB (f := Row_o) h_l34 (RLe.cons rfl LLe.r RLe.nil)) h_l35) ?_
    refine Run.region hL hT [] (by cbv) ?_ ?_
    · exact (hq Tt hq0)
    refine ⟨l35, (ar .add .i64 z28 1), h, Weak.of _ [(1, 1), (2, 112292)] hA (by cbv) ?_⟩
    repeat (first | exact hq0 | refine hq (by first | exact Tt | rfl) ?_)
   have h := if_f c32 h
   refine Run.skip ?_
   refine Run.region hL hT [] (by cbv) ?_ ?_
   · exact (hq Tt hq0)
   refine ⟨z27, (ar .add .i64 z28 1), h, Weak.of _ [(1, 1), (2, 2)] hA (by cbv) ?_⟩
   repeat (first | exact hq0 | refine hq (by first | exact Tt | rfl) ?_)
  have h := if_f c29 h
  refine Run.exit ?_
  refine ⟨z27, h, Weak.of _ [(1, 1), (2, 2)] hA (by cbv) ?_⟩
  repeat (first | exact hq0 | refine hq (by first | exact Tt | rfl) ?_)
 intro y11 h
 rw [h_K12] at h
 refine Run.seq ?_
 obtain ⟨r36, h_r36, h⟩ := bnd h
 refine Run.region hL hT [(2, .call [true, false] [.v (.ow 56 (qJ r36)), .v (.jk)] [])] (by cbv) ?_ ?_
 · exact (hq (hC (qJD h_r36)) hq0)
 refine Run.seq ?_
 refine Run.region hL hT [] (by cbv) hq0 ?_
 refine Run.ret ?_
 cases h
 refine ⟨_, _, by cbv, ?_, ?_⟩
 · exact LLe.r
 exact (ALe.v LLe.r ALe.nil)
theorem qcN {qN : List Int} {qEB : Int} {qq : List (List Row)} {qr : Int} {qT : List Cond} {qt : Int} {qHB : Bool} {qu : Int} {qBB : List Int} {qIB : Bool} {qQ : Int} {qb : Int} {a2 : Int} {r : Int} (h : qgC.f (Store.mk (Schema.mk qN) qEB qq) (Query.mk qr qT qt qHB qu qBB qIB qQ qb) a2 = some r) : AC Tryz.prog 53 [.ag [.im false (rowsOf Int_c qN), .s (.int .i64 qEB), .im false (rowsOf qLC qq)], .ag [.s (.int .i64 qr), .im false (rowsOf qy qT), .s (.int .i64 qt), .s (.bool qHB), .s (.int .i64 qu), .im false (rowsOf Int_c qBB), .s (.bool qIB), .s (.int .i64 qQ), .s (.int .i64 qb)], .v (.s (.int .i64 a2))] [.ag [.jk, .jk, .jk], .ag [.jk, .jk, .jk, .jk, .jk, .jk, .jk, .jk, .jk], .v (.jk)] [.v (.s (.int .i64 r))] := by
 unfold qgC.f at h
 let qK := rowsOf qy
 let qB := rowsOf Int_c
 let qBC := rowsOf qLC
 let qZB := rowsOf Row_i
 let qS := @lenI Row
 show AC Tryz.prog 53 [.ag [.im false (qB qN), .s (.int .i64 qEB), .im false (qBC qq)], .ag [.s (.int .i64 qr), .im false (qK qT), .s (.int .i64 qt), .s (.bool qHB), .s (.int .i64 qu), .im false (qB qBB), .s (.bool qIB), .s (.int .i64 qQ), .s (.int .i64 qb)], .v (.s (.int .i64 a2))] _ _
 refine run3 Tryz.func53 (by rfl) (by rfl) (by cbv) ⟨by decide, rfl⟩ ?_
 intro ar cm bo sc sa sx ss sl bs sb ln sr ap up rp fr ge le lt nz mm ma sm fl al ci hL F hP hA hT hM hC
 refine Run.seq ?_
 refine Run.region hL hT [] (by cbv) hq0 ?_
 refine Run.seq ?_
 refine Run.seq ?_
 obtain ⟨r1, h_r1, h⟩ := bnd h
 obtain ⟨r2, h_r2, h⟩ := bnd h
 refine Run.region hL hT [(1, .call [false] [.ag [.jk, .jk, .jk]] [.v (.s (.bool r1))]), (7, .call [false, false] [.ag [.jk], .ag [.jk, .jk, .jk, .jk, .jk, .jk, .jk, .jk, .jk]] [.v (.s (.bool r2))])] (by cbv) ?_ ?_
 · exact (hq Tt (hq (hC (qTG h_r1)) (hq (fun _ => hq0) (hq (fun g4 => (hq g4 (hq Tt hq0))) (hq (fun g5 => (hq Tt hq0)) (hq (fun g6 => (hq g6 (hq g6 (hq (hC (qUG (gd_t h_r2 g6))) hq0)))) (hq (fun g7 => (hq g7 hq0)) (hq (fun _ => hq0) (hq (fun q9 => (hq (bo_m q9) hq0)) (hq (fun _ => hq0) (hq (fun g11 => (hq g11 (hq Tt hq0))) (hq (fun g12 => (hq g12 hq0)) (hq (fun _ => hq0) (hq (fun q14 => (hq (bo_m q14) hq0)) hq0))))))))))))))
 refine Run.cond (by cbv) (hq0) (fun c15 => ?_) (fun c15 => ?_)
 ·
  have h := if_t c15 h
  refine Run.seq ?_
  refine Run.region hL hT [] (by cbv) hq0 ?_
  refine Run.ret ?_
  cases h
  refine ⟨_, _, by cbv, ?_, ?_⟩
  · exact LLe.r
  exact (ALe.v LLe.r ALe.nil)
 have h := if_f c15 h
 refine Run.skip ?_
 refine Run.seq ?_
 refine Run.region hL hT [] (by cbv) hq0 ?_
 refine Run.seq ?_
 refine Run.seq ?_
 obtain ⟨x16, h_x16, h⟩ := bnd h
 refine Run.region hL hT [(4, .el [.im false (qZB x16)])] (by cbv) ?_ ?_
 · exact (hq Tt (hq Tt (hq (qP h_x16) (hq (qe (f := qLC) h_x16) (hq (qw (f := qLC) h_x16) hq0)))))
 rw [show ln (qZB x16) = qS x16 from ln_eq Row_i _]
 refine Run.block ?_
 refine Run.loop2 (fun (z31 : Int) (z32 : Int) => ⟨48, 100000, [(2, .t (.s (.int .i64 a2))), (4, .pt 1 0 0), (7, .t (.s (.int .i64 z31))), (30, .t (.im false (qZB x16))), (31, .t (.s (.int .i64 (qS x16)))), (32, .t (.s (.int .i64 z32)))], [(1, .box 32 [.t (.s (.int .i64 qr)), .t (.im false (qK qT)), .t (.s (.int .i64 qt)), .t (.s (.bool qHB)), .t (.s (.int .i64 qu)), .t (.im false (qB qBB)), .t (.s (.bool qIB)), .t (.s (.int .i64 qQ)), .t (.s (.int .i64 qb))])]⟩) (x0 := 0) (x1 := 0) h (Weak.of _ [(1, 1)] hA (by cbv) ?_) (fun _ _ => rfl) ?_
 · repeat (first | exact hq0 | refine hq (by first | exact Tt | rfl) ?_)
 intro k z31 z32 h
 rw [qgC.l0] at h
 refine Run.seq ?_
 refine Run.region hL hT [] (by cbv) ?_ ?_
 · exact (hq Tt hq0)
 refine Run.seq ?_
 refine Run.cond (by cbv) (hq0) (fun c33 => ?_) (fun c33 => ?_)
 ·
  have h := if_t c33 h
  refine Run.skip ?_
  refine Run.seq ?_
  refine Run.block ?_
  refine Run.seq ?_
  obtain ⟨⟨qfa, qdU⟩, h_x34, h⟩ := bnd h
  refine Run.region hL hT [(0, .el [.s (.int .i64 qfa), .im false (qB qdU)])] (by cbv) ?_ ?_
  · exact (hq (qP h_x34) (hq (qe (f := Row_i) h_x34) (hq (qw (f := Row_i) h_x34) (hq Tt hq0))))
  refine Run.seq ?_
  obtain ⟨x35, h_x35, h⟩ := bnd h
  refine Run.region hL hT [(4, .el [.s (.int .i64 x35)])] (by cbv) ?_ ?_
  · exact (hq Tt (hq Tt (hq (qP h_x35) (hq (qe (f := Int_c) h_x35) (hq (qw (f := Int_c) h_x35) (hq Tt hq0))))))
  refine Run.cond (by cbv) (hq0) (fun c36 => ?_) (fun c36 => ?_)
  ·
   have h := if_t c36 h
   refine Run.region hL hT [] (by cbv) ?_ ?_
   · exact (hq Tt hq0)
   refine Run.region hL hT [] (by cbv) ?_ ?_
   · exact (hq Tt hq0)
   refine ⟨(ar .add .i64 z31 1), (ar .add .i64 z32 1), h, Weak.of _ [(1, 1)] hA (by cbv) ?_⟩
   repeat (first | exact hq0 | refine hq (by first | exact Tt | rfl) ?_)
  have h := if_f c36 h
  refine Run.skip ?_
  refine Run.region hL hT [] (by cbv) ?_ ?_
  · exact (hq Tt hq0)
  refine ⟨z31, (ar .add .i64 z32 1), h, Weak.of _ [(1, 1)] hA (by cbv) ?_⟩
  repeat (first | exact hq0 | refine hq (by first | exact Tt | rfl) ?_)
 have h := if_f c33 h
 refine Run.exit ?_
 refine Run.seq ?_
 refine Run.region hL hT [] (by cbv) hq0 ?_
 refine Run.ret ?_
 cases h
 refine ⟨_, _, by cbv, ?_, ?_⟩
 · exact LLe.r
 exact (ALe.v LLe.r ALe.nil)
theorem qrM {qg : Int} {qa : List Cond} {qh : Int} {qCB : Bool} {qi : Int} {qp : List Int} {qDB : Bool} {qM : Int} {qY : Int} {a1 : Int} {r : Int} (h : qfF.f (Query.mk qg qa qh qCB qi qp qDB qM qY) a1 = some r) : AC Tryz.prog 146 [.ag [.s (.int .i64 qg), .im false (rowsOf qy qa), .s (.int .i64 qh), .s (.bool qCB), .s (.int .i64 qi), .im false (rowsOf Int_c qp), .s (.bool qDB), .s (.int .i64 qM), .s (.int .i64 qY)], .v (.s (.int .i64 a1))] [.ag [.jk, .jk, .jk, .jk, .jk, .jk, .jk, .jk, .jk], .v (.jk)] [.v (.s (.int .i64 r))] := by
 unfold qfF.f at h
 let qK := rowsOf qy
 let qB := rowsOf Int_c
 show AC Tryz.prog 146 [.ag [.s (.int .i64 qg), .im false (qK qa), .s (.int .i64 qh), .s (.bool qCB), .s (.int .i64 qi), .im false (qB qp), .s (.bool qDB), .s (.int .i64 qM), .s (.int .i64 qY)], .v (.s (.int .i64 a1))] _ _
 refine run3 Tryz.func146 (by rfl) (by rfl) (by cbv) ⟨by decide, rfl⟩ ?_
 intro ar cm bo sc sa sx ss sl bs sb ln sr ap up rp fr ge le lt nz mm ma sm fl al ci hL F hP hA hT hM hC
 refine Run.seq ?_
 refine Run.region hL hT [] (by cbv) hq0 ?_
 refine Run.seq ?_
 refine Run.seq ?_
 refine Run.region hL hT [] (by cbv) ?_ ?_
 · exact (hq Tt (hq Tt hq0))
 refine Run.cond (by cbv) (hq0) (fun c1 => ?_) (fun c1 => ?_)
 ·
  have h := if_t c1 h
  refine Run.seq ?_
  refine Run.region hL hT [] (by cbv) hq0 ?_
  refine Run.ret ?_
  cases h
  refine ⟨_, _, by cbv, ?_, ?_⟩
  · exact LLe.r
  exact (ALe.v LLe.r ALe.nil)
 have h := if_f c1 h
 refine Run.skip ?_
 refine Run.seq ?_
 obtain ⟨m2, h_m2, h⟩ := bnd h
 obtain ⟨m3, h_m3, h⟩ := bnd h
 refine Run.region hL hT [(2, .hd [] (.t (.s (.int .i64 m2))) []), (4, .hd [] (.t (.s (.int .i64 m3))) [])] (by cbv) ?_ ?_
 · exact (hq Tt (hq (qVY h_m2) (hq (qWY h_m3) hq0)))
 refine Run.ret ?_
 cases h
 refine ⟨_, _, by cbv, ?_, ?_⟩
 · exact LLe.r
 exact (ALe.v LLe.r ALe.nil)
theorem qmI {a0 : ByteArray} {r : Bool} (h : qrC.f a0 = some r) : AC Tryz.prog 156 [.v (.s (.string a0))] [.v (.jk)] [.v (.s (.bool r))] := by
 unfold qrC.f at h
 show AC Tryz.prog 156 [.v (.s (.string a0))] _ _
 refine run3 Tryz.func156 (by rfl) (by rfl) (by cbv) ⟨by decide, rfl⟩ ?_
 intro ar cm bo sc sa sx ss sl bs sb ln sr ap up rp fr ge le lt nz mm ma sm fl al ci hL F hP hA hT hM hC
 refine Run.seq ?_
 refine Run.region hL hT [] (by cbv) hq0 ?_
 refine Run.seq ?_
 refine Run.seq ?_
 refine Run.region hL hT [] (by cbv) hq0 ?_
 refine Run.block ?_
 refine Run.loop2 (fun (z4 : Int) (z5 : Int) => ⟨19, 100000, [(0, .t (.s (.string a0))), (5, .t (.s (.int .i64 z4))), (6, .t (.s (.int .i64 z5)))], []⟩) (x0 := (sl a0)) (x1 := 0) h (Weak.of _ [] hA (by cbv) ?_) (fun _ _ => rfl) ?_
 · repeat (first | exact hq0 | refine hq (by first | exact Tt | rfl) ?_)
 intro k z4 z5 h
 rw [qrC.l0] at h
 refine Run.seq ?_
 refine Run.region hL hT [] (by cbv) ?_ ?_
 · exact (hq Tt hq0)
 refine Run.seq ?_
 refine Run.cond (by cbv) (hq0) (fun c6 => ?_) (fun c6 => ?_)
 ·
  have h := if_t c6 h
  refine Run.skip ?_
  refine Run.seq ?_
  refine Run.block ?_
  refine Run.seq ?_
  refine Run.region hL hT [] (by cbv) hq0 ?_
  refine Run.seq ?_
  obtain ⟨u7, h_u7, h⟩ := bnd h
  obtain ⟨r8, h_r8, h⟩ := bnd h
  refine Run.region hL hT [(4, .call [false, false, false] [.v (.jk), .v (.jk), .v (.jk)] [.v (.s (.bool r8))])] (by cbv) ?_ ?_
  · exact (hq (inS_0 h_u7) (hq (inS_1 h_u7) (hq (hC (qhB h_r8)) hq0)))
  refine Run.cond (by cbv) (hq0) (fun c9 => ?_) (fun c9 => ?_)
  ·
   have h := if_t c9 h
   refine Run.seq ?_
   refine Run.region hL hT [] (by cbv) hq0 ?_
   refine Run.ret ?_
   cases h
   refine ⟨_, _, by cbv, ?_, ?_⟩
   · exact LLe.r
   exact (ALe.v LLe.r ALe.nil)
  have h := if_f c9 h
  refine Run.skip ?_
  refine Run.region hL hT [] (by cbv) ?_ ?_
  · exact (hq Tt hq0)
  refine ⟨z4, (ar .add .i64 z5 1), h, Weak.of _ [] hA (by cbv) ?_⟩
  repeat (first | exact hq0 | refine hq (by first | exact Tt | rfl) ?_)
 have h := if_f c6 h
 refine Run.exit ?_
 refine Run.seq ?_
 refine Run.region hL hT [] (by cbv) ?_ ?_
 · exact (hq Tt hq0)
 refine Run.ret ?_
 cases h
 refine ⟨_, _, by cbv, ?_, ?_⟩
 · exact LLe.r
 exact (ALe.v LLe.r ALe.nil)
theorem qsM {a0 : List ByteArray} {r : Bool} (h : qdC.f a0 = some r) : AC Tryz.prog 157 [.v (.im false (rowsOf Str_c a0))] [.v (.jk)] [.v (.s (.bool r))] := by
 unfold qdC.f at h
 let qR := rowsOf Str_c
 let qvB := @lenI ByteArray
 show AC Tryz.prog 157 [.v (.im false (qR a0))] _ _
 refine run3 Tryz.func157 (by rfl) (by rfl) (by cbv) ⟨by decide, rfl⟩ ?_
 intro ar cm bo sc sa sx ss sl bs sb ln sr ap up rp fr ge le lt nz mm ma sm fl al ci hL F hP hA hT hM hC
 refine Run.seq ?_
 refine Run.region hL hT [] (by cbv) hq0 ?_
 refine Run.seq ?_
 refine Run.seq ?_
 refine Run.region hL hT [] (by cbv) hq0 ?_
 rw [show ln (qR a0) = qvB a0 from ln_eq Str_c _]
 refine Run.block ?_
 refine Run.loop1 (fun (z5 : Int) => ⟨29, 100000, [(0, .t (.im false (qR a0))), (5, .t (.im false (qR a0))), (6, .t (.s (.int .i64 (qvB a0)))), (7, .t (.s (.int .i64 z5)))], []⟩) (x0 := 0) h (Weak.of _ [] hA (by cbv) ?_) (fun _ => rfl) ?_
 · repeat (first | exact hq0 | refine hq (by first | exact Tt | rfl) ?_)
 intro k z5 h
 rw [qdC.l0] at h
 refine Run.seq ?_
 refine Run.region hL hT [] (by cbv) ?_ ?_
 · exact (hq Tt hq0)
 refine Run.seq ?_
 refine Run.cond (by cbv) (hq0) (fun c6 => ?_) (fun c6 => ?_)
 ·
  have h := if_t c6 h
  refine Run.skip ?_
  refine Run.seq ?_
  refine Run.block ?_
  refine Run.seq ?_
  obtain ⟨x7, h_x7, h⟩ := bnd h
  refine Run.region hL hT [(1, .el [.s (.string x7)])] (by cbv) ?_ ?_
  · exact (hq (qP h_x7) (hq (qe (f := Str_c) h_x7) (hq (qw (f := Str_c) h_x7) hq0)))
  refine Run.seq ?_
  obtain ⟨r8, h_r8, h⟩ := bnd h
  obtain ⟨x9, h_x9, h⟩ := bnd h
  refine Run.region hL hT [(1, .call [false] [.v (.jk)] [.v (.s (.bool r8))]), (10, .el [.s (.string x9)])] (by cbv) ?_ ?_
  · exact (hq (hC (qmI h_r8)) (hq (fun _ => hq0) (hq (fun g11 => (hq g11 (hq Tt hq0))) (hq (fun g12 => (hq g12 hq0)) (hq (fun _ => hq0) (hq (fun _ => hq0) (hq (fun g15 => (hq g15 (hq Tt hq0))) (hq (fun g16 => (hq g16 (hq g16 (hq (qP (gd_t h_x9 g16)) (hq (qe (f := Str_c) (gd_t h_x9 g16)) (hq (qw (f := Str_c) (gd_t h_x9 g16)) hq0)))))) (hq (fun g17 => (hq g17 hq0)) (hq (fun _ => hq0) (hq (fun g19 => (hq g19 (hq g19 hq0))) (hq (fun g20 => (hq g20 (hq (fun q21 => (hq (bo_a g20 q21) hq0)) (hq (fun _ => hq0) hq0)))) (hq (fun _ => hq0) (hq (fun q24 => (hq (bo_m q24) hq0)) hq0))))))))))))))
  refine Run.cond (by cbv) (hq0) (fun c25 => ?_) (fun c25 => ?_)
  ·
   have h := if_t c25 h
   refine Run.seq ?_
   refine Run.region hL hT [] (by cbv) hq0 ?_
   refine Run.ret ?_
   cases h
   refine ⟨_, _, by cbv, ?_, ?_⟩
   · exact LLe.r
   exact (ALe.v LLe.r ALe.nil)
  have h := if_f c25 h
  refine Run.skip ?_
  refine Run.region hL hT [] (by cbv) ?_ ?_
  · exact (hq Tt hq0)
  refine ⟨(ar .add .i64 z5 1), h, Weak.of _ [] hA (by cbv) ?_⟩
  repeat (first | exact hq0 | refine hq (by first | exact Tt | rfl) ?_)
 have h := if_f c6 h
 refine Run.exit ?_
 refine Run.seq ?_
 refine Run.region hL hT [] (by cbv) hq0 ?_
 refine Run.ret ?_
 cases h
 refine ⟨_, _, by cbv, ?_, ?_⟩
 · exact LLe.r
 exact (ALe.v LLe.r ALe.nil)
theorem qxP {qO : Int} {a0v_N : Int} {a0v_S : ByteArray} {qD : List Json} {qF : List ByteArray} {r : Bool} (h : qEH.f (Json.mk qO a0v_N a0v_S qD qF) = some r) : AC Tryz.prog 130 [.ag [.s (.int .i64 qO), .s (.int .i64 a0v_N), .s (.string a0v_S), .im false (rowsOf ql qD), .im false (rowsOf Str_c qF)]] [.ag [.jk, .jk, .jk, .jk, .jk]] [.v (.s (.bool r))] := by
 unfold qEH.f at h
 let qj := rowsOf ql
 let qR := rowsOf Str_c
 let qV := @lenI Json
 let qvB := @lenI ByteArray
 show AC Tryz.prog 130 [.ag [.s (.int .i64 qO), .s (.int .i64 a0v_N), .s (.string a0v_S), .im false (qj qD), .im false (qR qF)]] _ _
 refine run3 Tryz.func130 (by rfl) (by rfl) (by cbv) ⟨by decide, rfl⟩ ?_
 intro ar cm bo sc sa sx ss sl bs sb ln sr ap up rp fr ge le lt nz mm ma sm fl al ci hL F hP hA hT hM hC
 refine Run.seq ?_
 refine Run.region hL hT [] (by cbv) hq0 ?_
 refine Run.seq ?_
 refine Run.seq ?_
 refine Run.region hL hT [] (by cbv) ?_ ?_
 · exact (hq Tt (hq Tt (hq (fun _ => hq0) (hq (fun g2 => (by have g2C := g2; rw [show ln (qj qD) = qV qD from ln_eq ql _] at g2C; exact (hq g2 (hq Tt hq0)))) (hq (fun g3 => (by have g3C := g3; rw [show ln (qj qD) = qV qD from ln_eq ql _] at g3C; exact (hq g3 (hq Tt hq0)))) (hq (fun q4 => (by have q4C := q4; rw [show ln (qj qD) = qV qD from ln_eq ql _] at q4C; exact (hq q4 hq0))) (hq (fun _ => hq0) (hq (fun _ => hq0) (hq (fun g7 => (by have g7C := g7; rw [show ln (qj qD) = qV qD from ln_eq ql _] at g7C; exact (hq g7 (hq Tt hq0)))) (hq (fun g8 => (by have g8C := g8; rw [show ln (qj qD) = qV qD from ln_eq ql _] at g8C; exact (hq g8 (hq Tt hq0)))) (hq (fun q9 => (by have q9C := q9; rw [show ln (qj qD) = qV qD from ln_eq ql _] at q9C; exact (hq q9 hq0))) (hq (fun _ => hq0) (hq (fun _ => hq0) (hq (fun g12 => (by have g12C := g12; rw [show ln (qj qD) = qV qD from ln_eq ql _] at g12C; exact (hq g12 (hq Tt hq0)))) (hq (fun g13 => (by have g13C := g13; rw [show ln (qj qD) = qV qD from ln_eq ql _] at g13C; exact (hq g13 hq0))) (hq (fun g14 => (by have g14C := g14; rw [show ln (qj qD) = qV qD from ln_eq ql _] at g14C; exact (hq g14 (hq Tt hq0)))) (hq (fun g15 => (by have g15C := g15; rw [show ln (qj qD) = qV qD from ln_eq ql _] at g15C; exact (hq g15 hq0))) (hq (fun _ => hq0) (hq (fun g17 => (by have g17C := g17; rw [show ln (qj qD) = qV qD from ln_eq ql _, show ln (qR qF) = qvB qF from ln_eq Str_c _] at g17C; exact (hq g17 (hq Tt hq0)))) (hq (fun g18 => (by have g18C := g18; rw [show ln (qj qD) = qV qD from ln_eq ql _, show ln (qR qF) = qvB qF from ln_eq Str_c _] at g18C; exact (hq g18 (hq Tt hq0)))) (hq (fun g19 => (by have g19C := g19; rw [show ln (qj qD) = qV qD from ln_eq ql _] at g19C; exact (hq g19 (hq (fun q20 => (by have q20C := q20; rw [show ln (qR qF) = qvB qF from ln_eq Str_c _] at q20C; exact (hq (bo_a g19 q20) hq0))) (hq (fun _ => hq0) hq0))))) (hq (fun _ => hq0) (hq (fun q23 => (by have q23C := q23; rw [show ln (qj qD) = qV qD from ln_eq ql _] at q23C; exact (hq (bo_m q23) hq0))) hq0)))))))))))))))))))))))
 rw [show ln (qj qD) = qV qD from ln_eq ql _]
 rw [show ln (qR qF) = qvB qF from ln_eq Str_c _]
 refine Run.cond (by cbv) (hq0) (fun c24 => ?_) (fun c24 => ?_)
 ·
  have h := if_t c24 h
  refine Run.seq ?_
  refine Run.region hL hT [] (by cbv) hq0 ?_
  refine Run.ret ?_
  cases h
  refine ⟨_, _, by cbv, ?_, ?_⟩
  · exact LLe.r
  exact (ALe.v LLe.r ALe.nil)
 have h := if_f c24 h
 refine Run.skip ?_
 refine Run.seq ?_
 refine Run.seq ?_
 refine Run.region hL hT [] (by cbv) ?_ ?_
 · exact (hq Tt (hq Tt (hq (fun _ => hq0) (hq (fun g26 => (hq g26 (hq Tt hq0))) (hq (fun g27 => (hq g27 (hq Tt hq0))) (hq (fun q28 => (hq q28 hq0)) (hq (fun _ => hq0) (hq (fun _ => hq0) (hq (fun g31 => (hq g31 (hq Tt hq0))) (hq (fun g32 => (hq g32 (hq Tt hq0))) (hq (fun q33 => (hq q33 hq0)) (hq (fun _ => hq0) (hq (fun _ => hq0) (hq (fun g36 => (hq g36 (hq Tt hq0))) (hq (fun g37 => (hq g37 hq0)) (hq (fun g38 => (hq g38 hq0)) (hq (fun _ => hq0) (hq (fun g40 => (hq g40 (hq Tt hq0))) (hq (fun g41 => (hq g41 (hq Tt hq0))) (hq (fun g42 => (hq g42 (hq (fun q43 => (hq (bo_a g42 q43) hq0)) (hq (fun _ => hq0) hq0)))) (hq (fun _ => hq0) (hq (fun q46 => (hq (bo_m q46) hq0)) hq0))))))))))))))))))))))
 refine Run.cond (by cbv) (hq0) (fun c47 => ?_) (fun c47 => ?_)
 ·
  have h := if_t c47 h
  refine Run.seq ?_
  refine Run.region hL hT [] (by cbv) hq0 ?_
  refine Run.ret ?_
  cases h
  refine ⟨_, _, by cbv, ?_, ?_⟩
  · exact LLe.r
  exact (ALe.v LLe.r ALe.nil)
 have h := if_f c47 h
 refine Run.skip ?_
 refine Run.seq ?_
 refine Run.seq ?_
 refine Run.region hL hT [] (by cbv) ?_ ?_
 · exact (hq Tt hq0)
 refine Run.block ?_
 refine Run.seq ?_
 refine Run.region hL hT [] (by cbv) ?_ ?_
 · exact (hq Tt hq0)
 refine Run.cond (by cbv) (hq0) (fun c48 => ?_) (fun c48 => ?_)
 ·
  have h := if_t c48 h
  refine Run.seq ?_
  obtain ⟨r49, h_r49, h⟩ := bnd h
  refine Run.region hL hT [(2, .call [false, false, false] [.v (.jk), .v (.jk), .v (.jk)] [.v (.s (.bool r49))])] (by cbv) ?_ ?_
  · exact (hq Tt (hq (hC (qhB h_r49)) hq0))
  refine Run.ret ?_
  cases h
  refine ⟨_, _, by cbv, ?_, ?_⟩
  · exact LLe.r
  exact (ALe.v LLe.r ALe.nil)
 have h := if_f c48 h
 refine Run.seq ?_
 refine Run.region hL hT [] (by cbv) ?_ ?_
 · exact (hq Tt hq0)
 refine Run.cond (by cbv) (hq0) (fun c50 => ?_) (fun c50 => ?_)
 ·
  have h := if_t c50 h
  refine Run.seq ?_
  obtain ⟨r51, h_r51, h⟩ := bnd h
  refine Run.region hL hT [(2, .call [false] [.v (.jk)] [.v (.s (.bool r51))])] (by cbv) ?_ ?_
  · exact (hq Tt (hq (hC (qeH h_r51)) hq0))
  refine Run.ret ?_
  cases h
  refine ⟨_, _, by cbv, ?_, ?_⟩
  · exact LLe.r
  exact (ALe.v LLe.r ALe.nil)
 have h := if_f c50 h
 refine Run.seq ?_
 refine Run.region hL hT [] (by cbv) ?_ ?_
 · exact (hq Tt hq0)
 refine Run.cond (by cbv) (hq0) (fun c52 => ?_) (fun c52 => ?_)
 ·
  have h := if_t c52 h
  refine Run.seq ?_
  obtain ⟨r53, h_r53, h⟩ := bnd h
  refine Run.region hL hT [(2, .call [false] [.v (.jk)] [.v (.s (.bool r53))])] (by cbv) ?_ ?_
  · exact (hq Tt (hq (hC (qmI h_r53)) hq0))
  refine Run.ret ?_
  cases h
  refine ⟨_, _, by cbv, ?_, ?_⟩
  · exact LLe.r
  exact (ALe.v LLe.r ALe.nil)
 have h := if_f c52 h
 refine Run.seq ?_
 refine Run.region hL hT [] (by cbv) ?_ ?_
 · exact (hq Tt hq0)
 refine Run.cond (by cbv) (hq0) (fun c54 => ?_) (fun c54 => ?_)
 ·
  have h := if_t c54 h
  refine Run.seq ?_
  obtain ⟨r55, h_r55, h⟩ := bnd h
  refine Run.region hL hT [(10, .call [false] [.v (.jk)] [.v (.s (.bool r55))])] (by cbv) ?_ ?_
  · exact (hq Tt (hq Tt (hq Tt (hq (fun _ => hq0) (hq (fun g57 => (by have g57C := g57; rw [show ln (qj qD) = qV qD from ln_eq ql _, show ln (qR qF) = qvB qF from ln_eq Str_c _] at g57C; exact (hq g57 (hq Tt hq0)))) (hq (fun g58 => (by have g58C := g58; rw [show ln (qj qD) = qV qD from ln_eq ql _, show ln (qR qF) = qvB qF from ln_eq Str_c _] at g58C; exact (hq g58 (hq (hC (qsM (gd_t h_r55 g58C))) hq0)))) (hq (fun q59 => (by have q59C := q59; rw [show ln (qj qD) = qV qD from ln_eq ql _, show ln (qR qF) = qvB qF from ln_eq Str_c _] at q59C; exact (hq q59 hq0))) (hq (fun _ => hq0) hq0))))))))
  rw [show ln (qj qD) = qV qD from ln_eq ql _]
  rw [show ln (qR qF) = qvB qF from ln_eq Str_c _]
  refine Run.ret ?_
  cases h
  refine ⟨_, _, by cbv, ?_, ?_⟩
  · exact LLe.r
  exact (ALe.v LLe.r ALe.nil)
 have h := if_f c54 h
 refine Run.skip ?_
 refine Run.seq ?_
 refine Run.region hL hT [] (by cbv) ?_ ?_
 · exact (hq Tt (hq Tt (hq (fun _ => hq0) (hq (fun g62 => (hq g62 (hq Tt hq0))) (hq (fun g63 => (hq g63 (hq Tt hq0))) (hq (fun _ => hq0) (hq (fun q65 => (hq (bo_m q65) hq0)) hq0)))))))
 refine Run.ret ?_
 cases h
 refine ⟨_, _, by cbv, ?_, ?_⟩
 · exact LLe.r
 exact (ALe.v LLe.r ALe.nil)
theorem qtM (self : Json → Int → Option Int) (hself : ∀ {qO : Int} {a0v_N : Int} {a0v_S : ByteArray} {qD : List Json} {qF : List ByteArray} {a1 : Int} {r : Int} (h : self (Json.mk qO a0v_N a0v_S qD qF) a1 = some r), AC Tryz.prog 70 [.ag [.s (.int .i64 qO), .s (.int .i64 a0v_N), .s (.string a0v_S), .im false (rowsOf ql qD), .im false (rowsOf Str_c qF)], .v (.s (.int .i64 a1))] [.ag [.jk, .jk, .jk, .jk, .jk], .v (.jk)] [.v (.s (.int .i64 r))]) {qO : Int} {a0v_N : Int} {a0v_S : ByteArray} {qD : List Json} {qF : List ByteArray} {a1 : Int} {r : Int} (h : qjB.b self (Json.mk qO a0v_N a0v_S qD qF) a1 = some r) : AC Tryz.prog 70 [.ag [.s (.int .i64 qO), .s (.int .i64 a0v_N), .s (.string a0v_S), .im false (rowsOf ql qD), .im false (rowsOf Str_c qF)], .v (.s (.int .i64 a1))] [.ag [.jk, .jk, .jk, .jk, .jk], .v (.jk)] [.v (.s (.int .i64 r))] := by
 unfold qjB.b at h
 let qj := rowsOf ql
 let qR := rowsOf Str_c
 let qV := @lenI Json
 show AC Tryz.prog 70 [.ag [.s (.int .i64 qO), .s (.int .i64 a0v_N), .s (.string a0v_S), .im false (qj qD), .im false (qR qF)], .v (.s (.int .i64 a1))] _ _
 refine run3 Tryz.func70 (by rfl) (by rfl) (by cbv) ⟨by decide, rfl⟩ ?_
 intro ar cm bo sc sa sx ss sl bs sb ln sr ap up rp fr ge le lt nz mm ma sm fl al ci hL F hP hA hT hM hC
 refine Run.seq ?_
 refine Run.region hL hT [] (by cbv) hq0 ?_
 refine Run.seq ?_
 refine Run.seq ?_
 obtain ⟨r1, h_r1, h⟩ := bnd h
 refine Run.region hL hT [(4, .call [false] [.ag [.jk, .jk, .jk, .jk, .jk]] [.v (.s (.bool r1))])] (by cbv) ?_ ?_
 · exact (hq Tt (hq (fun g2 => (hq Tt hq0)) (hq (fun g3 => (hq g3 (hq (hC (qxP (gd_t h_r1 g3))) hq0))) (hq (fun g4 => (hq g4 hq0)) (hq (fun _ => hq0) (hq (fun q6 => (hq (bo_m q6) hq0)) hq0))))))
 refine Run.cond (by cbv) (hq0) (fun c7 => ?_) (fun c7 => ?_)
 ·
  have h := if_t c7 h
  refine Run.seq ?_
  refine Run.region hL hT [] (by cbv) hq0 ?_
  refine Run.ret ?_
  cases h
  refine ⟨_, _, by cbv, ?_, ?_⟩
  · exact LLe.r
  exact (ALe.v LLe.r ALe.nil)
 have h := if_f c7 h
 refine Run.skip ?_
 refine Run.seq ?_
 refine Run.region hL hT [] (by cbv) hq0 ?_
 refine Run.seq ?_
 refine Run.seq ?_
 refine Run.region hL hT [] (by cbv) ?_ ?_
 · exact (hq Tt hq0)
 rw [show ln (qj qD) = qV qD from ln_eq ql _]
 refine Run.block ?_
 refine Run.loop2 (fun (z13 : Int) (z14 : Int) => ⟨32, 100000, [(1, .t (.s (.int .i64 a1))), (5, .t (.s (.int .i64 z13))), (16, .t (.im false (qj qD))), (17, .t (.s (.int .i64 (qV qD)))), (18, .t (.s (.int .i64 z14)))], []⟩) (x0 := 1) (x1 := 0) h (Weak.of _ [] hA (by cbv) ?_) (fun _ _ => rfl) ?_
 · repeat (first | exact hq0 | refine hq (by first | exact Tt | rfl) ?_)
 intro k z13 z14 h
 rw [qjB.l0] at h
 refine Run.seq ?_
 refine Run.region hL hT [] (by cbv) ?_ ?_
 · exact (hq Tt hq0)
 refine Run.seq ?_
 refine Run.cond (by cbv) (hq0) (fun c15 => ?_) (fun c15 => ?_)
 ·
  have h := if_t c15 h
  refine Run.skip ?_
  refine Run.seq ?_
  refine Run.block ?_
  refine Run.seq ?_
  obtain ⟨⟨qsW, qTb, qUb, qeU, qfU⟩, h_x16, h⟩ := bnd h
  refine Run.region hL hT [(0, .el [.s (.int .i64 qsW), .s (.int .i64 qTb), .s (.string qUb), .im false (qj qeU), .im false (qR qfU)])] (by cbv) ?_ ?_
  · exact (hq (qP h_x16) (hq (qe (f := ql) h_x16) (hq (qzH qcE h_x16) (hq Tt hq0))))
  refine Run.seq ?_
  obtain ⟨r17, h_r17, h⟩ := bnd h
  refine Run.region hL hT [(4, .call [false, false] [.ag [.jk, .jk, .jk, .jk, .jk], .v (.jk)] [.v (.s (.int .i64 r17))])] (by cbv) ?_ ?_
  · exact (hq Tt (hq Tt (hq (hC (hself h_r17)) (hq Tt hq0))))
  refine Run.seq ?_
  refine Run.region hL hT [] (by cbv) ?_ ?_
  · exact (hq Tt hq0)
  refine Run.cond (by cbv) (hq0) (fun c18 => ?_) (fun c18 => ?_)
  ·
   have h := if_t c18 h
   refine Run.seq ?_
   refine Run.region hL hT [] (by cbv) hq0 ?_
   refine Run.ret ?_
   cases h
   refine ⟨_, _, by cbv, ?_, ?_⟩
   · exact LLe.r
   exact (ALe.v LLe.r ALe.nil)
  have h := if_f c18 h
  refine Run.skip ?_
  refine Run.region hL hT [] (by cbv) ?_ ?_
  · exact (hq Tt hq0)
  refine ⟨(ar .add .i64 z13 r17), (ar .add .i64 z14 1), h, Weak.of _ [] hA (by cbv) ?_⟩
  repeat (first | exact hq0 | refine hq (by first | exact Tt | rfl) ?_)
 have h := if_f c15 h
 refine Run.exit ?_
 refine Run.seq ?_
 refine Run.region hL hT [] (by cbv) hq0 ?_
 refine Run.ret ?_
 cases h
 refine ⟨_, _, by cbv, ?_, ?_⟩
 · exact LLe.r
 exact (ALe.v LLe.r ALe.nil)
theorem qMI : ∀ (k : Nat) {qO : Int} {a0v_N : Int} {a0v_S : ByteArray} {qD : List Json} {qF : List ByteArray} {a1 : Int} {r : Int} (h : qjB.g k (Json.mk qO a0v_N a0v_S qD qF) a1 = some r), AC Tryz.prog 70 [.ag [.s (.int .i64 qO), .s (.int .i64 a0v_N), .s (.string a0v_S), .im false (rowsOf ql qD), .im false (rowsOf Str_c qF)], .v (.s (.int .i64 a1))] [.ag [.jk, .jk, .jk, .jk, .jk], .v (.jk)] [.v (.s (.int .i64 r))]
 | 0 => fun h => by cases h
 | k + 1 => fun h => qtM (qjB.g k) (qMI k) h
theorem qdN {qO : Int} {a0v_N : Int} {a0v_S : ByteArray} {qD : List Json} {qF : List ByteArray} {a1 : Int} {r : Int} (h : qjB.f (Json.mk qO a0v_N a0v_S qD qF) a1 = some r) : AC Tryz.prog 70 [.ag [.s (.int .i64 qO), .s (.int .i64 a0v_N), .s (.string a0v_S), .im false (rowsOf ql qD), .im false (rowsOf Str_c qF)], .v (.s (.int .i64 a1))] [.ag [.jk, .jk, .jk, .jk, .jk], .v (.jk)] [.v (.s (.int .i64 r))] := qMI 20 h
theorem quG {qO : Int} {a0v_N : Int} {a0v_S : ByteArray} {qD : List Json} {qF : List ByteArray} {r : Bool} (h : qgE.f (Json.mk qO a0v_N a0v_S qD qF) = some r) : AC Tryz.prog 25 [.ag [.s (.int .i64 qO), .s (.int .i64 a0v_N), .s (.string a0v_S), .im false (rowsOf ql qD), .im false (rowsOf Str_c qF)]] [.ag [.jk, .jk, .jk, .jk, .jk]] [.v (.s (.bool r))] := by
 unfold qgE.f at h
 let qj := rowsOf ql
 let qR := rowsOf Str_c
 show AC Tryz.prog 25 [.ag [.s (.int .i64 qO), .s (.int .i64 a0v_N), .s (.string a0v_S), .im false (qj qD), .im false (qR qF)]] _ _
 refine run3 Tryz.func25 (by rfl) (by rfl) (by cbv) ⟨by decide, rfl⟩ ?_
 intro ar cm bo sc sa sx ss sl bs sb ln sr ap up rp fr ge le lt nz mm ma sm fl al ci hL F hP hA hT hM hC
 refine Run.seq ?_
 refine Run.region hL hT [] (by cbv) hq0 ?_
 refine Run.seq ?_
 obtain ⟨r1, h_r1, h⟩ := bnd h
 refine Run.region hL hT [(1, .call [false, false] [.ag [.jk, .jk, .jk, .jk, .jk], .v (.jk)] [.v (.s (.int .i64 r1))])] (by cbv) ?_ ?_
 · exact (hq Tt (hq (hC (qdN h_r1)) (hq Tt hq0)))
 refine Run.ret ?_
 cases h
 refine ⟨_, _, by cbv, ?_, ?_⟩
 · exact LLe.r
 exact (ALe.v LLe.r ALe.nil)
theorem qnI {qO : Int} {a0v_N : Int} {a0v_S : ByteArray} {qD : List Json} {qF : List ByteArray} {r : Json} (h : qhE.f (Json.mk qO a0v_N a0v_S qD qF) = some r) : AC Tryz.prog 119 [.ag [.s (.int .i64 qO), .s (.int .i64 a0v_N), .s (.string a0v_S), .ow 46 (rowsOf qnB qD), .ow 9 (rowsOf Str_c qF)]] [.ag [.jk, .jk, .jk, .jk, .jk]] [.ag [.s (.int .i64 r.Kind), .s (.int .i64 r.N), .s (.string r.S), .ow 46 (rowsOf qnB r.List_), .ow 9 (rowsOf Str_c r.Names)]] := by
 unfold qhE.f at h
 let qXB := rowsOf qnB
 let qR := rowsOf Str_c
 show AC Tryz.prog 119 [.ag [.s (.int .i64 qO), .s (.int .i64 a0v_N), .s (.string a0v_S), .ow 46 (qXB qD), .ow 9 (qR qF)]] _ _
 refine run3 Tryz.func119 (by rfl) (by rfl) (by cbv) ⟨by decide, rfl⟩ ?_
 intro ar cm bo sc sa sx ss sl bs sb ln sr ap up rp fr ge le lt nz mm ma sm fl al ci hL F hP hA hT hM hC
 refine Run.seq ?_
 refine Run.region hL hT [] (by cbv) hq0 ?_
 refine Run.seq ?_
 refine Run.seq ?_
 obtain ⟨r1, h_r1, h⟩ := bnd h
 refine Run.region hL hT [(1, .call [false] [.ag [.jk, .jk, .jk, .jk, .jk]] [.v (.s (.bool r1))])] (by cbv) ?_ ?_
 · exact (hq Tt (hq (hC (AC.args (quG h_r1) (ALe.ag rfl (LLe.c (LLe.c (LLe.c (LLe.cons (LLe.im (RLe.eq (qAC qdH _))) (LLe.cons (LLe.im (RLe.eq (qAC qnF _))) LLe.nil))))) ALe.nil))) hq0))
 refine Run.cond (by cbv) (hq0) (fun c2 => ?_) (fun c2 => ?_)
 ·
  have h := if_t c2 h
  refine Run.seq ?_
  refine Run.region hL hT [] (by cbv) ?_ ?_
  · exact (hq Tt hq0)
  refine Run.ret ?_
  cases h
  refine ⟨_, _, by cbv, ?_, ?_⟩
  · exact (LLe.c (LLe.c (LLe.c (LLe.cons LLe.jk (LLe.cons LLe.jk LLe.nil)))))
  exact (ALe.ag rfl (LLe.c (LLe.c (LLe.c (LLe.cons LLe.nilO (LLe.cons LLe.nilO LLe.nil))))) ALe.nil)
 have h := if_f c2 h
 refine Run.skip ?_
 refine Run.seq ?_
 refine Run.region hL hT [] (by cbv) ?_ ?_
 · exact (hq Tt (hq Tt hq0))
 refine Run.weak ?_ (Weak.mvB 0 14290 3 (by cbv) (by cbv) (by cbv))
 refine Run.weak ?_ (Weak.mvB 1 14291 3 (by cbv) (by cbv) (by cbv))
 refine Run.ret ?_
 cases h
 refine ⟨_, _, by cbv, ?_, ?_⟩
 · exact LLe.r
 exact (ALe.ag rfl LLe.r ALe.nil)
theorem qEJ {a0 : List Int} {a1 : Int} {r : Int} (h : qIC.f a0 a1 = some r) : AC Tryz.prog 169 [.v (.im false (rowsOf Int_c a0)), .v (.s (.int .i64 a1))] [.v (.jk), .v (.jk)] [.v (.s (.int .i64 r))] := by
 unfold qIC.f at h
 let qB := rowsOf Int_c
 let qZ := @lenI Int
 show AC Tryz.prog 169 [.v (.im false (qB a0)), .v (.s (.int .i64 a1))] _ _
 refine run3 Tryz.func169 (by rfl) (by rfl) (by cbv) ⟨by decide, rfl⟩ ?_
 intro ar cm bo sc sa sx ss sl bs sb ln sr ap up rp fr ge le lt nz mm ma sm fl al ci hL F hP hA hT hM hC
 refine Run.seq ?_
 refine Run.region hL hT [] (by cbv) hq0 ?_
 refine Run.seq ?_
 refine Run.seq ?_
 refine Run.region hL hT [] (by cbv) hq0 ?_
 rw [show ln (qB a0) = qZ a0 from ln_eq Int_c _]
 refine Run.block ?_
 refine Run.loop1 (fun (z5 : Int) => ⟨19, 100000, [(0, .t (.im false (qB a0))), (1, .t (.s (.int .i64 a1))), (7, .t (.s (.int .i64 (qZ a0)))), (8, .t (.s (.int .i64 z5)))], []⟩) (x0 := 0) h (Weak.of _ [] hA (by cbv) ?_) (fun _ => rfl) ?_
 · repeat (first | exact hq0 | refine hq (by first | exact Tt | rfl) ?_)
 intro k z5 h
 rw [qIC.l0] at h
 refine Run.seq ?_
 refine Run.region hL hT [] (by cbv) ?_ ?_
 · exact (hq Tt hq0)
 refine Run.seq ?_
 refine Run.cond (by cbv) (hq0) (fun c6 => ?_) (fun c6 => ?_)
 ·
  have h := if_t c6 h
  refine Run.skip ?_
  refine Run.seq ?_
  refine Run.block ?_
  refine Run.seq ?_
  refine Run.region hL hT [] (by cbv) hq0 ?_
  refine Run.seq ?_
  obtain ⟨x7, h_x7, h⟩ := bnd h
  refine Run.region hL hT [(3, .el [.s (.int .i64 x7)])] (by cbv) ?_ ?_
  · exact (hq (qP h_x7) (hq (qe (f := Int_c) h_x7) (hq (qw (f := Int_c) h_x7) (hq Tt hq0))))
  refine Run.cond (by cbv) (hq0) (fun c8 => ?_) (fun c8 => ?_)
  ·
   have h := if_t c8 h
   refine Run.seq ?_
   refine Run.region hL hT [] (by cbv) hq0 ?_
   refine Run.ret ?_
   cases h
   refine ⟨_, _, by cbv, ?_, ?_⟩
   · exact LLe.r
   exact (ALe.v LLe.r ALe.nil)
  have h := if_f c8 h
  refine Run.skip ?_
  refine Run.region hL hT [] (by cbv) ?_ ?_
  · exact (hq Tt hq0)
  refine ⟨(ar .add .i64 z5 1), h, Weak.of _ [] hA (by cbv) ?_⟩
  repeat (first | exact hq0 | refine hq (by first | exact Tt | rfl) ?_)
 have h := if_f c6 h
 refine Run.exit ?_
 refine Run.seq ?_
 refine Run.region hL hT [] (by cbv) hq0 ?_
 refine Run.ret ?_
 cases h
 refine ⟨_, _, by cbv, ?_, ?_⟩
 · exact LLe.r
 exact (ALe.v LLe.r ALe.nil)
theorem qqH {a0 : List Int} {a1 : Int} {r : Bool} (h : qFD.f a0 a1 = some r) : AC Tryz.prog 162 [.v (.im false (rowsOf Int_c a0)), .v (.s (.int .i64 a1))] [.v (.jk), .v (.jk)] [.v (.s (.bool r))] := by
 unfold qFD.f at h
 let qB := rowsOf Int_c
 show AC Tryz.prog 162 [.v (.im false (qB a0)), .v (.s (.int .i64 a1))] _ _
 refine run3 Tryz.func162 (by rfl) (by rfl) (by cbv) ⟨by decide, rfl⟩ ?_
 intro ar cm bo sc sa sx ss sl bs sb ln sr ap up rp fr ge le lt nz mm ma sm fl al ci hL F hP hA hT hM hC
 refine Run.seq ?_
 refine Run.region hL hT [] (by cbv) hq0 ?_
 refine Run.seq ?_
 obtain ⟨r1, h_r1, h⟩ := bnd h
 refine Run.region hL hT [(2, .call [false, false] [.v (.jk), .v (.jk)] [.v (.s (.int .i64 r1))])] (by cbv) ?_ ?_
 · exact (hq (hC (qEJ h_r1)) (hq Tt hq0))
 refine Run.ret ?_
 cases h
 refine ⟨_, _, by cbv, ?_, ?_⟩
 · exact LLe.r
 exact (ALe.v LLe.r ALe.nil)
def qgR : Go.Shelf.Ren := ⟨fun | 171 => 170 | 243 => 179 | 246 => 186 | 283 => 190 | 284 => 191 | 285 => 192 | 286 => 193 | 129 => 197 | 317 => 196 | 318 => 198 | 319 => 199 | 320 => 200 | 337 => 201 | 338 => 202 | n => n, fun | 3 => 3 | 9 => 9 | 2 => 2 | 4 => 4 | 171 => 179 | 0 => 0 | 53 => 180 | 37 => 22 | 5 => 5 | 173 => 183 | 212 => 189 | 51 => 190 | 20 => 20 | 213 => 191 | 46 => 152 | 232 => 194 | 233 => 195 | n => n, fun | 17 => 0 | 18 => 1 | 19 => 2 | n => n⟩
theorem laysItoa : Go.Proofs.LaysM.n171 Tryz.prog qgR := {
 mixed := by kernel_rfl
 f129 := Tryz.func197.trans (congrArg some (by kernel_rfl))
 f171 := Tryz.func170.trans (congrArg some (by kernel_rfl))
 f243 := Tryz.func179.trans (congrArg some (by kernel_rfl))
 f246 := Tryz.func186.trans (congrArg some (by kernel_rfl))
 f283 := Tryz.func190.trans (congrArg some (by kernel_rfl))
 f284 := Tryz.func191.trans (congrArg some (by kernel_rfl))
 f285 := Tryz.func192.trans (congrArg some (by kernel_rfl))
 f286 := Tryz.func193.trans (congrArg some (by kernel_rfl))
 f317 := Tryz.func196.trans (congrArg some (by kernel_rfl))
 f318 := Tryz.func198.trans (congrArg some (by kernel_rfl))
 f319 := Tryz.func199.trans (congrArg some (by kernel_rfl))
 f320 := Tryz.func200.trans (congrArg some (by kernel_rfl))
 f337 := Tryz.func201.trans (congrArg some (by kernel_rfl))
 f338 := Tryz.func202.trans (congrArg some (by kernel_rfl))
 t0 := Tryz.underlying0
 a0 := Tryz.isAgg0
 z0 := Tryz.sizeOf0
 v0 := Tryz.zeroValue0
 t2 := Tryz.underlying2
 a2 := Tryz.isAgg2
 z2 := Tryz.sizeOf2
 v2 := Tryz.zeroValue2
 t3 := Tryz.underlying3
 a3 := Tryz.isAgg3
 z3 := Tryz.sizeOf3
 v3 := Tryz.zeroValue3
 t4 := Tryz.underlying4
 a4 := Tryz.isAgg4
 z4 := Tryz.sizeOf4
 v4 := Tryz.zeroValue4
 t5 := Tryz.underlying5
 a5 := Tryz.isAgg5
 z5 := Tryz.sizeOf5
 v5 := Tryz.zeroValue5
 t9 := Tryz.underlying9
 a9 := Tryz.isAgg9
 z9 := Tryz.sizeOf9
 v9 := Tryz.zeroValue9
 t20 := Tryz.underlying20
 a20 := Tryz.isAgg20
 z20 := Tryz.sizeOf20
 v20 := Tryz.zeroValue20
 t37 := Tryz.underlying22
 a37 := Tryz.isAgg22
 z37 := Tryz.sizeOf22
 v37 := Tryz.zeroValue22
 t46 := Tryz.underlying152
 a46 := Tryz.isAgg152
 z46 := Tryz.sizeOf152
 v46 := Tryz.zeroValue152
 t51 := Tryz.underlying190
 a51 := Tryz.isAgg190
 z51 := Tryz.sizeOf190
 v51 := Tryz.zeroValue190
 t53 := Tryz.underlying180
 a53 := Tryz.isAgg180
 z53 := Tryz.sizeOf180
 v53 := Tryz.zeroValue180
 t171 := Tryz.underlying179
 a171 := Tryz.isAgg179
 z171 := Tryz.sizeOf179
 v171 := Tryz.zeroValue179
 t173 := Tryz.underlying183
 a173 := Tryz.isAgg183
 z173 := Tryz.sizeOf183
 v173 := Tryz.zeroValue183
 t212 := Tryz.underlying189
 a212 := Tryz.isAgg189
 z212 := Tryz.sizeOf189
 v212 := Tryz.zeroValue189
 t213 := Tryz.underlying191
 a213 := Tryz.isAgg191
 z213 := Tryz.sizeOf191
 t232 := Tryz.underlying194
 a232 := Tryz.isAgg194
 z232 := Tryz.sizeOf194
 v232 := Tryz.zeroValue194
 t233 := Tryz.underlying195
 a233 := Tryz.isAgg195
 z233 := Tryz.sizeOf195
 v233 := Tryz.zeroValue195
 g17 := by kernel_rfl
 g18 := by kernel_rfl
 g19 := by kernel_rfl
 i0 := by kernel_rfl
 i2 := by kernel_rfl
 i3 := by kernel_rfl
 i4 := by kernel_rfl
 i5 := by kernel_rfl
 i9 := by kernel_rfl
 i20 := by kernel_rfl
 i37 := by kernel_rfl
 i46 := by kernel_rfl
 i51 := by kernel_rfl
 i53 := by kernel_rfl
 i171 := by kernel_rfl
 i173 := by kernel_rfl
 i212 := by kernel_rfl
 i232 := by kernel_rfl
 i233 := by kernel_rfl
 m17 := by kernel_rfl
 m18 := by kernel_rfl
 m19 := by kernel_rfl }
theorem quM {a0 : Int} {r : ByteArray} (h : strconv_Itoa.f a0 = some r) : AC Tryz.prog 170 [.v (.s (.int .i64 a0))] [.v .jk] [.v (.s (.string r))] := AC.of_itoa ⟨_, Tryz.func170, by rfl, by rfl⟩ (g := 0) (by kernel_rfl) (fun n h0 h1 w htab => Go.Proofs.Any.strconv_Itoa laysItoa n h0 h1 w htab) h
theorem qeN {a0 : Int} {r : ByteArray} (h : qGG.f a0 = some r) : AC Tryz.prog 163 [.v (.s (.int .i64 a0))] [.v (.jk)] [.v (.s (.string r))] := by
 unfold qGG.f at h
 show AC Tryz.prog 163 [.v (.s (.int .i64 a0))] _ _
 refine run3 Tryz.func163 (by rfl) (by rfl) (by cbv) ⟨by decide, rfl⟩ ?_
 intro ar cm bo sc sa sx ss sl bs sb ln sr ap up rp fr ge le lt nz mm ma sm fl al ci hL F hP hA hT hM hC
 refine Run.seq ?_
 refine Run.region hL hT [] (by cbv) hq0 ?_
 refine Run.seq ?_
 obtain ⟨r1, h_r1, h⟩ := bnd h
 refine Run.region hL hT [(1, .call [false] [.v (.jk)] [.v (.s (.string r1))])] (by cbv) ?_ ?_
 · exact (hq (hC (quM h_r1)) hq0)
 refine Run.ret ?_
 cases h
 refine ⟨_, _, by cbv, ?_, ?_⟩
 · exact LLe.r
 exact (ALe.v LLe.r ALe.nil)
theorem qVG {a0 : ByteArray} {r : Bool} (h : qoD.f a0 = some r) : AC Tryz.prog 187 [.v (.s (.string a0))] [.v (.jk)] [.v (.s (.bool r))] := by
 unfold qoD.f at h
 show AC Tryz.prog 187 [.v (.s (.string a0))] _ _
 refine run3 Tryz.func187 (by rfl) (by rfl) (by cbv) ⟨by decide, rfl⟩ ?_
 intro ar cm bo sc sa sx ss sl bs sb ln sr ap up rp fr ge le lt nz mm ma sm fl al ci hL F hP hA hT hM hC
 refine Run.seq ?_
 refine Run.region hL hT [] (by cbv) hq0 ?_
 refine Run.seq ?_
 refine Run.region hL hT [] (by cbv) hq0 ?_
 refine Run.ret ?_
 cases h
 refine ⟨_, _, by cbv, ?_, ?_⟩
 · exact LLe.r
 exact (ALe.v LLe.r ALe.nil)
theorem qpJ {a0 : ByteArray} {a1 : ByteArray} {r : Bool} (h : qGE.f a0 a1 = some r) : AC Tryz.prog 180 [.v (.s (.string a0)), .v (.s (.string a1))] [.v (.jk), .v (.jk)] [.v (.s (.bool r))] := by
 unfold qGE.f at h
 show AC Tryz.prog 180 [.v (.s (.string a0)), .v (.s (.string a1))] _ _
 refine run3 Tryz.func180 (by rfl) (by rfl) (by cbv) ⟨by decide, rfl⟩ ?_
 intro ar cm bo sc sa sx ss sl bs sb ln sr ap up rp fr ge le lt nz mm ma sm fl al ci hL F hP hA hT hM hC
 refine Run.seq ?_
 refine Run.region hL hT [] (by cbv) hq0 ?_
 refine Run.seq ?_
 obtain ⟨r1, h_r1, h⟩ := bnd h
 obtain ⟨r2, h_r2, h⟩ := bnd h
 refine Run.region hL hT [(1, .call [false] [.v (.jk)] [.v (.s (.bool r1))]), (4, .call [false] [.v (.jk)] [.v (.s (.bool r2))])] (by cbv) ?_ ?_
 · exact (hq (hC (qVG h_r1)) (hq (fun _ => hq0) (hq (fun g4 => (hq g4 (hq (hC (qVG (gd_t h_r2 g4))) hq0))) (hq (fun g5 => (hq g5 hq0)) (hq (fun q6 => (hq q6 hq0)) (hq (fun _ => hq0) (hq (fun _ => hq0) (hq (fun _ => hq0) (hq (fun g10 => (hq g10 (hq g10 hq0))) (hq (fun _ => hq0) (hq (fun q12 => (hq (bo_m q12) hq0)) hq0)))))))))))
 refine Run.ret ?_
 cases h
 refine ⟨_, _, by cbv, ?_, ?_⟩
 · exact LLe.r
 exact (ALe.v LLe.r ALe.nil)
theorem qIF {a0 : ByteArray} {r : Bool} (h : qWC.f a0 = some r) : AC Tryz.prog 181 [.v (.s (.string a0))] [.v (.jk)] [.v (.s (.bool r))] := by
 unfold qWC.f at h
 show AC Tryz.prog 181 [.v (.s (.string a0))] _ _
 refine run3 Tryz.func181 (by rfl) (by rfl) (by cbv) ⟨by decide, rfl⟩ ?_
 intro ar cm bo sc sa sx ss sl bs sb ln sr ap up rp fr ge le lt nz mm ma sm fl al ci hL F hP hA hT hM hC
 refine Run.seq ?_
 refine Run.region hL hT [] (by cbv) hq0 ?_
 refine Run.seq ?_
 refine Run.region hL hT [] (by cbv) hq0 ?_
 refine Run.ret ?_
 cases h
 refine ⟨_, _, by cbv, ?_, ?_⟩
 · exact LLe.r
 exact (ALe.v LLe.r ALe.nil)
theorem qoF {a0 : List ByteArray} {a1 : ByteArray} {r : Int × Bool} (h : qd.f a0 a1 = some r) : AC Tryz.prog 171 [.v (.im false (rowsOf Str_c a0)), .v (.s (.string a1))] [.v (.jk), .v (.jk)] [.v (.s (.int .i64 r.1)), .v (.s (.bool r.2))] := by
 unfold qd.f at h
 let qR := rowsOf Str_c
 let qvB := @lenI ByteArray
 show AC Tryz.prog 171 [.v (.im false (qR a0)), .v (.s (.string a1))] _ _
 refine run3 Tryz.func171 (by rfl) (by rfl) (by cbv) ⟨by decide, rfl⟩ ?_
 intro ar cm bo sc sa sx ss sl bs sb ln sr ap up rp fr ge le lt nz mm ma sm fl al ci hL F hP hA hT hM hC
 refine Run.seq ?_
 refine Run.region hL hT [] (by cbv) hq0 ?_
 refine Run.seq ?_
 refine Run.region hL hT [] (by cbv) hq0 ?_
 rw [show ln (qR a0) = qvB a0 from ln_eq Str_c _]
 refine Run.seq ?_
 refine Run.region hL hT [] (by cbv) hq0 ?_
 obtain ⟨K2, h_K2, h⟩ := joinE h
 refine Run.join1 K2 (r := r) (fun (y1 : Int) => ⟨54, 100000, [(0, .t (.im false (qR a0))), (1, .t (.s (.string a1))), (6, .t (.s (.int .i64 (qvB a0)))), (7, .t (.s (.int .i64 y1)))], []⟩) ?_ ?_
 ·
  skip
  refine Run.block ?_
  refine Run.loop2 (fun (z8 : Int) (z9 : Int) => ⟨54, 100000, [(0, .t (.im false (qR a0))), (1, .t (.s (.string a1))), (6, .t (.s (.int .i64 (qvB a0)))), (7, .t (.s (.int .i64 z8))), (8, .t (.s (.int .i64 z9)))], []⟩) (x0 := 0) (x1 := (qvB a0)) h (Weak.of _ [] hA (by cbv) ?_) (fun _ _ => rfl) ?_
  · repeat (first | exact hq0 | refine hq (by first | exact Tt | rfl) ?_)
  intro k z8 z9 h
  rw [qd.l0] at h
  refine Run.seq ?_
  refine Run.seq ?_
  refine Run.region hL hT [] (by cbv) ?_ ?_
  · exact (hq Tt hq0)
  refine Run.cond (by cbv) (hq0) (fun c10 => ?_) (fun c10 => ?_)
  ·
   have h := if_t c10 h
   refine Run.skip ?_
   refine Run.block ?_
   refine Run.seq ?_
   refine Run.region hL hT [] (by cbv) ?_ ?_
   · exact (hq Tt (hq Tt (hq Tt (hq (by decide : (0 : Int) ≤ 1) (hq (by decide : (1 : Int) < 64) hq0)))))
   refine Run.seq ?_
   obtain ⟨x11, h_x11, h⟩ := bnd h
   obtain ⟨r12, h_r12, h⟩ := bnd h
   refine Run.region hL hT [(2, .el [.s (.string x11)]), (5, .call [false, false] [.v (.jk), .v (.jk)] [.v (.s (.bool r12))])] (by cbv) ?_ ?_
   · exact (hq (qP h_x11) (hq (qe (f := Str_c) h_x11) (hq (qw (f := Str_c) h_x11) (hq (hC (qpJ h_r12)) hq0))))
   refine Run.cond (by cbv) (hq0) (fun c13 => ?_) (fun c13 => ?_)
   ·
    have h := if_t c13 h
    refine Run.region hL hT [] (by cbv) ?_ ?_
    · exact (hq Tt hq0)
    refine ⟨(ar .add .i64 (ar .or .i64 (ar .shr .u64 (ar .or .u64 (ar .add .i64 z8 z9) 0) 1) 0) 1), z9, h, Weak.of _ [] hA (by cbv) ?_⟩
    repeat (first | exact hq0 | refine hq (by first | exact Tt | rfl) ?_)
   have h := if_f c13 h
   refine Run.region hL hT [] (by cbv) hq0 ?_
   refine ⟨z8, (ar .or .i64 (ar .shr .u64 (ar .or .u64 (ar .add .i64 z8 z9) 0) 1) 0), h, Weak.of _ [] hA (by cbv) ?_⟩
   repeat (first | exact hq0 | refine hq (by first | exact Tt | rfl) ?_)
  have h := if_f c10 h
  refine Run.exit ?_
  refine ⟨z8, h, Weak.of _ [] hA (by cbv) ?_⟩
  repeat (first | exact hq0 | refine hq (by first | exact Tt | rfl) ?_)
 intro y1 h
 rw [h_K2] at h
 refine Run.seq ?_
 obtain ⟨x14, h_x14, h⟩ := bnd h
 obtain ⟨x15, h_x15, h⟩ := bnd h
 obtain ⟨r16, h_r16, h⟩ := bnd h
 obtain ⟨r17, h_r17, h⟩ := bnd h
 refine Run.region hL hT [(7, .el [.s (.string x14)]), (14, .el [.s (.string x15)]), (16, .call [false] [.v (.jk)] [.v (.s (.bool r16))]), (19, .call [false] [.v (.jk)] [.v (.s (.bool r17))])] (by cbv) ?_ ?_
 · exact (hq Tt (hq (fun _ => hq0) (hq (fun _ => hq0) (hq (fun g20 => (hq g20 (hq g20 (hq (qP (gd_t h_x14 g20)) (hq (qe (f := Str_c) (gd_t h_x14 g20)) (hq (qw (f := Str_c) (gd_t h_x14 g20)) hq0)))))) (hq (fun g21 => (hq g21 hq0)) (hq (fun _ => hq0) (hq (fun g23 => (hq g23 (hq g23 hq0))) (hq (fun g24 => (hq g24 hq0)) (hq (fun _ => hq0) (hq (fun _ => hq0) (hq (fun g27 => (hq g27 (hq g27 (hq (qP (gd_t h_x15 g27)) (hq (qe (f := Str_c) (gd_t h_x15 g27)) (hq (qw (f := Str_c) (gd_t h_x15 g27)) hq0)))))) (hq (fun g28 => (hq g28 hq0)) (hq (fun g29 => (hq g29 (hq (hC (qIF (gd_t h_r16 g29))) hq0))) (hq (fun g30 => (hq g30 hq0)) (hq (fun _ => hq0) (hq (fun g32 => (hq g32 (hq (hC (qIF (gd_t h_r17 g32))) hq0))) (hq (fun g33 => (hq g33 (hq (fun q34 => (hq (bo_a g33 q34) hq0)) (hq (fun _ => hq0) hq0)))) (hq (fun g36 => (hq g36 (hq (fun _ => hq0) (hq (fun q38 => (hq (bo_a g36 (bo_m q38)) hq0)) hq0)))) (hq (fun q39 => (hq q39 hq0)) (hq (fun _ => hq0) hq0))))))))))))))))))))
 refine Run.ret ?_
 cases h
 refine ⟨_, _, by cbv, ?_, ?_⟩
 · exact LLe.r
 exact (ALe.v LLe.r (ALe.v LLe.r ALe.nil))
set_option maxHeartbeats 4000000 in
set_option maxRecDepth 100000 in
theorem qvG (w : World) (g2 c2 : Nat)
 (v' : Value) (w' : World) (hrun : (Builtin.append_ #[44, 44] 44 #[.slice none 0 0, .slice (some ⟨g2, 0, none⟩) 1 c2]).run Tryz.prog w = .ok v' w') :
 Calls Tryz.prog 172 #[.slice none 0 0, .int .i64 0, .slice (some ⟨g2, 0, none⟩) 1 c2] w fun ex w2 => ex = .returned v' ∧ w2 = w' := by
 go_enter Tryz.func172, Tryz.ntmps172
 go_wp2_with (at_builtin; refine qxD rfl (qKF rfl rfl rfl hrun) ?_)
 all_goals go_ret
 all_goals exact ⟨rfl, rfl⟩
set_option maxHeartbeats 4000000 in
set_option maxRecDepth 100000 in
theorem qKH (w : World) (g c g2 c2 n : Nat) (hnc : n ≤ c)
 (v' : Value) (w' : World) (hrun : (Builtin.append_ #[44, 44] 44 #[.slice (some ⟨g, 0, none⟩) n c, .slice (some ⟨g2, 0, none⟩) 1 c2]).run Tryz.prog w = .ok v' w') :
 Calls Tryz.prog 172 #[.slice (some ⟨g, 0, none⟩) n c, .int .i64 n, .slice (some ⟨g2, 0, none⟩) 1 c2] w fun ex w2 => ex = .returned v' ∧ w2 = w' := by
 go_enter Tryz.func172, Tryz.ntmps172
 go_wp2_with (at_builtin; refine qxD rfl (qKF rfl rfl rfl hrun) ?_)
 all_goals go_ret
 all_goals exact ⟨rfl, rfl⟩
set_option maxHeartbeats 4000000 in
set_option maxRecDepth 100000 in
theorem qfH (w : World) (g c g2 c2 n i : Nat) (cur cur2 A B : Array Value) (hi : i < n) (hroom : n + 1 ≤ c) (hc63 : c ≤ maxLen) (hne : g2 ≠ g) (hg : w.heap[g]? = some (.cells cur 9 (0, 0))) (hcs : cur.size = c * 1) (hg2 : w.heap[g2]? = some (.cells cur2 9 (0, 0)))
 (hcp1 : ∀ ty dc sc, (Builtin.copy_ #[44, 44] ty #[.slice (some ⟨g, i + 1, none⟩) (n + 1 - (i + 1)) dc, .slice (some ⟨g, i, none⟩) (n + 1 - i) sc]).run Tryz.prog w.drew = .ok (goInt (n - i : Nat)) (w.drew.setRow g A))
 (hcp2 : ∀ ty dc, (Builtin.copy_ #[44, 44] ty #[.slice (some ⟨g, i, none⟩) (n + 1 - i) dc, .slice (some ⟨g2, 0, none⟩) 1 c2]).run Tryz.prog (w.drew.setRow g A) = .ok (goInt (1 : Nat)) ((w.drew.setRow g A).setRow g B)) :
 Calls Tryz.prog 172 #[.slice (some ⟨g, 0, none⟩) n c, .int .i64 i, .slice (some ⟨g2, 0, none⟩) 1 c2] w fun ex w2 => ex = .returned (.slice (some ⟨g, 0, none⟩) (n + 1) c) ∧ w2 = (w.drew.setRow g A).setRow g B := by
 have mixed := mixed
 have TE : TyOk Tryz.prog 9 _ := qlG 9 _ rfl
 have TS : TyOk Tryz.prog 44 _ := qlG 44 _ rfl
 obtain ⟨ti, hti, htz, htb, _⟩ := TE.info
 have u92 := TS.isS rfl
 have hz1 : ¬ ((1 : Int) = 0) := by omega
 have hz2 : ¬ ((i : Int) = (n : Int)) := by omega
 have hw1 : IntKind.i64.wrap ((i : Int) + (1 : Int)) = (i : Int) + (1 : Int) := by unfold maxLen at hc63; rw [IntKind.wrap_i64]; omega
 have hw2 : IntKind.i64.wrap ((n : Int) + (1 : Int)) = (n : Int) + (1 : Int) := by unfold maxLen at hc63; rw [IntKind.wrap_i64]; omega
 have hb1 : (0 : Int) ≤ (i : Int) + (1 : Int) := by omega
 have hin : i ≤ n := by omega
 have htn : ((i : Int) + (1 : Int)).toNat = i + 1 := by omega
 have hb2 : ¬ (c = i + 1) := by omega
 have hb3 : (i : Int) ≤ (n : Int) + (1 : Int) := by omega
 have hb4 : ¬ (c = i) := by omega
 have hov : ∀ lb cb o, (callFunc 182 #[.slice (some ⟨g2, 0, none⟩) 1 c2, .slice (some ⟨g, o, none⟩) lb cb]).run Tryz.prog w = .ok (.value (.bool false)) w := fun lb cb o => by
  rw [run_callFunc_extern Tryz.func182 (by kernel_rfl) (by kernel_rfl) (by kernel_rfl) (e := Extern.SlicesOverlaps.overlaps #[44, 44] #[4]) (by kernel_rfl),
   Lib.run_overlaps_apart w 44 4 9 u92 1 (fun w => by simp [sizeOf, typeInfo, hti, htz]) ⟨g2, 0, none⟩ ⟨g, o, none⟩ 1 c2 lb cb hne 9 9 cur2.size cur.size (by simp [World.shape?, hg2]) (by simp [World.shape?, hg]) (by omega) (by simp [World.frozen?, hg2]) (by simp [World.frozen?, hg2])]
  rfl
 go_enter Tryz.func172, Tryz.ntmps172
 go_wp2_with (simp only [hov])
 go_region_law_o (refine qVL rfl (qcF rfl (by simp [Act.eval, Act.put]; rfl) (by simp [Act.eval, Act.put]; rfl) (hcp1 _ _ _)) ?_)
 go_wp2_with (at_builtin; refine qxD rfl (qcF rfl rfl rfl (hcp2 _ _)) ?_)
 go_ret
 exact ⟨rfl, rfl⟩
set_option maxHeartbeats 4000000 in
set_option maxRecDepth 100000 in
theorem qwG (w : World) (g c g2 c2 n i G : Nat) (R A B : Array Value) (hi : i < n) (hnc : n ≤ c) (hroom : c < n + 1) (hc63 : n + 1 ≤ maxLen) (hG : n + 1 ≤ G) (hGm : G ≤ maxLen)
 (hrz : ∀ ty, (Builtin.append_ #[44, 3] ty #[.slice (some ⟨g, 0, none⟩) i c, .int .i64 ((n : Int) + 1 - i)]).run Tryz.prog w = .ok (.slice (some ⟨w.heap.size, 0, none⟩) (n + 1) G) (w.drew.alloc (.cells R 9)))
 (hcp2 : ∀ ty dc, (Builtin.copy_ #[44, 44] ty #[.slice (some ⟨w.heap.size, i, none⟩) (n + 1 - i) dc, .slice (some ⟨g2, 0, none⟩) 1 c2]).run Tryz.prog (w.alloc (.cells R 9)).drew = .ok (goInt (1 : Nat)) ((w.alloc (.cells R 9)).drew.setRow w.heap.size A))
 (hcp1 : ∀ ty dc sc, (Builtin.copy_ #[44, 44] ty #[.slice (some ⟨w.heap.size, i + 1, none⟩) (n + 1 - (i + 1)) dc, .slice (some ⟨g, i, none⟩) (n - i) sc]).run Tryz.prog ((w.alloc (.cells R 9)).drew.setRow w.heap.size A).drew = .ok (goInt (n - i : Nat)) (((w.alloc (.cells R 9)).drew.setRow w.heap.size A).drew.setRow w.heap.size B)) :
 Calls Tryz.prog 172 #[.slice (some ⟨g, 0, none⟩) n c, .int .i64 i, .slice (some ⟨g2, 0, none⟩) 1 c2] w fun ex w2 => ex = .returned (.slice (some ⟨w.heap.size, 0, none⟩) (n + 1) G) ∧ w2 = ((w.alloc (.cells R 9)).drew.setRow w.heap.size A).drew.setRow w.heap.size B := by
 have mixed := mixed
 have hz1 : ¬ ((1 : Int) = 0) := by omega
 have hz2 : ¬ ((i : Int) = (n : Int)) := by omega
 have hz3 : (c : Int) < (n : Int) + (1 : Int) := by omega
 have hw1 : IntKind.i64.wrap ((i : Int) + (1 : Int)) = (i : Int) + (1 : Int) := by unfold maxLen at hc63; rw [IntKind.wrap_i64]; omega
 have hw2 : IntKind.i64.wrap ((n : Int) + (1 : Int)) = (n : Int) + (1 : Int) := by unfold maxLen at hc63; rw [IntKind.wrap_i64]; omega
 have hw3 : IntKind.i64.wrap ((n : Int) + (1 : Int) - (i : Int)) = (n : Int) + (1 : Int) - (i : Int) := by unfold maxLen at hc63; rw [IntKind.wrap_i64]; omega
 have hb1 : (0 : Int) ≤ (i : Int) + (1 : Int) := by omega
 have hin : i ≤ n := by omega
 have htn : ((i : Int) + (1 : Int)).toNat = i + 1 := by omega
 have hGi : ¬ (G = i) := by omega
 have hGim : ¬ (G = i + 1) := by omega
 have hci : ¬ (c = i) := by omega
 have hb3 : (i : Int) ≤ (n : Int) := by omega
 go_enter Tryz.func172, Tryz.ntmps172
 go_wp2_with (first
  | (at_builtin; refine qxD rfl (qKF rfl rfl rfl (hrz _)) ?_)
  | (at_builtin; refine qxD rfl (qcF rfl rfl rfl (hcp2 _ _)) ?_))
 go_region_law_o (refine qVL rfl (qcF rfl (by simp [Act.eval, Act.put]; rfl) (by simp [Act.eval, Act.put]; rfl) (hcp1 _ _ _)) ?_)
 go_wp2
 go_ret
 exact ⟨rfl, rfl⟩
theorem qcG : Roads Tryz.prog 172 44 9 1 3 where
 end0 := fun w g2 c2 v' w' h => qvG w g2 c2 v' w' h
 end1 := fun w g c g2 c2 n v' w' hnc h => qKH w g c g2 c2 n hnc v' w' h
 inn := fun w g c g2 c2 n i cur cur2 A B h1 h2 h3 h4 h5 h6 h7 h8 h9 => qfH w g c g2 c2 n i cur cur2 A B h1 h2 h3 h4 h5 h6 h7 (by simpa using h8) (by simpa using h9)
 grow := fun w g c g2 c2 n i G R A B h1 h2 h3 h4 h5 h6 h7 h8 h9 => qwG w g c g2 c2 n i G R A B h1 h2 h3 h4 h5 h6 h7 (by simpa using h8) (by simpa using h9)
theorem qgH {a0 a2 : List ByteArray} {a1 : Int} {r : List ByteArray} (h : qWD.f a0 a1 a2 = some r) : AC Tryz.prog 172 [.v (.ow 9 (rowsOf Str_c a0)), .v (.s (.int .i64 a1)), .v (.ow 9 (rowsOf Str_c a2))] [.v .jk, .v .jk, .v .jk] [.v (.ow 9 (rowsOf Str_c r))] := by
 unfold qWD.f insO at h
 split at h
 ·
  rename_i hc
  obtain ⟨h1, c0, c1, c2, c3⟩ := hc
  obtain ⟨i, rfl⟩ : ∃ k : Nat, a1 = k := ⟨a1.toNat, by omega⟩
  obtain ⟨x, rfl⟩ := List.length_eq_one_iff.1 h1
  simp only [Option.some.injEq] at h
  subst h
  have hr : rowsOf Str_c (a0.take ((i : Nat) : Int).toNat ++ [x] ++ a0.drop ((i : Nat) : Int).toNat) = (rowsOf Str_c a0).take i ++ [Str_c x] ++ (rowsOf Str_c a0).drop i := by simp [rowsOf, List.map_take, List.map_drop]
  rw [hr]
  have hl := rowsOf_len Str_c a0
  simp only [List.length_singleton] at c2 c3
  exact AC.of_ins ⟨_, Tryz.func172, by rfl, by rfl⟩ (qSE (qlG 9 _ rfl)) (qcG.raw (qlG 44 _ rfl) rfl (qlG 9 _ rfl) (by simp) (qiI (qlG 3 _ rfl) rfl)) (by omega) (by rw [hl]; show (a0.length + 1) * 16 ≤ _; omega) (by omega)
 cases h
set_option maxHeartbeats 4000000 in
set_option maxRecDepth 100000 in
theorem quF (w : World) (g2 c2 : Nat)
 (v' : Value) (w' : World) (hrun : (Builtin.append_ #[43, 43] 43 #[.slice none 0 0, .slice (some ⟨g2, 0, none⟩) 1 c2]).run Tryz.prog w = .ok v' w') :
 Calls Tryz.prog 173 #[.slice none 0 0, .int .i64 0, .slice (some ⟨g2, 0, none⟩) 1 c2] w fun ex w2 => ex = .returned v' ∧ w2 = w' := by
 go_enter Tryz.func173, Tryz.ntmps173
 go_wp2_with (at_builtin; refine qxD rfl (qKF rfl rfl rfl hrun) ?_)
 all_goals go_ret
 all_goals exact ⟨rfl, rfl⟩
set_option maxHeartbeats 4000000 in
set_option maxRecDepth 100000 in
theorem qWG (w : World) (g c g2 c2 n : Nat) (hnc : n ≤ c)
 (v' : Value) (w' : World) (hrun : (Builtin.append_ #[43, 43] 43 #[.slice (some ⟨g, 0, none⟩) n c, .slice (some ⟨g2, 0, none⟩) 1 c2]).run Tryz.prog w = .ok v' w') :
 Calls Tryz.prog 173 #[.slice (some ⟨g, 0, none⟩) n c, .int .i64 n, .slice (some ⟨g2, 0, none⟩) 1 c2] w fun ex w2 => ex = .returned v' ∧ w2 = w' := by
 go_enter Tryz.func173, Tryz.ntmps173
 go_wp2_with (at_builtin; refine qxD rfl (qKF rfl rfl rfl hrun) ?_)
 all_goals go_ret
 all_goals exact ⟨rfl, rfl⟩
set_option maxHeartbeats 4000000 in
set_option maxRecDepth 100000 in
theorem qdG (w : World) (g c g2 c2 n i : Nat) (cur cur2 A B : Array Value) (hi : i < n) (hroom : n + 1 ≤ c) (hc63 : c ≤ maxLen) (hne : g2 ≠ g) (hg : w.heap[g]? = some (.cells cur 46 (0, 0))) (hcs : cur.size = c * 5) (hg2 : w.heap[g2]? = some (.cells cur2 46 (0, 0)))
 (hcp1 : ∀ ty dc sc, (Builtin.copy_ #[43, 43] ty #[.slice (some ⟨g, (i + 1) * 5, none⟩) (n + 1 - (i + 1)) dc, .slice (some ⟨g, i * 5, none⟩) (n + 1 - i) sc]).run Tryz.prog w.drew = .ok (goInt (n - i : Nat)) (w.drew.setRow g A))
 (hcp2 : ∀ ty dc, (Builtin.copy_ #[43, 43] ty #[.slice (some ⟨g, i * 5, none⟩) (n + 1 - i) dc, .slice (some ⟨g2, 0, none⟩) 1 c2]).run Tryz.prog (w.drew.setRow g A) = .ok (goInt (1 : Nat)) ((w.drew.setRow g A).setRow g B)) :
 Calls Tryz.prog 173 #[.slice (some ⟨g, 0, none⟩) n c, .int .i64 i, .slice (some ⟨g2, 0, none⟩) 1 c2] w fun ex w2 => ex = .returned (.slice (some ⟨g, 0, none⟩) (n + 1) c) ∧ w2 = (w.drew.setRow g A).setRow g B := by
 have mixed := mixed
 have TE : TyOk Tryz.prog 46 _ := qlG 46 _ rfl
 have TS : TyOk Tryz.prog 43 _ := qlG 43 _ rfl
 obtain ⟨ti, hti, htz, htb, _⟩ := TE.info
 have u92 := TS.isS rfl
 have hz1 : ¬ ((1 : Int) = 0) := by omega
 have hz2 : ¬ ((i : Int) = (n : Int)) := by omega
 have hw1 : IntKind.i64.wrap ((i : Int) + (1 : Int)) = (i : Int) + (1 : Int) := by unfold maxLen at hc63; rw [IntKind.wrap_i64]; omega
 have hw2 : IntKind.i64.wrap ((n : Int) + (1 : Int)) = (n : Int) + (1 : Int) := by unfold maxLen at hc63; rw [IntKind.wrap_i64]; omega
 have hb1 : (0 : Int) ≤ (i : Int) + (1 : Int) := by omega
 have hin : i ≤ n := by omega
 have htn : ((i : Int) + (1 : Int)).toNat = i + 1 := by omega
 have hb2 : ¬ (c = i + 1) := by omega
 have hb3 : (i : Int) ≤ (n : Int) + (1 : Int) := by omega
 have hb4 : ¬ (c = i) := by omega
 have hov : ∀ lb cb o, (callFunc 184 #[.slice (some ⟨g2, 0, none⟩) 1 c2, .slice (some ⟨g, o, none⟩) lb cb]).run Tryz.prog w = .ok (.value (.bool false)) w := fun lb cb o => by
  rw [run_callFunc_extern Tryz.func184 (by kernel_rfl) (by kernel_rfl) (by kernel_rfl) (e := Extern.SlicesOverlaps.overlaps #[43, 43] #[4]) (by kernel_rfl),
   Lib.run_overlaps_apart w 43 4 46 u92 5 (fun w => by simp [sizeOf, typeInfo, hti, htz]) ⟨g2, 0, none⟩ ⟨g, o, none⟩ 1 c2 lb cb hne 46 46 cur2.size cur.size (by simp [World.shape?, hg2]) (by simp [World.shape?, hg]) (by omega) (by simp [World.frozen?, hg2]) (by simp [World.frozen?, hg2])]
  rfl
 go_enter Tryz.func173, Tryz.ntmps173
 go_wp2_with (simp only [hov])
 go_region_law_o (refine qVL rfl (qcF rfl (by simp [Act.eval, Act.put]; rfl) (by simp [Act.eval, Act.put]; rfl) (hcp1 _ _ _)) ?_)
 go_wp2_with (at_builtin; refine qxD rfl (qcF rfl rfl rfl (hcp2 _ _)) ?_)
 go_ret
 exact ⟨rfl, rfl⟩
set_option maxHeartbeats 4000000 in
set_option maxRecDepth 100000 in
theorem qvF (w : World) (g c g2 c2 n i G : Nat) (R A B : Array Value) (hi : i < n) (hnc : n ≤ c) (hroom : c < n + 1) (hc63 : n + 1 ≤ maxLen) (hG : n + 1 ≤ G) (hGm : G ≤ maxLen)
 (hrz : ∀ ty, (Builtin.append_ #[43, 3] ty #[.slice (some ⟨g, 0, none⟩) i c, .int .i64 ((n : Int) + 1 - i)]).run Tryz.prog w = .ok (.slice (some ⟨w.heap.size, 0, none⟩) (n + 1) G) (w.drew.alloc (.cells R 46)))
 (hcp2 : ∀ ty dc, (Builtin.copy_ #[43, 43] ty #[.slice (some ⟨w.heap.size, i * 5, none⟩) (n + 1 - i) dc, .slice (some ⟨g2, 0, none⟩) 1 c2]).run Tryz.prog (w.alloc (.cells R 46)).drew = .ok (goInt (1 : Nat)) ((w.alloc (.cells R 46)).drew.setRow w.heap.size A))
 (hcp1 : ∀ ty dc sc, (Builtin.copy_ #[43, 43] ty #[.slice (some ⟨w.heap.size, (i + 1) * 5, none⟩) (n + 1 - (i + 1)) dc, .slice (some ⟨g, i * 5, none⟩) (n - i) sc]).run Tryz.prog ((w.alloc (.cells R 46)).drew.setRow w.heap.size A).drew = .ok (goInt (n - i : Nat)) (((w.alloc (.cells R 46)).drew.setRow w.heap.size A).drew.setRow w.heap.size B)) :
 Calls Tryz.prog 173 #[.slice (some ⟨g, 0, none⟩) n c, .int .i64 i, .slice (some ⟨g2, 0, none⟩) 1 c2] w fun ex w2 => ex = .returned (.slice (some ⟨w.heap.size, 0, none⟩) (n + 1) G) ∧ w2 = ((w.alloc (.cells R 46)).drew.setRow w.heap.size A).drew.setRow w.heap.size B := by
 have mixed := mixed
 have hz1 : ¬ ((1 : Int) = 0) := by omega
 have hz2 : ¬ ((i : Int) = (n : Int)) := by omega
 have hz3 : (c : Int) < (n : Int) + (1 : Int) := by omega
 have hw1 : IntKind.i64.wrap ((i : Int) + (1 : Int)) = (i : Int) + (1 : Int) := by unfold maxLen at hc63; rw [IntKind.wrap_i64]; omega
 have hw2 : IntKind.i64.wrap ((n : Int) + (1 : Int)) = (n : Int) + (1 : Int) := by unfold maxLen at hc63; rw [IntKind.wrap_i64]; omega
 have hw3 : IntKind.i64.wrap ((n : Int) + (1 : Int) - (i : Int)) = (n : Int) + (1 : Int) - (i : Int) := by unfold maxLen at hc63; rw [IntKind.wrap_i64]; omega
 have hb1 : (0 : Int) ≤ (i : Int) + (1 : Int) := by omega
 have hin : i ≤ n := by omega
 have htn : ((i : Int) + (1 : Int)).toNat = i + 1 := by omega
 have hGi : ¬ (G = i) := by omega
 have hGim : ¬ (G = i + 1) := by omega
 have hci : ¬ (c = i) := by omega
 have hb3 : (i : Int) ≤ (n : Int) := by omega
 go_enter Tryz.func173, Tryz.ntmps173
 go_wp2_with (first
  | (at_builtin; refine qxD rfl (qKF rfl rfl rfl (hrz _)) ?_)
  | (at_builtin; refine qxD rfl (qcF rfl rfl rfl (hcp2 _ _)) ?_))
 go_region_law_o (refine qVL rfl (qcF rfl (by simp [Act.eval, Act.put]; rfl) (by simp [Act.eval, Act.put]; rfl) (hcp1 _ _ _)) ?_)
 go_wp2
 go_ret
 exact ⟨rfl, rfl⟩
theorem qpF : Roads Tryz.prog 173 43 46 5 3 where
 end0 := fun w g2 c2 v' w' h => quF w g2 c2 v' w' h
 end1 := fun w g c g2 c2 n v' w' hnc h => qWG w g c g2 c2 n hnc v' w' h
 inn := fun w g c g2 c2 n i cur cur2 A B h1 h2 h3 h4 h5 h6 h7 h8 h9 => qdG w g c g2 c2 n i cur cur2 A B h1 h2 h3 h4 h5 h6 h7 h8 h9
 grow := fun w g c g2 c2 n i G R A B h1 h2 h3 h4 h5 h6 h7 h8 h9 => qvF w g c g2 c2 n i G R A B h1 h2 h3 h4 h5 h6 h7 h8 h9
theorem qeG {a0 a2 : List Json} {a1 : Int} {r : List Json} (h : qvC.f a0 a1 a2 = some r) : AC Tryz.prog 173 [.v (.ow 46 (rowsOf qnB a0)), .v (.s (.int .i64 a1)), .v (.ow 46 (rowsOf qnB a2))] [.v .jk, .v .jk, .v .jk] [.v (.ow 46 (rowsOf qnB r))] := by
 unfold qvC.f insO at h
 split at h
 ·
  rename_i hc
  obtain ⟨h1, c0, c1, c2, c3⟩ := hc
  obtain ⟨i, rfl⟩ : ∃ k : Nat, a1 = k := ⟨a1.toNat, by omega⟩
  obtain ⟨x, rfl⟩ := List.length_eq_one_iff.1 h1
  simp only [Option.some.injEq] at h
  subst h
  have hr : rowsOf qnB (a0.take ((i : Nat) : Int).toNat ++ [x] ++ a0.drop ((i : Nat) : Int).toNat) = (rowsOf qnB a0).take i ++ [qnB x] ++ (rowsOf qnB a0).drop i := by simp [rowsOf, List.map_take, List.map_drop]
  rw [hr]
  have hl := rowsOf_len qnB a0
  simp only [List.length_singleton] at c2 c3
  exact AC.of_ins ⟨_, Tryz.func173, by rfl, by rfl⟩ (qSE (qlG 46 _ rfl)) (qpF.raw (qlG 43 _ rfl) rfl (qlG 46 _ rfl) (by simp) (qiI (qlG 3 _ rfl) rfl)) (by omega) (by rw [hl]; show (a0.length + 1) * 80 ≤ _; omega) (by omega)
 cases h
theorem qyP {a0 : List ByteArray} {a1 : List Int} {r : Json} (h : qAD.f a0 a1 = some r) : AC Tryz.prog 164 [.v (.im false (rowsOf Str_c a0)), .v (.im false (rowsOf Int_c a1))] [.v (.jk), .v (.jk)] [.ag [.s (.int .i64 r.Kind), .s (.int .i64 r.N), .s (.string r.S), .ow 46 (rowsOf qnB r.List_), .ow 9 (rowsOf Str_c r.Names)]] := by
 unfold qAD.f at h
 let qB := rowsOf Int_c
 let qXB := rowsOf qnB
 let qR := rowsOf Str_c
 let qvB := @lenI ByteArray
 show AC Tryz.prog 164 [.v (.im false (qR a0)), .v (.im false (qB a1))] _ _
 refine run3 Tryz.func164 (by rfl) (by rfl) (by cbv) ⟨by decide, rfl⟩ ?_
 intro ar cm bo sc sa sx ss sl bs sb ln sr ap up rp fr ge le lt nz mm ma sm fl al ci hL F hP hA hT hM hC
 refine Run.seq ?_
 refine Run.region hL hT [] (by cbv) hq0 ?_
 refine Run.seq ?_
 refine Run.region hL hT [] (by cbv) ?_ ?_
 · exact (hq Tt hq0)
 refine Run.seq ?_
 refine Run.seq ?_
 refine Run.region hL hT [] (by cbv) hq0 ?_
 rw [show ln (qR a0) = qvB a0 from ln_eq Str_c _]
 refine Run.block ?_
 refine Run.loop3 (fun (z23 : List Json) (z24 : List ByteArray) (z25 : Int) => ⟨45, 100000, [(1, .t (.im false (qB a1))), (4, .pt 1 0 0), (5, .pt 2 0 0), (11, .t (.im false (qR a0))), (12, .t (.s (.int .i64 (qvB a0)))), (13, .t (.s (.int .i64 z25)))], [(1, .box 46 [.t (.s (.int .i64 0)), .t (.s (.int .i64 0)), .t (.s (.string ByteArray.empty)), .t (.s (.slice none 0 0)), .t (.s (.slice none 0 0))]), (2, .box 46 [.t (.s (.int .i64 5)), .t (.s (.int .i64 0)), .t (.s (.string ByteArray.empty)), .rf 3, .rf 4]), (3, .row 0 46 5 (qXB z23)), (4, .row 0 9 1 (qR z24))]⟩) (x0 := []) (x1 := []) (x2 := 0) h ((Weak.nilB (l := [.t (.s (.int .i64 5)), .t (.s (.int .i64 0)), .t (.s (.string ByteArray.empty))]) hT 4097 3 13288 46 rfl (by cbv) (by cbv) (by cbv)).trans ((Weak.nilB (l := [.t (.s (.int .i64 5)), .t (.s (.int .i64 0)), .t (.s (.string ByteArray.empty)), .rf 13288]) hT 4097 4 13289 9 rfl (by cbv) (by cbv) (by cbv)).trans (Weak.of _ [(1, 0), (2, 4097), (3, 13288), (4, 13289)] hA (by cbv) ?_))) (fun _ _ _ => rfl) ?_
 · repeat (first | exact hq0 | refine hq (by first | exact Tt | rfl) ?_)
 intro k z23 z24 z25 h
 rw [qAD.l0] at h
 refine Run.seq ?_
 refine Run.region hL hT [] (by cbv) ?_ ?_
 · exact (hq Tt hq0)
 refine Run.seq ?_
 refine Run.cond (by cbv) (hq0) (fun c26 => ?_) (fun c26 => ?_)
 ·
  have h := if_t c26 h
  refine Run.skip ?_
  refine Run.seq ?_
  refine Run.block ?_
  refine Run.seq ?_
  obtain ⟨x27, h_x27, h⟩ := bnd h
  refine Run.region hL hT [(1, .el [.s (.string x27)])] (by cbv) ?_ ?_
  · exact (hq (qP h_x27) (hq (qe (f := Str_c) h_x27) (hq (qw (f := Str_c) h_x27) hq0)))
  refine Run.seq ?_
  obtain ⟨⟨qVb, qWb⟩, h_r28, h⟩ := bnd h
  refine Run.region hL hT [(3, .call [false, false] [.v (.jk), .v (.jk)] [.v (.s (.int .i64 qVb)), .v (.s (.bool qWb))])] (by cbv) ?_ ?_
  · exact (hq Tt (hq (hC (AC.args (qoF h_r28) (ALe.v (LLe.im (RLe.eq (qAC qnF _))) (ALe.v LLe.r ALe.nil)))) hq0))
  refine Run.seq ?_
  obtain ⟨l29, h_l29, h⟩ := bnd h
  obtain ⟨r30, h_r30, h⟩ := bnd h
  refine Run.region hL hT [(5, .call [true, false, true] [.v (.jk), .v (.jk), .v (.jk)] [.v (.ow 9 (qR r30))])] (by cbv) ?_ ?_
  · exact (hq Tt (hq (hC (AC.args (qgH h_r30) (ALe.v LLe.r (ALe.v LLe.r (ALe.v (LLe.ow (qGB (f := Str_c) h_l29 (RLe.cons rfl LLe.r RLe.nil))) ALe.nil))))) (hq Tt hq0)))
  obtain ⟨x31, h_x31, h⟩ := bnd h
  obtain ⟨l32, h_l32, h⟩ := bnd h
  obtain ⟨r33, h_r33, h⟩ := bnd h
  refine Run.draw hL hT hM [(5, .el [.s (.int .i64 x31)]), (9, .call [true, false, true] [.v (.jk), .v (.jk), .v (.jk)] [.v (.ow 46 (qXB r33))])] (by cbv) (by cbv) (by cbv) (by cbv) (by cbv) ?_ ?_
  · exact (hq Tt (hq (qP h_x31) (hq (qe (f := Int_c) h_x31) (hq (qw (f := Int_c) h_x31) (hq (hC (AC.args (qeG h_r33) (ALe.v LLe.r (ALe.v LLe.r (ALe.v (LLe.ow (qeD qcH h_l32 (RLe.cons rfl (LLe.c (LLe.c (LLe.c (LLe.cons LLe.nilO (LLe.cons LLe.nilO LLe.nil))))) RLe.nil))) ALe.nil))))) (hq Tt hq0))))))
  refine Run.region hL hT [] (by cbv) ?_ ?_
  · exact (hq Tt hq0)
  refine ⟨r33, r30, (ar .add .i64 z25 1), h, Weak.of _ [(1, 1), (2, 2), (3, 116393), (4, 112293)] hA (by cbv) ?_⟩
  repeat (first | exact hq0 | refine hq (by first | exact Tt | rfl) ?_)
 have h := if_f c26 h
 refine Run.exit ?_
 refine Run.seq ?_
 refine Run.region hL hT [] (by cbv) ?_ ?_
 · exact (hq Tt (hq Tt hq0))
 refine Run.ret ?_
 cases h
 refine ⟨_, _, by cbv, ?_, ?_⟩
 · exact LLe.r
 exact (ALe.ag rfl LLe.r ALe.nil)
theorem qfN {qg : Int} {qa : List Cond} {qh : Int} {qCB : Bool} {qi : Int} {qp : List Int} {qDB : Bool} {qM : Int} {qY : Int} {qGC : Int} {qm : List Int} {a2 : Int} {r : Json} (h : qhC.f (Query.mk qg qa qh qCB qi qp qDB qM qY) (Row.mk qGC qm) a2 = some r) : AC Tryz.prog 147 [.ag [.s (.int .i64 qg), .im false (rowsOf qy qa), .s (.int .i64 qh), .s (.bool qCB), .s (.int .i64 qi), .im false (rowsOf Int_c qp), .s (.bool qDB), .s (.int .i64 qM), .s (.int .i64 qY)], .ag [.s (.int .i64 qGC), .im false (rowsOf Int_c qm)], .v (.s (.int .i64 a2))] [.ag [.jk, .jk, .jk, .jk, .jk, .jk, .jk, .jk, .jk], .ag [.jk, .jk], .v (.jk)] [.ag [.s (.int .i64 r.Kind), .s (.int .i64 r.N), .s (.string r.S), .ow 46 (rowsOf qnB r.List_), .ow 9 (rowsOf Str_c r.Names)]] := by
 unfold qhC.f at h
 let qK := rowsOf qy
 let qB := rowsOf Int_c
 let qXB := rowsOf qnB
 let qR := rowsOf Str_c
 let qZ := @lenI Int
 show AC Tryz.prog 147 [.ag [.s (.int .i64 qg), .im false (qK qa), .s (.int .i64 qh), .s (.bool qCB), .s (.int .i64 qi), .im false (qB qp), .s (.bool qDB), .s (.int .i64 qM), .s (.int .i64 qY)], .ag [.s (.int .i64 qGC), .im false (qB qm)], .v (.s (.int .i64 a2))] _ _
 refine run3 Tryz.func147 (by rfl) (by rfl) (by cbv) ⟨by decide, rfl⟩ ?_
 intro ar cm bo sc sa sx ss sl bs sb ln sr ap up rp fr ge le lt nz mm ma sm fl al ci hL F hP hA hT hM hC
 refine Run.seq ?_
 refine Run.region hL hT [] (by cbv) hq0 ?_
 refine Run.seq ?_
 obtain ⟨l1, h_l1, h⟩ := bnd h
 obtain ⟨l2, h_l2, h⟩ := bnd h
 refine Run.draw hL hT hM [] (by cbv) (by cbv) (by cbv) (by cbv) (by cbv) ?_ ?_
 · exact (hq Tt hq0)
 refine Run.row (rows := [[.s (.string (ByteArray.mk #[105, 100]))]]) 4096 (qR l1) (by cbv) (qGB (f := Str_c) h_l1 (RLe.cons rfl LLe.r RLe.nil)) ?_
 refine Run.row (rows := [[.s (.int .i64 qGC)]]) 4099 (qB l2) (by cbv) (qGB (f := Int_c) h_l2 (RLe.cons rfl LLe.r RLe.nil)) ?_
 obtain ⟨K5, h_K5, h⟩ := joinE h
 refine Run.join2 K5 (r := r) (fun (y3 : List ByteArray) (y4 : List Int) => ⟨55, 100000, [(2, .t (.s (.int .i64 a2))), (3, .pt 1 0 0), (6, .pt 2 0 0), (7, .rf 3), (8, .rf 4)], [(1, .box 32 [.t (.s (.int .i64 qg)), .t (.im false (qK qa)), .t (.s (.int .i64 qh)), .t (.s (.bool qCB)), .t (.s (.int .i64 qi)), .t (.im false (qB qp)), .t (.s (.bool qDB)), .t (.s (.int .i64 qM)), .t (.s (.int .i64 qY))]), (2, .box 46 [.t (.s (.int .i64 0)), .t (.s (.int .i64 0)), .t (.s (.string ByteArray.empty)), .t (.s (.slice none 0 0)), .t (.s (.slice none 0 0))]), (3, .row 0 9 1 (qR y3)), (4, .row 0 3 1 (qB y4))]⟩) ?_ ?_
 ·
  skip
  refine Run.seq ?_
  refine Run.region hL hT [] (by cbv) ?_ ?_
  · exact (hq Tt hq0)
  rw [show ln (qB qp) = qZ qp from ln_eq Int_c _]
  refine Run.block ?_
  refine Run.loop3 (fun (z26 : List ByteArray) (z27 : List Int) (z28 : Int) => ⟨55, 100000, [(2, .t (.s (.int .i64 a2))), (3, .pt 1 0 0), (4, .pt 2 0 0), (6, .pt 3 0 0), (7, .rf 4), (8, .rf 5), (16, .t (.im false (qB qp))), (17, .t (.s (.int .i64 (qZ qp)))), (18, .t (.s (.int .i64 z28)))], [(1, .box 32 [.t (.s (.int .i64 qg)), .t (.im false (qK qa)), .t (.s (.int .i64 qh)), .t (.s (.bool qCB)), .t (.s (.int .i64 qi)), .t (.im false (qB qp)), .t (.s (.bool qDB)), .t (.s (.int .i64 qM)), .t (.s (.int .i64 qY))]), (2, .box 56 [.t (.s (.int .i64 qGC)), .t (.im false (qB qm))]), (3, .box 46 [.t (.s (.int .i64 0)), .t (.s (.int .i64 0)), .t (.s (.string ByteArray.empty)), .t (.s (.slice none 0 0)), .t (.s (.slice none 0 0))]), (4, .row 0 9 1 (qR z26)), (5, .row 0 3 1 (qB z27))]⟩) (x0 := l1) (x1 := l2) (x2 := 0) h (Weak.of _ [(1, 0), (2, 1), (3, 2), (4, 4096), (5, 4099)] hA (by cbv) ?_) (fun _ _ _ => rfl) ?_
  · repeat (first | exact hq0 | refine hq (by first | exact Tt | rfl) ?_)
  intro k z26 z27 z28 h
  rw [qhC.l0] at h
  refine Run.seq ?_
  refine Run.region hL hT [] (by cbv) ?_ ?_
  · exact (hq Tt hq0)
  refine Run.seq ?_
  refine Run.cond (by cbv) (hq0) (fun c29 => ?_) (fun c29 => ?_)
  ·
   have h := if_t c29 h
   refine Run.skip ?_
   refine Run.seq ?_
   refine Run.block ?_
   refine Run.seq ?_
   obtain ⟨x30, h_x30, h⟩ := bnd h
   refine Run.region hL hT [(1, .el [.s (.int .i64 x30)])] (by cbv) ?_ ?_
   · exact (hq (qP h_x30) (hq (qe (f := Int_c) h_x30) (hq (qw (f := Int_c) h_x30) hq0)))
   refine Run.seq ?_
   refine Run.seq ?_
   obtain ⟨l31, h_l31, h⟩ := bnd h
   obtain ⟨r32, h_r32, h⟩ := bnd h
   refine Run.region hL hT [(5, .call [false, false] [.v (.jk), .v (.jk)] [.v (.s (.bool r32))])] (by cbv) ?_ ?_
   · exact (hq Tt (hq (cut_0 h_l31) (hq (cut_1 h_l31) (hq (cut_2 (f := Int_c) h_l31) (hq (qFZ qTa _) (hq (hC (AC.args (qqH h_r32) (ALe.v (LLe.im (RLe.eq (qLO Int_c h_l31))) (ALe.v LLe.r ALe.nil)))) hq0))))))
   rw [show sr (qB qp) 0 z28 = qB l31 from qLO Int_c h_l31]
   refine Run.cond (by cbv) (hq0) (fun c33 => ?_) (fun c33 => ?_)
   ·
    have h := if_t c33 h
    refine Run.exit ?_
    refine Run.region hL hT [] (by cbv) ?_ ?_
    · exact (hq Tt hq0)
    refine ⟨z26, z27, (ar .add .i64 z28 1), h, Weak.of _ [(1, 1), (2, 2), (3, 3), (4, 4), (5, 5)] hA (by cbv) ?_⟩
    repeat (first | exact hq0 | refine hq (by first | exact Tt | rfl) ?_)
   have h := if_f c33 h
   refine Run.skip ?_
   refine Run.seq ?_
   obtain ⟨r34, h_r34, h⟩ := bnd h
   obtain ⟨u35, h_u35, h⟩ := bnd h
   obtain ⟨l36, h_l36, h⟩ := bnd h
   obtain ⟨l37, h_l37, h⟩ := bnd h
   refine Run.region hL hT [(2, .call [false] [.v (.jk)] [.v (.s (.string r34))])] (by cbv) ?_ ?_
   · exact (hq (hC (qeN h_r34)) (hq (sm_t h_u35) (hq (qnC (P := Tryz.prog) (f := Str_c) RLe.r (qGB (f := Str_c) h_l36 (RLe.cons rfl LLe.r RLe.nil)) h_l37) hq0)))
   refine Run.row (rows := (ap (qR z26) ([[.s (.string (sa (ByteArray.mk #[99]) r34))]]))) 112293 (qR l37) (by cbv) (qmC (f := Str_c) RLe.r (qGB (f := Str_c) h_l36 (RLe.cons rfl LLe.r RLe.nil)) h_l37) ?_
   obtain ⟨r38, h_r38, h⟩ := bnd h
   obtain ⟨l39, h_l39, h⟩ := bnd h
   obtain ⟨l40, h_l40, h⟩ := bnd h
   refine Run.region hL hT [(3, .call [false, false] [.ag [.jk, .jk], .v (.jk)] [.v (.s (.int .i64 r38))])] (by cbv) ?_ ?_
   · exact (hq Tt (hq (hC (qsG h_r38)) (hq (qnC (P := Tryz.prog) (f := Int_c) RLe.r (qGB (f := Int_c) h_l39 (RLe.cons rfl LLe.r RLe.nil)) h_l40) hq0)))
   refine Run.row (rows := (ap (qB z27) ([[.s (.int .i64 r38)]]))) 116389 (qB l40) (by cbv) (qmC (f := Int_c) RLe.r (qGB (f := Int_c) h_l39 (RLe.cons rfl LLe.r RLe.nil)) h_l40) ?_
   refine Run.region hL hT [] (by cbv) ?_ ?_
   · exact (hq Tt hq0)
   refine ⟨l37, l40, (ar .add .i64 z28 1), h, Weak.of _ [(1, 1), (2, 2), (3, 3), (4, 112293), (5, 116389)] hA (by cbv) ?_⟩
   repeat (first | exact hq0 | refine hq (by first | exact Tt | rfl) ?_)
  have h := if_f c29 h
  refine Run.exit ?_
  refine ⟨z26, z27, h, Weak.of _ [(1, 1), (2, 3), (3, 4), (4, 5)] hA (by cbv) ?_⟩
  repeat (first | exact hq0 | refine hq (by first | exact Tt | rfl) ?_)
 intro y3 y4 h
 rw [h_K5] at h
 obtain ⟨K43, h_K43, h⟩ := joinE h
 refine Run.join2 K43 (r := r) (fun (y41 : List ByteArray) (y42 : List Int) => ⟨55, 100000, [(6, .pt 1 0 0), (7, .rf 2), (8, .rf 3)], [(1, .box 46 [.t (.s (.int .i64 0)), .t (.s (.int .i64 0)), .t (.s (.string ByteArray.empty)), .t (.s (.slice none 0 0)), .t (.s (.slice none 0 0))]), (2, .row 0 9 1 (qR y41)), (3, .row 0 3 1 (qB y42))]⟩) ?_ ?_
 ·
  skip
  refine Run.seq ?_
  refine Run.region hL hT [] (by cbv) ?_ ?_
  · exact (hq Tt hq0)
  refine Run.cond (by cbv) (hq0) (fun c44 => ?_) (fun c44 => ?_)
  ·
   have h := if_t c44 h
   refine Run.seq ?_
   obtain ⟨l45, h_l45, h⟩ := bnd h
   obtain ⟨l46, h_l46, h⟩ := bnd h
   refine Run.region hL hT [] (by cbv) ?_ ?_
   · exact (hq (qnC (P := Tryz.prog) (f := Str_c) RLe.r (qGB (f := Str_c) h_l45 (RLe.cons rfl LLe.r RLe.nil)) h_l46) hq0)
   refine Run.row (rows := (ap (qR y3) ([[.s (.string (ByteArray.mk #[107, 105, 100, 115]))]]))) 104098 (qR l46) (by cbv) (qmC (f := Str_c) RLe.r (qGB (f := Str_c) h_l45 (RLe.cons rfl LLe.r RLe.nil)) h_l46) ?_
   obtain ⟨l47, h_l47, h⟩ := bnd h
   obtain ⟨l48, h_l48, h⟩ := bnd h
   refine Run.region hL hT [] (by cbv) ?_ ?_
   · exact (hq (qnC (P := Tryz.prog) (f := Int_c) RLe.r (qGB (f := Int_c) h_l47 (RLe.cons rfl LLe.r RLe.nil)) h_l48) hq0)
   refine ⟨l46, l48, h, (Weak.row (rows := (ap (qB y4) ([[.s (.int .i64 a2)]]))) 108195 (qB l48) (by cbv) (qmC (f := Int_c) RLe.r (qGB (f := Int_c) h_l47 (RLe.cons rfl LLe.r RLe.nil)) h_l48)).trans (Weak.of _ [(1, 2), (2, 104098), (3, 108195)] hA (by cbv) ?_)⟩
   repeat (first | exact hq0 | refine hq (by first | exact Tt | rfl) ?_)
  have h := if_f c44 h
  refine Run.skip ?_
  refine ⟨y3, y4, h, Weak.of _ [(1, 2), (2, 3), (3, 4)] hA (by cbv) ?_⟩
  repeat (first | exact hq0 | refine hq (by first | exact Tt | rfl) ?_)
 intro y41 y42 h
 rw [h_K43] at h
 refine Run.seq ?_
 obtain ⟨⟨qqJ, qhT, qiT, qaI, qbI⟩, h_r49, h⟩ := bnd h
 obtain ⟨⟨qtW, qXb, qYb, qgU, qhU⟩, h_r50, h⟩ := bnd h
 refine Run.region hL hT [(2, .call [false, false] [.v (.jk), .v (.jk)] [.ag [.s (.int .i64 qqJ), .s (.int .i64 qhT), .s (.string qiT), .ow 46 (qXB qaI), .ow 9 (qR qbI)]]), (3, .call [true] [.ag [.jk, .jk, .jk, .jk, .jk]] [.ag [.s (.int .i64 qtW), .s (.int .i64 qXb), .s (.string qYb), .ow 46 (qXB qgU), .ow 9 (qR qhU)]])] (by cbv) ?_ ?_
 · exact (hq (hC (AC.args (qyP h_r49) (ALe.v (LLe.im (RLe.eq (qAC qnF _))) (ALe.v (LLe.im (RLe.eq (qAC qwC _))) ALe.nil)))) (hq (hC (qnI h_r50)) (hq Tt hq0)))
 refine Run.ret ?_
 cases h
 refine ⟨_, _, by cbv, ?_, ?_⟩
 · exact LLe.r
 exact (ALe.ag rfl LLe.r ALe.nil)
theorem qvM {qg : Int} {qa : List Cond} {qh : Int} {qCB : Bool} {qi : Int} {qp : List Int} {qDB : Bool} {qM : Int} {qY : Int} {a1 : List Row} {a2 : List Int} {r : (List Json)} (h : qpC.f (Query.mk qg qa qh qCB qi qp qDB qM qY) a1 a2 = some r) : AC Tryz.prog 116 [.ag [.s (.int .i64 qg), .im false (rowsOf qy qa), .s (.int .i64 qh), .s (.bool qCB), .s (.int .i64 qi), .im false (rowsOf Int_c qp), .s (.bool qDB), .s (.int .i64 qM), .s (.int .i64 qY)], .v (.im false (rowsOf Row_i a1)), .v (.im false (rowsOf Int_c a2))] [.ag [.jk, .jk, .jk, .jk, .jk, .jk, .jk, .jk, .jk], .v (.jk), .v (.jk)] [.v (.ow 46 (rowsOf qnB r))] := by
 unfold qpC.f at h
 let qK := rowsOf qy
 let qB := rowsOf Int_c
 let qXB := rowsOf qnB
 let qZB := rowsOf Row_i
 let qR := rowsOf Str_c
 let qZ := @lenI Int
 let qS := @lenI Row
 show AC Tryz.prog 116 [.ag [.s (.int .i64 qg), .im false (qK qa), .s (.int .i64 qh), .s (.bool qCB), .s (.int .i64 qi), .im false (qB qp), .s (.bool qDB), .s (.int .i64 qM), .s (.int .i64 qY)], .v (.im false (qZB a1)), .v (.im false (qB a2))] _ _
 refine run3 Tryz.func116 (by rfl) (by rfl) (by cbv) ⟨by decide, rfl⟩ ?_
 intro ar cm bo sc sa sx ss sl bs sb ln sr ap up rp fr ge le lt nz mm ma sm fl al ci hL F hP hA hT hM hC
 refine Run.seq ?_
 refine Run.region hL hT [] (by cbv) hq0 ?_
 refine Run.seq ?_
 refine Run.region hL hT [] (by cbv) hq0 ?_
 refine Run.seq ?_
 refine Run.seq ?_
 obtain ⟨r1, h_r1, h⟩ := bnd h
 obtain ⟨l2, h_l2, h⟩ := bnd h
 refine Run.region hL hT [(4, .call [false, false] [.ag [.jk, .jk, .jk, .jk, .jk, .jk, .jk, .jk, .jk], .v (.jk)] [.v (.s (.int .i64 r1))])] (by cbv) ?_ ?_
 · exact (hq Tt (hq (by rw [show ln (qZB a1) = qS a1 from ln_eq Row_i _]; exact (hC (qrM h_r1))) (hq (cut_0 h_l2) (hq (cut_1 h_l2) (hq (cut_2 (f := Row_i) h_l2) (hq (qFZ qUa _) hq0))))))
 rw [show sr (qZB a1) 0 r1 = qZB l2 from qLO Row_i h_l2]
 rw [show ln (qZB a1) = qS a1 from ln_eq Row_i _]
 rw [show ln (qZB l2) = qS l2 from ln_eq Row_i _]
 refine Run.block ?_
 refine Run.loop2 (fun (z17 : List Json) (z18 : Int) => ⟨41, 100000, [(2, .t (.im false (qB a2))), (3, .pt 1 0 0), (7, .rf 2), (17, .t (.im false (qZB l2))), (18, .t (.s (.int .i64 (qS l2)))), (19, .t (.s (.int .i64 z18)))], [(1, .box 32 [.t (.s (.int .i64 qg)), .t (.im false (qK qa)), .t (.s (.int .i64 qh)), .t (.s (.bool qCB)), .t (.s (.int .i64 qi)), .t (.im false (qB qp)), .t (.s (.bool qDB)), .t (.s (.int .i64 qM)), .t (.s (.int .i64 qY))]), (2, .row 0 46 5 (qXB z17))]⟩) (x0 := []) (x1 := 0) h (Weak.of _ [(1, 0), (2, 4096)] hA (by cbv) ?_) (fun _ _ => rfl) ?_
 · repeat (first | exact hq0 | refine hq (by first | exact Tt | rfl) ?_)
 intro k z17 z18 h
 rw [qpC.l0] at h
 refine Run.seq ?_
 refine Run.region hL hT [] (by cbv) ?_ ?_
 · exact (hq Tt hq0)
 refine Run.seq ?_
 refine Run.cond (by cbv) (hq0) (fun c19 => ?_) (fun c19 => ?_)
 ·
  have h := if_t c19 h
  refine Run.skip ?_
  refine Run.seq ?_
  refine Run.block ?_
  refine Run.seq ?_
  obtain ⟨⟨quW, qeO⟩, h_x20, h⟩ := bnd h
  refine Run.region hL hT [(1, .el [.s (.int .i64 quW), .im false (qB qeO)])] (by cbv) ?_ ?_
  · exact (hq (qP h_x20) (hq (qe (f := Row_i) h_x20) (hq (qw (f := Row_i) h_x20) (hq Tt hq0))))
  refine Run.seq ?_
  refine Run.region hL hT [] (by cbv) hq0 ?_
  obtain ⟨K22, h_K22, h⟩ := joinE h
  refine Run.join1 K22 (r := r) (fun (y21 : Int) => ⟨41, 100000, [(2, .t (.im false (qB a2))), (3, .pt 1 0 0), (7, .rf 2), (9, .pt 3 0 0), (10, .t (.s (.int .i64 y21))), (17, .t (.im false (qZB l2))), (18, .t (.s (.int .i64 (qS l2)))), (19, .t (.s (.int .i64 z18)))], [(1, .box 32 [.t (.s (.int .i64 qg)), .t (.im false (qK qa)), .t (.s (.int .i64 qh)), .t (.s (.bool qCB)), .t (.s (.int .i64 qi)), .t (.im false (qB qp)), .t (.s (.bool qDB)), .t (.s (.int .i64 qM)), .t (.s (.int .i64 qY))]), (2, .row 0 46 5 (qXB z17)), (3, .box 56 [.t (.s (.int .i64 quW)), .t (.im false (qB qeO))])]⟩) ?_ ?_
  ·
   skip
   refine Run.seq ?_
   refine Run.region hL hT [] (by cbv) ?_ ?_
   · exact (hq Tt hq0)
   rw [show ln (qB a2) = qZ a2 from ln_eq Int_c _]
   refine Run.cond (by cbv) (hq0) (fun c23 => ?_) (fun c23 => ?_)
   ·
    have h := if_t c23 h
    obtain ⟨x24, h_x24, h⟩ := bnd h
    refine Run.region hL hT [(2, .el [.s (.int .i64 x24)])] (by cbv) ?_ ?_
    · exact (hq (qP h_x24) (hq (qe (f := Int_c) h_x24) (hq (qw (f := Int_c) h_x24) hq0)))
    refine ⟨x24, h, Weak.of _ [(1, 1), (2, 2), (3, 104099)] hA (by cbv) ?_⟩
    repeat (first | exact hq0 | refine hq (by first | exact Tt | rfl) ?_)
   have h := if_f c23 h
   refine Run.skip ?_
   refine ⟨0, h, Weak.of _ [(1, 1), (2, 2), (3, 104099)] hA (by cbv) ?_⟩
   repeat (first | exact hq0 | refine hq (by first | exact Tt | rfl) ?_)
  intro y21 h
  rw [h_K22] at h
  obtain ⟨⟨qhR, qRZ, qSZ, qfO, qgO⟩, h_r25, h⟩ := bnd h
  obtain ⟨l26, h_l26, h⟩ := bnd h
  obtain ⟨l27, h_l27, h⟩ := bnd h
  refine Run.region hL hT [(4, .call [false, false, false] [.ag [.jk, .jk, .jk, .jk, .jk, .jk, .jk, .jk, .jk], .ag [.jk, .jk], .v (.jk)] [.ag [.s (.int .i64 qhR), .s (.int .i64 qRZ), .s (.string qSZ), .ow 46 (qXB qfO), .ow 9 (qR qgO)]])] (by cbv) ?_ ?_
  · exact (hq Tt (hq Tt (hq (hC (qfN h_r25)) (hq (qnC (P := Tryz.prog) (f := qnB) RLe.r (qeD qcH h_l26 (RLe.cons rfl LLe.r RLe.nil)) h_l27) hq0))))
  refine Run.row (rows := (ap (qXB z17) ([[.s (.int .i64 qhR), .s (.int .i64 qRZ), .s (.string qSZ), .ow 46 (qXB qfO), .ow 9 (qR qgO)]]))) 100006 (qXB l27) (by cbv) (qmC (f := qnB) RLe.r (qeD qcH h_l26 (RLe.cons rfl LLe.r RLe.nil)) h_l27) ?_
  refine Run.region hL hT [] (by cbv) ?_ ?_
  · exact (hq Tt hq0)
  refine ⟨l27, (ar .add .i64 z18 1), h, Weak.of _ [(1, 1), (2, 100006)] hA (by cbv) ?_⟩
  repeat (first | exact hq0 | refine hq (by first | exact Tt | rfl) ?_)
 have h := if_f c19 h
 refine Run.exit ?_
 refine Run.seq ?_
 refine Run.region hL hT [] (by cbv) hq0 ?_
 refine Run.ret ?_
 cases h
 refine ⟨_, _, by cbv, ?_, ?_⟩
 · exact LLe.r
 exact (ALe.v LLe.r ALe.nil)
theorem qwM {qO : Int} {a0v_N : Int} {a0v_S : ByteArray} {qD : List Json} {qF : List ByteArray} {r : Bool} (h : qiG.f (Json.mk qO a0v_N a0v_S qD qF) = some r) : AC Tryz.prog 118 [.ag [.s (.int .i64 qO), .s (.int .i64 a0v_N), .s (.string a0v_S), .im false (rowsOf ql qD), .im false (rowsOf Str_c qF)]] [.ag [.jk, .jk, .jk, .jk, .jk]] [.v (.s (.bool r))] := by
 unfold qiG.f at h
 let qj := rowsOf ql
 let qR := rowsOf Str_c
 show AC Tryz.prog 118 [.ag [.s (.int .i64 qO), .s (.int .i64 a0v_N), .s (.string a0v_S), .im false (qj qD), .im false (qR qF)]] _ _
 refine run3 Tryz.func118 (by rfl) (by rfl) (by cbv) ⟨by decide, rfl⟩ ?_
 intro ar cm bo sc sa sx ss sl bs sb ln sr ap up rp fr ge le lt nz mm ma sm fl al ci hL F hP hA hT hM hC
 refine Run.seq ?_
 refine Run.region hL hT [] (by cbv) hq0 ?_
 refine Run.seq ?_
 refine Run.region hL hT [] (by cbv) ?_ ?_
 · exact (hq Tt (hq Tt hq0))
 refine Run.ret ?_
 cases h
 refine ⟨_, _, by cbv, ?_, ?_⟩
 · exact LLe.r
 exact (ALe.v LLe.r ALe.nil)
theorem qjD {a0 : List Json} {r : Int} (h : qX.f a0 = some r) : AC Tryz.prog 148 [.v (.im false (rowsOf ql a0)), .v (.fn 118 [])] [.v (.jk), .v (.jk)] [.v (.s (.int .i64 r))] := by
 unfold qX.f at h
 let qj := rowsOf ql
 let qR := rowsOf Str_c
 let qV := @lenI Json
 show AC Tryz.prog 148 [.v (.im false (qj a0)), .v (.fn 118 [])] _ _
 refine run3 Tryz.func148 (by rfl) (by rfl) (by cbv) ⟨by decide, rfl⟩ ?_
 intro ar cm bo sc sa sx ss sl bs sb ln sr ap up rp fr ge le lt nz mm ma sm fl al ci hL F hP hA hT hM hC
 refine Run.weak ?_ (Weak.fnT 1 (by cbv))
 refine Run.seq ?_
 refine Run.region hL hT [] (by cbv) hq0 ?_
 refine Run.seq ?_
 refine Run.seq ?_
 refine Run.region hL hT [] (by cbv) hq0 ?_
 rw [show ln (qj a0) = qV a0 from ln_eq ql _]
 refine Run.block ?_
 refine Run.loop1 (fun (z4 : Int) => ⟨19, 100000, [(0, .t (.im false (qj a0))), (1, .fn 118 []), (7, .t (.s (.int .i64 (qV a0)))), (8, .t (.s (.int .i64 z4)))], []⟩) (x0 := 0) h (Weak.of _ [] hA (by cbv) ?_) (fun _ => rfl) ?_
 · repeat (first | exact hq0 | refine hq (by first | exact Tt | rfl) ?_)
 intro k z4 h
 rw [qX.l0] at h
 refine Run.seq ?_
 refine Run.region hL hT [] (by cbv) ?_ ?_
 · exact (hq Tt hq0)
 refine Run.seq ?_
 refine Run.cond (by cbv) (hq0) (fun c5 => ?_) (fun c5 => ?_)
 ·
  have h := if_t c5 h
  refine Run.skip ?_
  refine Run.seq ?_
  refine Run.block ?_
  refine Run.seq ?_
  refine Run.region hL hT [] (by cbv) hq0 ?_
  refine Run.seq ?_
  obtain ⟨⟨qpY, x6v_N, x6v_S, qvW, qwW⟩, h_x6, h⟩ := bnd h
  obtain ⟨r7, h_r7, h⟩ := bnd h
  refine Run.region hL hT [(3, .el [.s (.int .i64 qpY), .s (.int .i64 x6v_N), .s (.string x6v_S), .im false (qj qvW), .im false (qR qwW)]), (5, .call [false] [.ag [.jk, .jk, .jk, .jk, .jk]] [.v (.s (.bool r7))])] (by cbv) ?_ ?_
  · exact (hq (qP h_x6) (hq (qe (f := ql) h_x6) (hq (qzH qcE h_x6) (hq (hC (qwM h_r7)) hq0))))
  refine Run.cond (by cbv) (hq0) (fun c8 => ?_) (fun c8 => ?_)
  ·
   have h := if_t c8 h
   refine Run.seq ?_
   refine Run.region hL hT [] (by cbv) hq0 ?_
   refine Run.ret ?_
   cases h
   refine ⟨_, _, by cbv, ?_, ?_⟩
   · exact LLe.r
   exact (ALe.v LLe.r ALe.nil)
  have h := if_f c8 h
  refine Run.skip ?_
  refine Run.region hL hT [] (by cbv) ?_ ?_
  · exact (hq Tt hq0)
  refine ⟨(ar .add .i64 z4 1), h, Weak.of _ [] hA (by cbv) ?_⟩
  repeat (first | exact hq0 | refine hq (by first | exact Tt | rfl) ?_)
 have h := if_f c5 h
 refine Run.exit ?_
 refine Run.seq ?_
 refine Run.region hL hT [] (by cbv) hq0 ?_
 refine Run.ret ?_
 cases h
 refine ⟨_, _, by cbv, ?_, ?_⟩
 · exact LLe.r
 exact (ALe.v LLe.r ALe.nil)
theorem qVD {a0 : List Json} {r : Bool} (h : qPB.f a0 = some r) : AC Tryz.prog 117 [.v (.im false (rowsOf ql a0)), .v (.fn 118 [])] [.v (.jk), .v (.jk)] [.v (.s (.bool r))] := by
 unfold qPB.f at h
 let qj := rowsOf ql
 show AC Tryz.prog 117 [.v (.im false (qj a0)), .v (.fn 118 [])] _ _
 refine run3 Tryz.func117 (by rfl) (by rfl) (by cbv) ⟨by decide, rfl⟩ ?_
 intro ar cm bo sc sa sx ss sl bs sb ln sr ap up rp fr ge le lt nz mm ma sm fl al ci hL F hP hA hT hM hC
 refine Run.weak ?_ (Weak.fnT 1 (by cbv))
 refine Run.seq ?_
 refine Run.region hL hT [] (by cbv) hq0 ?_
 refine Run.seq ?_
 obtain ⟨r1, h_r1, h⟩ := bnd h
 refine Run.region hL hT [(2, .call [false, false] [.v (.jk), .v (.jk)] [.v (.s (.int .i64 r1))])] (by cbv) ?_ ?_
 · exact (hq (hC (qjD h_r1)) (hq Tt hq0))
 refine Run.ret ?_
 cases h
 refine ⟨_, _, by cbv, ?_, ?_⟩
 · exact LLe.r
 exact (ALe.v LLe.r ALe.nil)
theorem qzP {qg : Int} {qa : List Cond} {qh : Int} {qCB : Bool} {qi : Int} {qp : List Int} {qDB : Bool} {qM : Int} {qY : Int} {a1 : List Row} {a2 : List Int} {r : Json} (h : qMF.f (Query.mk qg qa qh qCB qi qp qDB qM qY) a1 a2 = some r) : AC Tryz.prog 54 [.ag [.s (.int .i64 qg), .im false (rowsOf qy qa), .s (.int .i64 qh), .s (.bool qCB), .s (.int .i64 qi), .im false (rowsOf Int_c qp), .s (.bool qDB), .s (.int .i64 qM), .s (.int .i64 qY)], .v (.im false (rowsOf Row_i a1)), .v (.im false (rowsOf Int_c a2))] [.ag [.jk, .jk, .jk, .jk, .jk, .jk, .jk, .jk, .jk], .v (.jk), .v (.jk)] [.ag [.s (.int .i64 r.Kind), .s (.int .i64 r.N), .s (.string r.S), .ow 46 (rowsOf qnB r.List_), .ow 9 (rowsOf Str_c r.Names)]] := by
 unfold qMF.f at h
 let qK := rowsOf qy
 let qB := rowsOf Int_c
 let qXB := rowsOf qnB
 let qZB := rowsOf Row_i
 let qR := rowsOf Str_c
 let qS := @lenI Row
 show AC Tryz.prog 54 [.ag [.s (.int .i64 qg), .im false (qK qa), .s (.int .i64 qh), .s (.bool qCB), .s (.int .i64 qi), .im false (qB qp), .s (.bool qDB), .s (.int .i64 qM), .s (.int .i64 qY)], .v (.im false (qZB a1)), .v (.im false (qB a2))] _ _
 refine run3 Tryz.func54 (by rfl) (by rfl) (by cbv) ⟨by decide, rfl⟩ ?_
 intro ar cm bo sc sa sx ss sl bs sb ln sr ap up rp fr ge le lt nz mm ma sm fl al ci hL F hP hA hT hM hC
 refine Run.seq ?_
 refine Run.region hL hT [] (by cbv) hq0 ?_
 refine Run.seq ?_
 obtain ⟨r1, h_r1, h⟩ := bnd h
 refine Run.region hL hT [(3, .call [false, false, false] [.ag [.jk, .jk, .jk, .jk, .jk, .jk, .jk, .jk, .jk], .v (.jk), .v (.jk)] [.v (.ow 46 (qXB r1))])] (by cbv) ?_ ?_
 · exact (hq Tt (hq (hC (qvM h_r1)) hq0))
 refine Run.seq ?_
 refine Run.seq ?_
 obtain ⟨r2, h_r2, h⟩ := bnd h
 refine Run.region hL hT [(1, .call [false, false] [.v (.jk), .v (.jk)] [.v (.s (.bool r2))])] (by cbv) ?_ ?_
 · exact (hq (hC (AC.args (qVD h_r2) (ALe.v (LLe.im (RLe.eq (qAC qdH _))) (ALe.v LLe.r ALe.nil)))) hq0)
 refine Run.cond (by cbv) (hq0) (fun c3 => ?_) (fun c3 => ?_)
 ·
  have h := if_t c3 h
  refine Run.seq ?_
  refine Run.region hL hT [] (by cbv) ?_ ?_
  · exact (hq Tt hq0)
  refine Run.ret ?_
  cases h
  refine ⟨_, _, by cbv, ?_, ?_⟩
  · exact LLe.r
  exact (ALe.ag rfl (LLe.c (LLe.c (LLe.c (LLe.cons LLe.nilO (LLe.cons LLe.nilO LLe.nil))))) ALe.nil)
 have h := if_f c3 h
 refine Run.skip ?_
 refine Run.seq ?_
 refine Run.region hL hT [] (by cbv) ?_ ?_
 · exact (hq Tt hq0)
 refine Run.seq ?_
 obtain ⟨l4, h_l4, h⟩ := bnd h
 obtain ⟨l5, h_l5, h⟩ := bnd h
 obtain ⟨⟨qhH, r6v_N, r6v_S, qXG, qYG⟩, h_r6, h⟩ := bnd h
 refine Run.region hL hT [(7, .call [true] [.ag [.jk, .jk, .jk, .jk, .jk]] [.ag [.s (.int .i64 qhH), .s (.int .i64 r6v_N), .s (.string r6v_S), .ow 46 (qXB qXG), .ow 9 (qR qYG)]])] (by cbv) ?_ ?_
 · exact (hq Tt (hq (hC (AC.args (qnI h_r6) (ALe.ag rfl (LLe.c (LLe.c (LLe.c (LLe.cons (LLe.ow (qeD qcH h_l5 (RLe.cons rfl (LLe.c (LLe.cons (LLe.eq (congrArg (fun z => [T.s (Value.int .i64 z)]) (ln_eq Row_i _))) (LLe.c (LLe.cons LLe.nilO (LLe.cons LLe.nilO LLe.nil))))) (RLe.cons rfl (LLe.c (LLe.c (LLe.c (LLe.c (LLe.cons LLe.nilO LLe.nil))))) RLe.nil)))) (LLe.cons (LLe.ow (qGB (f := Str_c) h_l4 (RLe.cons rfl LLe.r (RLe.cons rfl LLe.r RLe.nil)))) LLe.nil))))) ALe.nil))) (hq Tt hq0)))
 rw [show ln (qZB a1) = qS a1 from ln_eq Row_i _]
 refine Run.ret ?_
 cases h
 refine ⟨_, _, by cbv, ?_, ?_⟩
 · exact LLe.r
 exact (ALe.ag rfl LLe.r ALe.nil)
end Go.Proofs.YtbhleignjmcdiaaGreatDoor.L