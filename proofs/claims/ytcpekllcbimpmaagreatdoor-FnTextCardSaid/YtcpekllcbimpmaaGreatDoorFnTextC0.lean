/- The contracts of the program's functions. -/
import Derived.Test.YtcpekllcbimpmaaGreatDoorProg
import Derived.Test.YtcpekllcbimpmaaGreatDoorFnTextU
import Derived.KernelRfl
namespace Go.Proofs.YtcpekllcbimpmaaGreatDoor.L
open Go Go.Proofs
theorem Tt : True := True.intro
set_option linter.unusedVariables false
set_option linter.unusedSimpArgs false
set_option maxRecDepth 8000
def u8_c (x : Int) : List T := [.s (.int .u8 x)]
def Str_c (x : ByteArray) : List T := [.s (.string x)]
theorem qwB : ∀ x, fzL (Str_c x) = Str_c x := fun _ => rfl
mutual
def qN : Json → List T
 | ⟨x_Kind, x_N, x_S, x_List_, x_Names⟩ => [.s (.int .i64 x_Kind), .s (.int .i64 x_N), .s (.string x_S), .im false (qlK x_List_), .im false (rowsOf Str_c x_Names)]
def qlK : List Json → Rws
 | [] => []
 | x :: l => qN x :: qlK l
end
theorem qKM : ∀ l, qlK l = rowsOf qN l
 | [] => rfl
 | x :: l => by rw [qlK, qKM l]; rfl
def qoQ (x : Json) : List T := [.s (.int .i64 x.Kind), .s (.int .i64 x.N), .s (.string x.S), .im false (rowsOf qN x.List_), .im false (rowsOf Str_c x.Names)]
theorem quC : ∀ x, qN x = qoQ x
 | ⟨x_Kind, x_N, x_S, x_List_, x_Names⟩ => by rw [qN, qKM]; rfl
theorem qmK : ∀ x, (qN x).length = 5 := fun x => by rw [quC]; rfl
mutual
def qr : Json → List T
 | ⟨x_Kind, x_N, x_S, x_List_, x_Names⟩ => [.s (.int .i64 x_Kind), .s (.int .i64 x_N), .s (.string x_S), .im true (qnK x_List_), .im true (rowsOf Str_c x_Names)]
def qnK : List Json → Rws
 | [] => []
 | x :: l => qr x :: qnK l
end
theorem qLM : ∀ l, qnK l = rowsOf qr l
 | [] => rfl
 | x :: l => by rw [qnK, qLM l]; rfl
def qBU (x : Json) : List T := [.s (.int .i64 x.Kind), .s (.int .i64 x.N), .s (.string x.S), .im true (rowsOf qr x.List_), .im true (rowsOf Str_c x.Names)]
theorem qLB : ∀ x, qr x = qBU x
 | ⟨x_Kind, x_N, x_S, x_List_, x_Names⟩ => by rw [qr, qLM]; rfl
theorem qoK : ∀ x, (qr x).length = 5 := fun x => by rw [qLB]; rfl
mutual
theorem qOP {P : Program} : ∀ x, KLL P (qN x) (qr x)
 | ⟨x_Kind, x_N, x_S, x_List_, x_Names⟩ => by
  rw [quC, qLB]
  exact (KLL.c (KLL.c (KLL.c (KLL.cons (KLL.im (qCH x_List_)) (KLL.cons (KLL.im KRe.r) KLL.r)))))
theorem qCH {P : Program} : ∀ l, KRe P (rowsOf qN l) (rowsOf qr l)
 | [] => KRe.nil
 | x :: l => KRe.cons (by rw [qmK, qoK]) (qOP x) (qCH l)
end
mutual
theorem qPP {P : Program} : ∀ x, LLe P (qr x) (qN x)
 | ⟨x_Kind, x_N, x_S, x_List_, x_Names⟩ => by
  rw [quC, qLB]
  exact (LLe.c (LLe.c (LLe.c (LLe.cons (LLe.k (qOD x_List_)) (LLe.cons (LLe.k RLe.r) LLe.nil)))))
theorem qOD {P : Program} : ∀ l, RLe P (rowsOf qr l) (rowsOf qN l)
 | [] => RLe.nil
 | x :: l => RLe.cons (by rw [qmK, qoK]) (qPP x) (qOD l)
end
theorem qQP {P : Program} : ∀ x, LLe P (fzL (qr x)) (qN x)
 | ⟨x_Kind, x_N, x_S, x_List_, x_Names⟩ => by
  rw [quC, qLB]
  exact (LLe.c (LLe.c (LLe.c (LLe.cons (LLe.im (qOD x_List_)) (LLe.cons LLe.r LLe.nil)))))
theorem qzJ : ∀ x, (fzL (qr x)).length = 5 := fun x => by rw [qLB]; rfl
theorem qMM {P : Program} : ∀ l, RLe P (fzR (rowsOf qr l)) (rowsOf qN l)
 | [] => RLe.nil
 | x :: l => RLe.cons (by rw [qzJ, qmK]) (qQP x) (qMM l)
theorem qRP {P : Program} : ∀ x, KLL P (fzL (qr x)) (qr x)
 | ⟨x_Kind, x_N, x_S, x_List_, x_Names⟩ => by
  rw [qLB]
  exact (KLL.c (KLL.c (KLL.c (KLL.cons (KLL.im KRe.r) (KLL.cons (KLL.im KRe.r) KLL.r)))))
theorem qNM {P : Program} : ∀ l, KRe P (fzR (rowsOf qr l)) (rowsOf qr l)
 | [] => KRe.nil
 | x :: l => KRe.cons (by rw [qzJ, qoK]) (qRP x) (qNM l)
theorem qYC {P : Program} (l : List Json) : LLe P [.im true (Ls.fr (rowsOf qr l))] [.im true (rowsOf qr l)] := LLe.kk (qNM l)
mutual
def qx : Json → List T
 | ⟨x_Kind, x_N, x_S, x_List_, x_Names⟩ => [.s (.int .i64 x_Kind), .s (.int .i64 x_N), .s (.string x_S), .ow 27 (qpK x_List_), .ow 9 (rowsOf Str_c x_Names)]
def qpK : List Json → Rws
 | [] => []
 | x :: l => qx x :: qpK l
end
theorem qOM : ∀ l, qpK l = rowsOf qx l
 | [] => rfl
 | x :: l => by rw [qpK, qOM l]; rfl
def qpQ (x : Json) : List T := [.s (.int .i64 x.Kind), .s (.int .i64 x.N), .s (.string x.S), .ow 27 (rowsOf qx x.List_), .ow 9 (rowsOf Str_c x.Names)]
theorem qYE : ∀ x, qx x = qpQ x
 | ⟨x_Kind, x_N, x_S, x_List_, x_Names⟩ => by rw [qx, qOM]; rfl
mutual
theorem qxD : ∀ x, fzL (qx x) = qN x
 | ⟨x_Kind, x_N, x_S, x_List_, x_Names⟩ => by
  rw [qYE, quC]
  simp only [qpQ, qoQ, fzL, T.fz, qlT qwB, qeI x_List_]
theorem qeI : ∀ l, fzR (rowsOf qx l) = rowsOf qN l
 | [] => rfl
 | x :: l => by
  show fzR (qx x :: rowsOf qx l) = qN x :: rowsOf qN l
  rw [fzR, qxD x, qeI l]
end
def Int_c (x : Int) : List T := [.s (.int .i64 x)]
theorem qPM {P : Program} (l : List Json) : LLe P [.im true (Ls.fr (rowsOf qx l))] [.im true (rowsOf qr l)] := LLe.kk_eq (qeI l) (qCH l)
def tab : List (Nat × Ty) := [(3, Ty.mk false 1 8 0 [] [.int .i64 0] (some .i64) false false false false none),
 (4, Ty.mk false 1 1 0 [] [.bool false] (none) true false false false none),
 (5, Ty.mk false 1 1 0 [] [.int .u8 0] (some .u8) false false false false none),
 (9, Ty.mk false 1 16 0 [] [.string ByteArray.empty] (none) false false false true none),
 (22, Ty.mk false 1 24 5 [] [.slice none 0 0] (none) false false true false none),
 (24, Ty.mk false 1 24 27 [] [.slice none 0 0] (none) false false true false none),
 (25, Ty.mk false 1 24 9 [] [.slice none 0 0] (none) false false true false none),
 (27, Ty.mk true 5 80 0 [(0, 1), (1, 1), (2, 1), (3, 1), (4, 1)] [.int .i64 0, .int .i64 0, .string ByteArray.empty, .slice none 0 0, .slice none 0 0] (none) false false false false none),
 (35, Ty.mk false 1 8 0 [] [.pointer none] (none) false false false false none),
 (41, Ty.mk false 1 8 0 [] [.pointer none] (none) false false false false none),
 (43, Ty.mk true 2 24 0 [(0, 1), (1, 1)] [.string ByteArray.empty, .bool false] (none) false false false false none),
 (48, Ty.mk false 1 8 0 [] [.pointer none] (none) false false false false none),
 (50, Ty.mk true 4 40 0 [(0, 1), (1, 1), (2, 1), (3, 1)] [.string ByteArray.empty, .int .i64 0, .bool false, .int .i64 0] (none) false false false false none),
 (53, Ty.mk true 3 40 0 [(0, 1), (1, 1), (2, 1)] [.slice none 0 0, .int .i64 0, .int .i64 0] (none) false false false false none),
 (55, Ty.mk false 1 24 3 [] [.slice none 0 0] (none) false false true false none),
 (80, Ty.mk false 1 16 0 [] [.nilIface] (none) false true false false none)]
theorem qMT : TabOk Tryz.prog tab := TabOk.of (l := [(3, false), (4, false), (5, false), (9, false), (22, false), (24, false), (25, false), (27, false), (35, false), (41, false), (43, false), (48, false), (50, false), (53, false), (55, false), (80, false)]) (by kernel_rfl)
theorem mixed : Tryz.prog.follows .mixedOrders = true := by rfl
theorem run3 {f : FuncId} {fn : Func} {c : Code} {args outs res : List A} {σ : St} {ds : List (Option Nat)} (hf : Tryz.prog.funcs[f]? = some fn) (hnm : (fn.name == "runtime.NumGoroutine") = false) (hb : fn.body = some c) (he : entry tab fn.ntmps args = some (σ, ds)) (hds : (idsOf ds).Nodup ∧ ds.length = (acells args).length)
  (h : let ar := Ls.ar; let cm := Ls.cm; let bo := Ls.bo; let sc := Ls.sc; let sa := Ls.sa; let sx := Ls.sx; let ss := Ls.ss; let sl := Ls.sl; let bs := Ls.bs; let sb := Ls.sb; let ln := Ls.ln; let sr := Ls.sr; let ap := Ls.ap; let up := Ls.up; let rp := Ls.rp; let fr := Ls.fr; let ge := Ls.ge; let le := Ls.le; let lt := Ls.lt; let nz := Ls.nz; let mm := Ls.mm; let ma := Ls.ma; let sm := Ls.sm; let fl := Ls.fl; let al := Ls.al; let ci := Ls.ci; (⟨ar, cm, bo, sc, sa, sx, ss, sl, bs, sb, ln, sr, ap, up, rp, fr, ge, le, lt, nz, mm, ma, sm, fl, al, ci⟩ : Lf) = Ls → ∀ F : Fr, F.P = Tryz.prog → (∀ i v, F.anc i = some v → i ∈ idsOf ds) → TabOk F.P tab → F.P.follows .mixedOrders = true → (∀ {f a o r}, AC Tryz.prog f a o r → AC F.P f a o r) → Run F σ c (endQ (EndL Tryz.prog tab fn.results.toList ds outs res))) : AC Tryz.prog f args outs res :=
 AC.of_run2 qMT hf hnm hb he hds fun F hP hA => h rfl F hP hA (hP ▸ qMT) (hP ▸ mixed) fun h => hP ▸ h
theorem qZE {a0 : List Int} {r : l1Cur} (h : qkB.f a0 = some r) : AC Tryz.prog 15 [.v (.im true (rowsOf u8_c a0))] [.v (.jk)] [.v (.bx 53 [.im true (rowsOf u8_c r.b), .s (.int .i64 r.i), .s (.int .i64 r.h)])] := by
 unfold qkB.f at h
 let eu8_c := rowsOf u8_c
 let qaE := @lenI Int
 show AC Tryz.prog 15 [.v (.im true (eu8_c a0))] _ _
 refine run3 Tryz.func15 (by rfl) (by rfl) (by cbv) ⟨by decide, rfl⟩ ?_
 intro ar cm bo sc sa sx ss sl bs sb ln sr ap up rp fr ge le lt nz mm ma sm fl al ci hL F hP hA hT hM hC
 refine Run.seq ?_
 refine Run.region hL hT [] (by cbv) hq0 ?_
 refine Run.seq ?_
 refine Run.region hL hT [] (by cbv) ?_ ?_
 · exact (hq Tt hq0)
 rw [show ln (eu8_c a0) = qaE a0 from ln_eq u8_c _]
 refine Run.seq ?_
 refine Run.seq ?_
 refine Run.region hL hT [] (by cbv) hq0 ?_
 refine Run.block ?_
 refine Run.loop2 (fun (z4 : Int) (z5 : Int) => ⟨32, 100000, [(0, .t (.im true (eu8_c a0))), (3, .t (.s (.int .i64 z4))), (4, .t (.s (.int .i64 z5)))], []⟩) (x0 := (ar .add .i64 17333 (qaE a0))) (x1 := 0) h (Weak.of _ [] hA (by cbv) ?_) (fun _ _ => rfl) ?_
 · repeat (first | exact hq0 | refine hq (by first | exact Tt | rfl) ?_)
 intro k z4 z5 h
 rw [qkB.l0] at h
 refine Run.seq ?_
 refine Run.seq ?_
 refine Run.region hL hT [] (by cbv) ?_ ?_
 · exact (hq Tt (hq (fun _ => hq0) (hq (fun g7 => (by have g7C := g7; rw [show ln (eu8_c a0) = qaE a0 from ln_eq u8_c _] at g7C; exact (hq g7 (hq Tt hq0)))) (hq (fun q8 => (by have q8C := q8; rw [show ln (eu8_c a0) = qaE a0 from ln_eq u8_c _] at q8C; exact (hq q8 hq0))) (hq (fun _ => hq0) hq0)))))
 rw [show ln (eu8_c a0) = qaE a0 from ln_eq u8_c _]
 refine Run.cond (by cbv) (hq0) (fun c10 => ?_) (fun c10 => ?_)
 ·
  have h := if_t c10 h
  refine Run.skip ?_
  refine Run.seq ?_
  refine Run.block ?_
  obtain ⟨x11, h_x11, h⟩ := bnd h
  refine Run.region hL hT [(4, .el [.s (.int .u8 x11)])] (by cbv) ?_ ?_
  · exact (hq Tt (hq (qoB h_x11) (hq (qqB (f := u8_c) h_x11) (hq (qdC (f := u8_c) h_x11) (hq Tt (hq Tt (hq Tt hq0)))))))
  refine Run.region hL hT [] (by cbv) ?_ ?_
  · exact (hq Tt hq0)
  refine ⟨(ar .and .i64 (ar .add .i64 (ar .add .i64 (ar .mul .i64 z4 131) (ar .or .i64 x11 0)) 7) 1073741823), (ar .add .i64 z5 1), h, Weak.of _ [] hA (by cbv) ?_⟩
  repeat (first | exact hq0 | refine hq (by first | exact Tt | rfl) ?_)
 have h := if_f c10 h
 refine Run.exit ?_
 refine Run.seq ?_
 refine Run.region hL hT [] (by cbv) hq0 ?_
 refine Run.ret ?_
 cases h
 refine ⟨_, _, by cbv, ?_, ?_⟩
 · exact LLe.r
 exact (ALe.v LLe.r ALe.nil)
theorem qjC {a0v_b : List Int} {a0v_i : Int} {a0v_h : Int} {r : l1Cur × Int} (h : qGC.f (l1Cur.mk a0v_b a0v_i a0v_h) = some r) : AC Tryz.prog 49 [.v (.bx 53 [.im true (rowsOf u8_c a0v_b), .s (.int .i64 a0v_i), .s (.int .i64 a0v_h)])] [.v (.bx 53 [.im true (rowsOf u8_c a0v_b), .s (.int .i64 r.1.i), .s (.int .i64 r.1.h)])] [.v (.s (.int .i64 r.2))] := by
 unfold qGC.f at h
 let eu8_c := rowsOf u8_c
 let qaE := @lenI Int
 show AC Tryz.prog 49 [.v (.bx 53 [.im true (eu8_c a0v_b), .s (.int .i64 a0v_i), .s (.int .i64 a0v_h)])] _ _
 refine run3 Tryz.func49 (by rfl) (by rfl) (by cbv) ⟨by decide, rfl⟩ ?_
 intro ar cm bo sc sa sx ss sl bs sb ln sr ap up rp fr ge le lt nz mm ma sm fl al ci hL F hP hA hT hM hC
 refine Run.seq ?_
 refine Run.region hL hT [] (by cbv) hq0 ?_
 refine Run.seq ?_
 refine Run.region hL hT [] (by cbv) ?_ ?_
 · exact (hq Tt (hq Tt (hq Tt (hq Tt hq0))))
 refine Run.seq ?_
 refine Run.draw hL hT hM [] (by cbv) (qA (by cbv) (by cbv) (qA (by cbv) (by cbv) (qA (by cbv) (by cbv) (qA (by cbv) (by cbv) (qA (by cbv) (by cbv) (qA (by cbv) (by cbv) (qA (by cbv) (by cbv) (qA (by cbv) (by cbv) (qA (by cbv) (by cbv) (qA (by cbv) (by cbv) (qA (by cbv) (by cbv) (qA (by cbv) (by cbv) (qA (by cbv) (by cbv) ql))))))))))))) (by cbv) (by cbv) (by cbv) ?_ ?_
 · exact (hq Tt (hq Tt (hq Tt (hq (by decide : (0 : Int) ≤ 33) (hq (by decide : (33 : Int) < 64) (hq Tt (hq Tt (hq Tt (hq (by decide : (0 : Int) ≤ 45) (hq (by decide : (45 : Int) < 64) (hq Tt (hq Tt hq0))))))))))))
 refine Run.seq ?_
 refine Run.seq ?_
 refine Run.draw hL hT hM [] (by cbv) (qA (by cbv) (by cbv) (qA (by cbv) (by cbv) (qA (by cbv) (by cbv) (qA (by cbv) (by cbv) (qA (by cbv) (by cbv) (qA (by cbv) (by cbv) (qA (by cbv) (by cbv) (qA (by cbv) (by cbv) (qA (by cbv) (by cbv) (qA (by cbv) (by cbv) ql)))))))))) (by cbv) (by cbv) (by cbv) ?_ ?_
 · exact (hq Tt (hq Tt (hq Tt hq0)))
 rw [show ln (eu8_c a0v_b) = qaE a0v_b from ln_eq u8_c _]
 refine Run.cond (by cbv) (hq0) (fun c1 => ?_) (fun c1 => ?_)
 ·
  have h := if_t c1 h
  refine Run.seq ?_
  obtain ⟨x2, h_x2, h⟩ := bnd h
  refine Run.draw hL hT hM [(9, .el [.s (.int .u8 x2)])] (by cbv) (qA (by cbv) (by cbv) (qA (by cbv) (by cbv) (qA (by cbv) (by cbv) (qA (by cbv) (by cbv) (qA (by cbv) (by cbv) (qA (by cbv) (by cbv) (qA (by cbv) (by cbv) (qA (by cbv) (by cbv) (qA (by cbv) (by cbv) (qA (by cbv) (by cbv) (qA (by cbv) (by cbv) (qA (by cbv) (by cbv) (qA (by cbv) (by cbv) (qA (by cbv) (by cbv) (qA (by cbv) (by cbv) ql))))))))))))))) (by cbv) (by cbv) (by cbv) ?_ ?_
  · exact (hq Tt (hq Tt (hq (qoB h_x2) (hq (qqB (f := u8_c) h_x2) (hq (qdC (f := u8_c) h_x2) (hq Tt (hq Tt hq0)))))))
  refine Run.region hL hT [] (by cbv) ?_ ?_
  · exact (hq Tt (hq Tt (hq Tt hq0)))
  refine Run.seq ?_
  refine Run.region hL hT [] (by cbv) hq0 ?_
  refine Run.ret ?_
  cases h
  refine ⟨_, _, by cbv, ?_, ?_⟩
  · exact LLe.r
  exact (ALe.v LLe.r ALe.nil)
 have h := if_f c1 h
 refine Run.skip ?_
 refine Run.seq ?_
 refine Run.region hL hT [] (by cbv) hq0 ?_
 refine Run.ret ?_
 cases h
 refine ⟨_, _, by cbv, ?_, ?_⟩
 · exact LLe.r
 exact (ALe.v LLe.r ALe.nil)
theorem qa {a0v_b : List Int} {a0v_i : Int} {a0v_h : Int} {a1 : Int} {r : l1Cur × Int} (h : qf.f (l1Cur.mk a0v_b a0v_i a0v_h) a1 = some r) : AC Tryz.prog 26 [.v (.bx 53 [.im true (rowsOf u8_c a0v_b), .s (.int .i64 a0v_i), .s (.int .i64 a0v_h)]), .v (.s (.int .i64 a1))] [.v (.bx 53 [.im true (rowsOf u8_c a0v_b), .s (.int .i64 r.1.i), .s (.int .i64 r.1.h)]), .v (.jk)] [.v (.s (.int .i64 r.2))] := by
 unfold qf.f at h
 let eu8_c := rowsOf u8_c
 show AC Tryz.prog 26 [.v (.bx 53 [.im true (eu8_c a0v_b), .s (.int .i64 a0v_i), .s (.int .i64 a0v_h)]), .v (.s (.int .i64 a1))] _ _
 refine run3 Tryz.func26 (by rfl) (by rfl) (by cbv) ⟨by decide, rfl⟩ ?_
 intro ar cm bo sc sa sx ss sl bs sb ln sr ap up rp fr ge le lt nz mm ma sm fl al ci hL F hP hA hT hM hC
 refine Run.seq ?_
 refine Run.region hL hT [] (by cbv) hq0 ?_
 refine Run.seq ?_
 refine Run.seq ?_
 refine Run.region hL hT [] (by cbv) ?_ ?_
 · exact (hq Tt hq0)
 refine Run.cond (by cbv) (hq0) (fun c1 => ?_) (fun c1 => ?_)
 ·
  have h := if_t c1 h
  refine Run.seq ?_
  refine Run.region hL hT [] (by cbv) hq0 ?_
  refine Run.ret ?_
  cases h
  refine ⟨_, _, by cbv, ?_, ?_⟩
  · exact LLe.r
  exact (ALe.v LLe.r ALe.nil)
 have h := if_f c1 h
 refine Run.skip ?_
 refine Run.seq ?_
 refine Run.seq ?_
 refine Run.region hL hT [] (by cbv) ?_ ?_
 · exact (hq Tt hq0)
 refine Run.cond (by cbv) (hq0) (fun c2 => ?_) (fun c2 => ?_)
 ·
  have h := if_t c2 h
  refine Run.seq ?_
  obtain ⟨⟨⟨qgS, qqK, qrK⟩, r3v_2⟩, h_r3, h⟩ := bnd h
  obtain ⟨u4, h_u4, h⟩ := bnd h
  refine Run.region hL hT [(1, .call [true] [.v (.bx 53 [.im true (eu8_c a0v_b), .s (.int .i64 qqK), .s (.int .i64 qrK)])] [.v (.s (.int .i64 r3v_2))])] (by cbv) ?_ ?_
  · exact (hq (hC (qjC h_r3)) (hq Tt (hq (nz_t h_u4) hq0)))
  refine Run.ret ?_
  cases h
  refine ⟨_, _, by cbv, ?_, ?_⟩
  · exact LLe.r
  exact (ALe.v LLe.r ALe.nil)
 have h := if_f c2 h
 refine Run.skip ?_
 refine Run.seq ?_
 obtain ⟨⟨⟨qjO, qdF, qeF⟩, r5v_2⟩, h_r5, h⟩ := bnd h
 refine Run.region hL hT [(1, .call [true] [.v (.bx 53 [.im true (eu8_c a0v_b), .s (.int .i64 qdF), .s (.int .i64 qeF)])] [.v (.s (.int .i64 r5v_2))])] (by cbv) ?_ ?_
 · exact (hq (hC (qjC h_r5)) hq0)
 refine Run.seq ?_
 obtain ⟨⟨⟨qsU, qhS, qiS⟩, r6v_2⟩, h_r6, h⟩ := bnd h
 refine Run.region hL hT [(1, .call [true] [.v (.bx 53 [.im true (eu8_c a0v_b), .s (.int .i64 qhS), .s (.int .i64 qiS)])] [.v (.s (.int .i64 r6v_2))])] (by cbv) ?_ ?_
 · exact (hq (hC (qjC h_r6)) hq0)
 refine Run.seq ?_
 obtain ⟨⟨⟨qsK, qbD, qcD⟩, r7v_2⟩, h_r7, h⟩ := bnd h
 refine Run.region hL hT [(1, .call [true] [.v (.bx 53 [.im true (eu8_c a0v_b), .s (.int .i64 qbD), .s (.int .i64 qcD)])] [.v (.s (.int .i64 r7v_2))])] (by cbv) ?_ ?_
 · exact (hq (hC (qjC h_r7)) hq0)
 refine Run.seq ?_
 obtain ⟨⟨⟨qtU, qjS, qkS⟩, r8v_2⟩, h_r8, h⟩ := bnd h
 refine Run.region hL hT [(1, .call [true] [.v (.bx 53 [.im true (eu8_c a0v_b), .s (.int .i64 qjS), .s (.int .i64 qkS)])] [.v (.s (.int .i64 r8v_2))])] (by cbv) ?_ ?_
 · exact (hq (hC (qjC h_r8)) hq0)
 refine Run.seq ?_
 obtain ⟨u9, h_u9, h⟩ := bnd h
 refine Run.region hL hT [] (by cbv) ?_ ?_
 · exact (hq Tt (hq Tt (hq Tt (hq Tt (hq Tt (hq Tt (hq Tt (hq (nz_t h_u9) hq0))))))))
 refine Run.ret ?_
 cases h
 refine ⟨_, _, by cbv, ?_, ?_⟩
 · exact LLe.r
 exact (ALe.v LLe.r ALe.nil)
theorem qLC {a0v_b : List Int} {a0v_i : Int} {a0v_h : Int} {a1 : List ByteArray} {r : l1Cur × ByteArray} (h : qmB.f (l1Cur.mk a0v_b a0v_i a0v_h) a1 = some r) : AC Tryz.prog 27 [.v (.bx 53 [.im true (rowsOf u8_c a0v_b), .s (.int .i64 a0v_i), .s (.int .i64 a0v_h)]), .v (.im false (rowsOf Str_c a1))] [.v (.bx 53 [.im true (rowsOf u8_c a0v_b), .s (.int .i64 r.1.i), .s (.int .i64 r.1.h)]), .v (.jk)] [.v (.s (.string r.2))] := by
 unfold qmB.f at h
 let qD := rowsOf Str_c
 let eu8_c := rowsOf u8_c
 let qDB := @lenI ByteArray
 show AC Tryz.prog 27 [.v (.bx 53 [.im true (eu8_c a0v_b), .s (.int .i64 a0v_i), .s (.int .i64 a0v_h)]), .v (.im false (qD a1))] _ _
 refine run3 Tryz.func27 (by rfl) (by rfl) (by cbv) ⟨by decide, rfl⟩ ?_
 intro ar cm bo sc sa sx ss sl bs sb ln sr ap up rp fr ge le lt nz mm ma sm fl al ci hL F hP hA hT hM hC
 refine Run.seq ?_
 refine Run.region hL hT [] (by cbv) hq0 ?_
 refine Run.seq ?_
 obtain ⟨⟨⟨qgG, qbC, qcC⟩, r1v_2⟩, h_r1, h⟩ := bnd h
 obtain ⟨x2, h_x2, h⟩ := bnd h
 refine Run.region hL hT [(4, .call [true, false] [.v (.bx 53 [.im true (eu8_c a0v_b), .s (.int .i64 qbC), .s (.int .i64 qcC)]), .v (.jk)] [.v (.s (.int .i64 r1v_2))]), (5, .el [.s (.string x2)])] (by cbv) ?_ ?_
 · exact (hq (by rw [show ln (qD a1) = qDB a1 from ln_eq Str_c _]; exact (hC (qa h_r1))) (hq (qoB h_x2) (hq (qqB (f := Str_c) h_x2) (hq (qdC (f := Str_c) h_x2) hq0))))
 rw [show ln (qD a1) = qDB a1 from ln_eq Str_c _]
 refine Run.ret ?_
 cases h
 refine ⟨_, _, by cbv, ?_, ?_⟩
 · exact LLe.r
 exact (ALe.v LLe.r ALe.nil)
theorem qDD {a0v_b : List Int} {a0v_i : Int} {a0v_h : Int} {a1 : List Int} {r : l1Cur × Int} (h : qYB.f (l1Cur.mk a0v_b a0v_i a0v_h) a1 = some r) : AC Tryz.prog 31 [.v (.bx 53 [.im true (rowsOf u8_c a0v_b), .s (.int .i64 a0v_i), .s (.int .i64 a0v_h)]), .v (.im false (rowsOf Int_c a1))] [.v (.bx 53 [.im true (rowsOf u8_c a0v_b), .s (.int .i64 r.1.i), .s (.int .i64 r.1.h)]), .v (.jk)] [.v (.s (.int .i64 r.2))] := by
 unfold qYB.f at h
 let qhG := rowsOf Int_c
 let eu8_c := rowsOf u8_c
 let qkO := @lenI Int
 show AC Tryz.prog 31 [.v (.bx 53 [.im true (eu8_c a0v_b), .s (.int .i64 a0v_i), .s (.int .i64 a0v_h)]), .v (.im false (qhG a1))] _ _
 refine run3 Tryz.func31 (by rfl) (by rfl) (by cbv) ⟨by decide, rfl⟩ ?_
 intro ar cm bo sc sa sx ss sl bs sb ln sr ap up rp fr ge le lt nz mm ma sm fl al ci hL F hP hA hT hM hC
 refine Run.seq ?_
 refine Run.region hL hT [] (by cbv) hq0 ?_
 refine Run.seq ?_
 obtain ⟨⟨⟨qgG, qbC, qcC⟩, r1v_2⟩, h_r1, h⟩ := bnd h
 obtain ⟨x2, h_x2, h⟩ := bnd h
 refine Run.region hL hT [(4, .call [true, false] [.v (.bx 53 [.im true (eu8_c a0v_b), .s (.int .i64 qbC), .s (.int .i64 qcC)]), .v (.jk)] [.v (.s (.int .i64 r1v_2))]), (5, .el [.s (.int .i64 x2)])] (by cbv) ?_ ?_
 · exact (hq (by rw [show ln (qhG a1) = qkO a1 from ln_eq Int_c _]; exact (hC (qa h_r1))) (hq (qoB h_x2) (hq (qqB (f := Int_c) h_x2) (hq (qdC (f := Int_c) h_x2) hq0))))
 rw [show ln (qhG a1) = qkO a1 from ln_eq Int_c _]
 refine Run.ret ?_
 cases h
 refine ⟨_, _, by cbv, ?_, ?_⟩
 · exact LLe.r
 exact (ALe.v LLe.r ALe.nil)
theorem qyD {a0v_b : List Int} {a0v_i : Int} {a0v_h : Int} {r : l1Cur × ByteArray} (h : qAC.f (l1Cur.mk a0v_b a0v_i a0v_h) = some r) : AC Tryz.prog 46 [.v (.bx 53 [.im true (rowsOf u8_c a0v_b), .s (.int .i64 a0v_i), .s (.int .i64 a0v_h)])] [.v (.bx 53 [.im true (rowsOf u8_c a0v_b), .s (.int .i64 r.1.i), .s (.int .i64 r.1.h)])] [.v (.s (.string r.2))] := by
 unfold qAC.f at h
 let qD := rowsOf Str_c
 let eu8_c := rowsOf u8_c
 show AC Tryz.prog 46 [.v (.bx 53 [.im true (eu8_c a0v_b), .s (.int .i64 a0v_i), .s (.int .i64 a0v_h)])] _ _
 refine run3 Tryz.func46 (by rfl) (by rfl) (by cbv) ⟨by decide, rfl⟩ ?_
 intro ar cm bo sc sa sx ss sl bs sb ln sr ap up rp fr ge le lt nz mm ma sm fl al ci hL F hP hA hT hM hC
 refine Run.seq ?_
 refine Run.region hL hT [] (by cbv) hq0 ?_
 refine Run.seq ?_
 obtain ⟨l1, h_l1, h⟩ := bnd h
 obtain ⟨⟨⟨qlO, qfF, qgF⟩, r2v_2⟩, h_r2, h⟩ := bnd h
 refine Run.region hL hT [(2, .call [true, false] [.v (.bx 53 [.im true (eu8_c a0v_b), .s (.int .i64 qfF), .s (.int .i64 qgF)]), .v (.jk)] [.v (.s (.string r2v_2))])] (by cbv) ?_ ?_
 · exact (hq (hC (AC.args (qLC h_r2) (ALe.v LLe.r (ALe.v (qXG rfl (qU (f := Str_c) h_l1 (RLe.cons rfl LLe.r (RLe.cons rfl LLe.r (RLe.cons rfl LLe.r (RLe.cons rfl LLe.r (RLe.cons rfl LLe.r (RLe.cons rfl LLe.r (RLe.cons rfl LLe.r (RLe.cons rfl LLe.r (RLe.cons rfl LLe.r RLe.nil))))))))))) ALe.nil)))) hq0)
 refine Run.row (rows := [[.s (.string (ByteArray.mk #[97]))], [.s (.string (ByteArray.mk #[98]))], [.s (.string (ByteArray.mk #[99]))], [.s (.string (ByteArray.mk #[105, 100]))], [.s (.string (ByteArray.mk #[110]))], [.s (.string (ByteArray.mk #[114, 111, 119, 115]))], [.s (.string (ByteArray.mk #[]))], [.s (.string (ByteArray.mk #[97, 47, 98]))], [.s (.string (ByteArray.mk #[126]))]]) 4098 (qD l1) (by cbv) (qU (f := Str_c) h_l1 (RLe.cons rfl LLe.r (RLe.cons rfl LLe.r (RLe.cons rfl LLe.r (RLe.cons rfl LLe.r (RLe.cons rfl LLe.r (RLe.cons rfl LLe.r (RLe.cons rfl LLe.r (RLe.cons rfl LLe.r (RLe.cons rfl LLe.r RLe.nil)))))))))) ?_
 refine Run.ret ?_
 cases h
 refine ⟨_, _, by cbv, ?_, ?_⟩
 · exact LLe.r
 exact (ALe.v LLe.r ALe.nil)
theorem qSH {qE : Int} {a0v_N : Int} {a0v_S : ByteArray} {qB : List Json} {qC : List ByteArray} {a1 : ByteArray} {r : Int} (h : qPC.f (Json.mk qE a0v_N a0v_S qB qC) a1 = some r) : AC Tryz.prog 47 [.ag [.s (.int .i64 qE), .s (.int .i64 a0v_N), .s (.string a0v_S), .im false (rowsOf qN qB), .im false (rowsOf Str_c qC)], .v (.s (.string a1))] [.ag [.jk, .jk, .jk, .jk, .jk], .v (.jk)] [.v (.s (.int .i64 r))] := by
 unfold qPC.f at h
 let qM := rowsOf qN
 let qD := rowsOf Str_c
 let qDB := @lenI ByteArray
 show AC Tryz.prog 47 [.ag [.s (.int .i64 qE), .s (.int .i64 a0v_N), .s (.string a0v_S), .im false (qM qB), .im false (qD qC)], .v (.s (.string a1))] _ _
 refine run3 Tryz.func47 (by rfl) (by rfl) (by cbv) ⟨by decide, rfl⟩ ?_
 intro ar cm bo sc sa sx ss sl bs sb ln sr ap up rp fr ge le lt nz mm ma sm fl al ci hL F hP hA hT hM hC
 refine Run.seq ?_
 refine Run.region hL hT [] (by cbv) hq0 ?_
 refine Run.seq ?_
 refine Run.seq ?_
 refine Run.region hL hT [] (by cbv) hq0 ?_
 refine Run.block ?_
 refine Run.loop1 (fun (z8 : Int) => ⟨21, 100000, [(1, .t (.s (.string a1))), (2, .pt 1 0 0), (5, .t (.s (.int .i64 z8)))], [(1, .box 27 [.t (.s (.int .i64 qE)), .t (.s (.int .i64 a0v_N)), .t (.s (.string a0v_S)), .t (.im false (qM qB)), .t (.im false (qD qC))])]⟩) (x0 := 0) h (Weak.of _ [(1, 0)] hA (by cbv) ?_) (fun _ => rfl) ?_
 · repeat (first | exact hq0 | refine hq (by first | exact Tt | rfl) ?_)
 intro k z8 h
 rw [qPC.l0] at h
 refine Run.seq ?_
 refine Run.seq ?_
 refine Run.region hL hT [] (by cbv) ?_ ?_
 · exact (hq Tt (hq Tt hq0))
 rw [show ln (qD qC) = qDB qC from ln_eq Str_c _]
 refine Run.cond (by cbv) (hq0) (fun c9 => ?_) (fun c9 => ?_)
 ·
  have h := if_t c9 h
  refine Run.skip ?_
  refine Run.seq ?_
  refine Run.block ?_
  refine Run.seq ?_
  obtain ⟨x10, h_x10, h⟩ := bnd h
  refine Run.region hL hT [(3, .el [.s (.string x10)])] (by cbv) ?_ ?_
  · exact (hq Tt (hq (qoB h_x10) (hq (qqB (f := Str_c) h_x10) (hq (qdC (f := Str_c) h_x10) hq0))))
  refine Run.cond (by cbv) (hq0) (fun c11 => ?_) (fun c11 => ?_)
  ·
   have h := if_t c11 h
   refine Run.seq ?_
   refine Run.region hL hT [] (by cbv) hq0 ?_
   refine Run.ret ?_
   cases h
   refine ⟨_, _, by cbv, ?_, ?_⟩
   · exact LLe.r
   exact (ALe.v LLe.r ALe.nil)
  have h := if_f c11 h
  refine Run.skip ?_
  refine Run.region hL hT [] (by cbv) ?_ ?_
  · exact (hq Tt hq0)
  refine ⟨(ar .add .i64 z8 1), h, Weak.of _ [(1, 1)] hA (by cbv) ?_⟩
  repeat (first | exact hq0 | refine hq (by first | exact Tt | rfl) ?_)
 have h := if_f c9 h
 refine Run.exit ?_
 refine Run.seq ?_
 refine Run.region hL hT [] (by cbv) hq0 ?_
 refine Run.ret ?_
 cases h
 refine ⟨_, _, by cbv, ?_, ?_⟩
 · exact LLe.r
 exact (ALe.v LLe.r ALe.nil)
theorem qtK {qE : Int} {a0v_N : Int} {a0v_S : ByteArray} {qB : List Json} {qC : List ByteArray} {a1 : ByteArray} {qsB : Int} {a2v_N : Int} {a2v_S : ByteArray} {qaB : List Json} {qbB : List ByteArray} {r : Json} (h : qJB.f (Json.mk qE a0v_N a0v_S qB qC) a1 (Json.mk qsB a2v_N a2v_S qaB qbB) = some r) : AC Tryz.prog 48 [.ag [.s (.int .i64 qE), .s (.int .i64 a0v_N), .s (.string a0v_S), .im true (rowsOf qr qB), .im true (rowsOf Str_c qC)], .v (.s (.string a1)), .ag [.s (.int .i64 qsB), .s (.int .i64 a2v_N), .s (.string a2v_S), .im true (rowsOf qr qaB), .im true (rowsOf Str_c qbB)]] [.ag [.jk, .jk, .jk, .jk, .jk], .v (.jk), .ag [.jk, .jk, .jk, .jk, .jk]] [.ag [.s (.int .i64 r.Kind), .s (.int .i64 r.N), .s (.string r.S), .im true (rowsOf qr r.List_), .im true (rowsOf Str_c r.Names)]] := by
 unfold qJB.f at h
 let qJ := rowsOf qr
 let qh := rowsOf qx
 let qD := rowsOf Str_c
 let qDB := @lenI ByteArray
 show AC Tryz.prog 48 [.ag [.s (.int .i64 qE), .s (.int .i64 a0v_N), .s (.string a0v_S), .im true (qJ qB), .im true (qD qC)], .v (.s (.string a1)), .ag [.s (.int .i64 qsB), .s (.int .i64 a2v_N), .s (.string a2v_S), .im true (qJ qaB), .im true (qD qbB)]] _ _
 refine run3 Tryz.func48 (by rfl) (by rfl) (by cbv) ⟨by decide, rfl⟩ ?_
 intro ar cm bo sc sa sx ss sl bs sb ln sr ap up rp fr ge le lt nz mm ma sm fl al ci hL F hP hA hT hM hC
 refine Run.seq ?_
 refine Run.region hL hT [] (by cbv) hq0 ?_
 refine Run.seq ?_
 refine Run.region hL hT [] (by cbv) ?_ ?_
 · exact (hq Tt hq0)
 refine Run.seq ?_
 refine Run.region hL hT [] (by cbv) hq0 ?_
 obtain ⟨K4, h_K4, h⟩ := joinE h
 refine Run.join3 K4 (r := r) (fun (y1 : List Json) (y2 : List ByteArray) (y3 : Bool) => ⟨83, 100000, [(1, .t (.s (.string a1))), (5, .pt 1 0 0), (6, .pt 2 0 0), (7, .pt 3 0 0), (8, .t (.s (.bool y3)))], [(1, .box 27 [.t (.s (.int .i64 qsB)), .t (.s (.int .i64 a2v_N)), .t (.s (.string a2v_S)), .t (.im true (qJ qaB)), .t (.im true (qD qbB))]), (2, .box 27 [.t (.s (.int .i64 0)), .t (.s (.int .i64 0)), .t (.s (.string ByteArray.empty)), .t (.s (.slice none 0 0)), .t (.s (.slice none 0 0))]), (3, .box 27 [.t (.s (.int .i64 5)), .t (.s (.int .i64 0)), .t (.s (.string ByteArray.empty)), .rf 4, .rf 5]), (4, .row 0 27 5 (qJ y1)), (5, .row 0 9 1 (qD y2))]⟩) ?_ ?_
 ·
  skip
  refine Run.seq ?_
  refine Run.region hL hT [] (by cbv) hq0 ?_
  refine Run.block ?_
  refine Run.loop4 (fun (z45 : List Json) (z46 : List ByteArray) (z47 : Bool) (z48 : Int) => ⟨83, 100000, [(1, .t (.s (.string a1))), (3, .pt 1 0 0), (5, .pt 2 0 0), (6, .pt 3 0 0), (7, .pt 4 0 0), (8, .t (.s (.bool z47))), (9, .t (.s (.int .i64 z48)))], [(1, .box 27 [.t (.s (.int .i64 qE)), .t (.s (.int .i64 a0v_N)), .t (.s (.string a0v_S)), .t (.im true (qJ qB)), .t (.im true (qD qC))]), (2, .box 27 [.t (.s (.int .i64 qsB)), .t (.s (.int .i64 a2v_N)), .t (.s (.string a2v_S)), .t (.im true (qJ qaB)), .t (.im true (qD qbB))]), (3, .box 27 [.t (.s (.int .i64 0)), .t (.s (.int .i64 0)), .t (.s (.string ByteArray.empty)), .t (.s (.slice none 0 0)), .t (.s (.slice none 0 0))]), (4, .box 27 [.t (.s (.int .i64 5)), .t (.s (.int .i64 0)), .t (.s (.string ByteArray.empty)), .rf 5, .rf 6]), (5, .row 0 27 5 (qJ z45)), (6, .row 0 9 1 (qD z46))]⟩) (x0 := []) (x1 := []) (x2 := false) (x3 := 0) h ((Weak.nilB (l := [.t (.s (.int .i64 5)), .t (.s (.int .i64 0)), .t (.s (.string ByteArray.empty))]) hT 4097 3 17384 27 rfl (by cbv) (by cbv) (by cbv)).trans ((Weak.nilB (l := [.t (.s (.int .i64 5)), .t (.s (.int .i64 0)), .t (.s (.string ByteArray.empty)), .rf 17384]) hT 4097 4 17385 9 rfl (by cbv) (by cbv) (by cbv)).trans (Weak.of _ [(1, 0), (2, 1), (3, 2), (4, 4097), (5, 17384), (6, 17385)] hA (by cbv) ?_))) (fun _ _ _ _ => rfl) ?_
  · repeat (first | exact hq0 | refine hq (by first | exact Tt | rfl) ?_)
  intro k z45 z46 z47 z48 h
  rw [qJB.l0] at h
  refine Run.seq ?_
  refine Run.seq ?_
  refine Run.region hL hT [] (by cbv) ?_ ?_
  · exact (hq Tt (hq Tt hq0))
  rw [show ln (qD qC) = qDB qC from ln_eq Str_c _]
  refine Run.cond (by cbv) (hq0) (fun c49 => ?_) (fun c49 => ?_)
  ·
   have h := if_t c49 h
   refine Run.skip ?_
   refine Run.seq ?_
   refine Run.block ?_
   obtain ⟨K53, h_K53, h⟩ := joinE h
   refine Run.join3 K53 (r := r) (fun (y50 : List Json) (y51 : List ByteArray) (y52 : Bool) => ⟨83, 100000, [(1, .t (.s (.string a1))), (3, .pt 1 0 0), (5, .pt 2 0 0), (6, .pt 3 0 0), (7, .pt 4 0 0), (8, .t (.s (.bool y52))), (9, .t (.s (.int .i64 z48)))], [(1, .box 27 [.t (.s (.int .i64 qE)), .t (.s (.int .i64 a0v_N)), .t (.s (.string a0v_S)), .t (.im true (qJ qB)), .t (.im true (qD qC))]), (2, .box 27 [.t (.s (.int .i64 qsB)), .t (.s (.int .i64 a2v_N)), .t (.s (.string a2v_S)), .t (.im true (qJ qaB)), .t (.im true (qD qbB))]), (3, .box 27 [.t (.s (.int .i64 0)), .t (.s (.int .i64 0)), .t (.s (.string ByteArray.empty)), .t (.s (.slice none 0 0)), .t (.s (.slice none 0 0))]), (4, .box 27 [.t (.s (.int .i64 5)), .t (.s (.int .i64 0)), .t (.s (.string ByteArray.empty)), .rf 5, .rf 6]), (5, .row 0 27 5 (qJ y50)), (6, .row 0 9 1 (qD y51))]⟩) ?_ ?_
   ·
    skip
    refine Run.seq ?_
    obtain ⟨x54, h_x54, h⟩ := bnd h
    refine Run.region hL hT [(6, .el [.s (.string x54)])] (by cbv) ?_ ?_
    · exact (hq (fun _ => hq0) (hq (fun g56 => (hq g56 (hq Tt hq0))) (hq (fun _ => hq0) (hq (fun g58 => (hq g58 (hq g58 (hq (qoB (gd_t h_x54 g58)) (hq (qqB (f := Str_c) (gd_t h_x54 g58)) (hq (qdC (f := Str_c) (gd_t h_x54 g58)) hq0)))))) (hq (fun g59 => (hq g59 hq0)) (hq (fun _ => hq0) (hq (fun g61 => (hq g61 (hq g61 hq0))) (hq (fun q62 => (hq q62 hq0)) (hq (fun _ => hq0) hq0)))))))))
    refine Run.cond (by cbv) (hq0) (fun c64 => ?_) (fun c64 => ?_)
    ·
     have h := if_t c64 h
     refine Run.seq ?_
     obtain ⟨l65, h_l65, h⟩ := bnd h
     obtain ⟨l66, h_l66, h⟩ := bnd h
     refine Run.region hL hT [] (by cbv) ?_ ?_
     · exact (hq Tt (hq (qiB (P := Tryz.prog) (f := Str_c) RLe.r (qU (f := Str_c) h_l65 (RLe.cons rfl LLe.r RLe.nil)) h_l66) (hq Tt hq0)))
     refine Run.row (rows := (ap (qD z46) ([[.s (.string a1)]]))) 108196 (qD l66) (by cbv) (qdB (f := Str_c) RLe.r (qU (f := Str_c) h_l65 (RLe.cons rfl LLe.r RLe.nil)) h_l66) ?_
     refine Run.seq ?_
     obtain ⟨l67, h_l67, h⟩ := bnd h
     obtain ⟨l68, h_l68, h⟩ := bnd h
     refine Run.region hL hT [] (by cbv) ?_ ?_
     · exact (hq Tt (hq Tt (hq (qiB (P := Tryz.prog) (f := qr) RLe.r (qOB qLB h_l67 (RLe.cons rfl LLe.r RLe.nil)) h_l68) (hq Tt hq0))))
     refine Run.row (rows := (ap (qJ z45) ([[.s (.int .i64 qsB), .s (.int .i64 a2v_N), .s (.string a2v_S), .im true (qJ qaB), .im true (qD qbB)]]))) 112292 (qJ l68) (by cbv) (qdB (f := qr) RLe.r (qOB qLB h_l67 (RLe.cons rfl LLe.r RLe.nil)) h_l68) ?_
     refine Run.region hL hT [] (by cbv) hq0 ?_
     refine ⟨l68, l66, true, h, Weak.of _ [(1, 1), (2, 2), (3, 3), (4, 4), (5, 112292), (6, 108196)] hA (by cbv) ?_⟩
     repeat (first | exact hq0 | refine hq (by first | exact Tt | rfl) ?_)
    have h := if_f c64 h
    refine Run.skip ?_
    refine ⟨z45, z46, z47, h, Weak.of _ [(1, 1), (2, 2), (3, 3), (4, 4), (5, 5), (6, 6)] hA (by cbv) ?_⟩
    repeat (first | exact hq0 | refine hq (by first | exact Tt | rfl) ?_)
   intro y50 y51 y52 h
   rw [h_K53] at h
   refine Run.seq ?_
   obtain ⟨x69, h_x69, h⟩ := bnd h
   refine Run.region hL hT [(3, .el [.s (.string x69)])] (by cbv) ?_ ?_
   · exact (hq Tt (hq (qoB h_x69) (hq (qqB (f := Str_c) h_x69) (hq (qdC (f := Str_c) h_x69) hq0))))
   refine Run.cond (by cbv) (hq0) (fun c70 => ?_) (fun c70 => ?_)
   ·
    have h := if_t c70 h
    refine Run.seq ?_
    obtain ⟨l71, h_l71, h⟩ := bnd h
    obtain ⟨l72, h_l72, h⟩ := bnd h
    refine Run.draw hL hT hM [(5, .el [.s (.string x69)])] (by cbv) (qA (by cbv) (by cbv) (qA (by cbv) (by cbv) (qA (by cbv) (by cbv) (qA (by cbv) (by cbv) (qA (by cbv) (by cbv) (qA (by cbv) (by cbv) (qA (by cbv) (by cbv) (qA (by cbv) (by cbv) (qA (by cbv) (by cbv) (qA (by cbv) (by cbv) (qA (by cbv) (by cbv) ql))))))))))) (by cbv) (by cbv) (by cbv) ?_ ?_
    · exact (hq Tt (hq Tt (hq (qoB h_x69) (hq (qqB (f := Str_c) h_x69) (hq (qdC (f := Str_c) h_x69) (hq (qiB (P := Tryz.prog) (f := Str_c) RLe.r (qU (f := Str_c) h_l71 (RLe.cons rfl LLe.r RLe.nil)) h_l72) (hq Tt hq0)))))))
    refine Run.row (rows := (ap (qD y51) ([[.s (.string x69)]]))) 104104 (qD l72) (by cbv) (qdB (f := Str_c) RLe.r (qU (f := Str_c) h_l71 (RLe.cons rfl LLe.r RLe.nil)) h_l72) ?_
    obtain ⟨⟨qCF, qQM, qRM, qLE, qME⟩, h_x73, h⟩ := bnd h
    obtain ⟨l74, h_l74, h⟩ := bnd h
    obtain ⟨l75, h_l75, h⟩ := bnd h
    refine Run.draw hL hT hM [(5, .el [.s (.int .i64 qCF), .s (.int .i64 qQM), .s (.string qRM), .im true (qJ qLE), .im true (qD qME)])] (by cbv) (qA (by cbv) (by cbv) (qA (by cbv) (by cbv) (qA (by cbv) (by cbv) (qA (by cbv) (by cbv) (qA (by cbv) (by cbv) (qA (by cbv) (by cbv) (qA (by cbv) (by cbv) (qA (by cbv) (by cbv) (qA (by cbv) (by cbv) (qA (by cbv) (by cbv) (qA (by cbv) (by cbv) ql))))))))))) (by cbv) (by cbv) (by cbv) ?_ ?_
    · exact (hq Tt (hq Tt (hq (qoB h_x73) (hq (qqB (f := qr) h_x73) (hq (qxE qLB h_x73) (hq (qiB (P := Tryz.prog) (f := qr) RLe.r (qOB qLB h_l74 (RLe.cons rfl LLe.r RLe.nil)) h_l75) (hq Tt hq0)))))))
    refine Run.row (rows := (ap (qJ y50) ([[.s (.int .i64 qCF), .s (.int .i64 qQM), .s (.string qRM), .im true (qJ qLE), .im true (qD qME)]]))) 108200 (qJ l75) (by cbv) (qdB (f := qr) RLe.r (qOB qLB h_l74 (RLe.cons rfl LLe.r RLe.nil)) h_l75) ?_
    refine Run.region hL hT [] (by cbv) ?_ ?_
    · exact (hq Tt hq0)
    refine ⟨l75, l72, y52, (ar .add .i64 z48 1), h, Weak.of _ [(1, 1), (2, 2), (3, 3), (4, 4), (5, 108200), (6, 104104)] hA (by cbv) ?_⟩
    repeat (first | exact hq0 | refine hq (by first | exact Tt | rfl) ?_)
   have h := if_f c70 h
   refine Run.skip ?_
   refine Run.region hL hT [] (by cbv) ?_ ?_
   · exact (hq Tt hq0)
   refine ⟨y50, y51, y52, (ar .add .i64 z48 1), h, Weak.of _ [(1, 1), (2, 2), (3, 3), (4, 4), (5, 5), (6, 6)] hA (by cbv) ?_⟩
   repeat (first | exact hq0 | refine hq (by first | exact Tt | rfl) ?_)
  have h := if_f c49 h
  refine Run.exit ?_
  refine ⟨z45, z46, z47, h, Weak.of _ [(1, 2), (2, 3), (3, 4), (4, 5), (5, 6)] hA (by cbv) ?_⟩
  repeat (first | exact hq0 | refine hq (by first | exact Tt | rfl) ?_)
 intro y1 y2 y3 h
 rw [h_K4] at h
 refine Run.seq ?_
 refine Run.seq ?_
 refine Run.region hL hT [] (by cbv) hq0 ?_
 refine Run.cond (by cbv) (hq0) (fun c76 => ?_) (fun c76 => ?_)
 ·
  have h := if_t c76 h
  refine Run.seq ?_
  obtain ⟨l77, h_l77, h⟩ := bnd h
  obtain ⟨l78, h_l78, h⟩ := bnd h
  refine Run.region hL hT [] (by cbv) ?_ ?_
  · exact (hq Tt (hq (qiB (P := Tryz.prog) (f := Str_c) RLe.r (qU (f := Str_c) h_l77 (RLe.cons rfl LLe.r RLe.nil)) h_l78) (hq Tt hq0)))
  refine Run.row (rows := (ap (qD y2) ([[.s (.string a1)]]))) 104100 (qD l78) (by cbv) (qdB (f := Str_c) RLe.r (qU (f := Str_c) h_l77 (RLe.cons rfl LLe.r RLe.nil)) h_l78) ?_
  obtain ⟨l79, h_l79, h⟩ := bnd h
  obtain ⟨l80, h_l80, h⟩ := bnd h
  refine Run.region hL hT [] (by cbv) ?_ ?_
  · exact (hq Tt (hq Tt (hq (qiB (P := Tryz.prog) (f := qr) RLe.r (qOB qLB h_l79 (RLe.cons rfl LLe.r RLe.nil)) h_l80) (hq Tt hq0))))
  refine Run.row (rows := (ap (qJ y1) ([[.s (.int .i64 qsB), .s (.int .i64 a2v_N), .s (.string a2v_S), .im true (qJ qaB), .im true (qD qbB)]]))) 108196 (qJ l80) (by cbv) (qdB (f := qr) RLe.r (qOB qLB h_l79 (RLe.cons rfl LLe.r RLe.nil)) h_l80) ?_
  refine Run.seq ?_
  refine Run.region hL hT [] (by cbv) ?_ ?_
  · exact (hq Tt (hq Tt hq0))
  refine Run.weak ?_ (Weak.keepL (rows := qJ l80) 108196 (by cbv) (qJ l80) (qYC _))
  refine Run.weak ?_ (Weak.keep (rows := qD l78) 104100 (by cbv) (qD l78) (qxB qwB _))
  refine Run.ret ?_
  cases h
  refine ⟨_, _, by cbv, ?_, ?_⟩
  · exact LLe.r
  exact (ALe.ag rfl LLe.r ALe.nil)
 have h := if_f c76 h
 refine Run.skip ?_
 refine Run.seq ?_
 refine Run.region hL hT [] (by cbv) ?_ ?_
 · exact (hq Tt (hq Tt hq0))
 refine Run.weak ?_ (Weak.keepL (rows := qJ y1) 4 (by cbv) (qJ y1) (qYC _))
 refine Run.weak ?_ (Weak.keep (rows := qD y2) 5 (by cbv) (qD y2) (qxB qwB _))
 refine Run.ret ?_
 cases h
 refine ⟨_, _, by cbv, ?_, ?_⟩
 · exact LLe.r
 exact (ALe.ag rfl LLe.r ALe.nil)
theorem qjF (self : l1Cur → Int → Option (l1Cur × Json)) (hself : ∀ {a0v_b : List Int} {a0v_i : Int} {a0v_h : Int} {a1 : Int} {r : l1Cur × Json} (h : self (l1Cur.mk a0v_b a0v_i a0v_h) a1 = some r), AC Tryz.prog 25 [.v (.bx 53 [.im true (rowsOf u8_c a0v_b), .s (.int .i64 a0v_i), .s (.int .i64 a0v_h)]), .v (.s (.int .i64 a1))] [.v (.bx 53 [.im true (rowsOf u8_c a0v_b), .s (.int .i64 r.1.i), .s (.int .i64 r.1.h)]), .v (.jk)] [.ag [.s (.int .i64 r.2.Kind), .s (.int .i64 r.2.N), .s (.string r.2.S), .im true (rowsOf qr r.2.List_), .im true (rowsOf Str_c r.2.Names)]]) {a0v_b : List Int} {a0v_i : Int} {a0v_h : Int} {a1 : Int} {r : l1Cur × Json} (h : qF.b self (l1Cur.mk a0v_b a0v_i a0v_h) a1 = some r) : AC Tryz.prog 25 [.v (.bx 53 [.im true (rowsOf u8_c a0v_b), .s (.int .i64 a0v_i), .s (.int .i64 a0v_h)]), .v (.s (.int .i64 a1))] [.v (.bx 53 [.im true (rowsOf u8_c a0v_b), .s (.int .i64 r.1.i), .s (.int .i64 r.1.h)]), .v (.jk)] [.ag [.s (.int .i64 r.2.Kind), .s (.int .i64 r.2.N), .s (.string r.2.S), .im true (rowsOf qr r.2.List_), .im true (rowsOf Str_c r.2.Names)]] := by
 unfold qF.b at h
 let qhG := rowsOf Int_c
 let qM := rowsOf qN
 let qJ := rowsOf qr
 let qh := rowsOf qx
 let qD := rowsOf Str_c
 let eu8_c := rowsOf u8_c
 show AC Tryz.prog 25 [.v (.bx 53 [.im true (eu8_c a0v_b), .s (.int .i64 a0v_i), .s (.int .i64 a0v_h)]), .v (.s (.int .i64 a1))] _ _
 refine run3 Tryz.func25 (by rfl) (by rfl) (by cbv) ⟨by decide, rfl⟩ ?_
 intro ar cm bo sc sa sx ss sl bs sb ln sr ap up rp fr ge le lt nz mm ma sm fl al ci hL F hP hA hT hM hC
 refine Run.seq ?_
 refine Run.region hL hT [] (by cbv) hq0 ?_
 refine Run.seq ?_
 obtain ⟨⟨⟨qgG, qbC, qcC⟩, r1v_2⟩, h_r1, h⟩ := bnd h
 refine Run.region hL hT [(1, .call [true, false] [.v (.bx 53 [.im true (eu8_c a0v_b), .s (.int .i64 qbC), .s (.int .i64 qcC)]), .v (.jk)] [.v (.s (.int .i64 r1v_2))])] (by cbv) ?_ ?_
 · exact (hq (hC (qa h_r1)) hq0)
 obtain ⟨K5, h_K5, h⟩ := joinE h
 refine Run.join3 K5 (r := r) (fun (y2 : Int) (y3 : Int) (y4 : Int) => ⟨80, 100000, [(0, .pt 0 0 0), (1, .t (.s (.int .i64 a1))), (4, .pt 1 0 0), (5, .t (.s (.int .i64 y4)))], [(0, .box 53 [.t (.im true (eu8_c a0v_b)), .t (.s (.int .i64 y2)), .t (.s (.int .i64 y3))]), (1, .box 27 [.t (.s (.int .i64 0)), .t (.s (.int .i64 0)), .t (.s (.string ByteArray.empty)), .t (.s (.slice none 0 0)), .t (.s (.slice none 0 0))])]⟩) ?_ ?_
 ·
  skip
  refine Run.seq ?_
  refine Run.region hL hT [] (by cbv) ?_ ?_
  · exact (hq Tt hq0)
  refine Run.cond (by cbv) (hq0) (fun c6 => ?_) (fun c6 => ?_)
  ·
   have h := if_t c6 h
   obtain ⟨⟨⟨qsK, qbD, qcD⟩, r7v_2⟩, h_r7, h⟩ := bnd h
   refine Run.region hL hT [(1, .call [true, false] [.v (.bx 53 [.im true (eu8_c a0v_b), .s (.int .i64 qbD), .s (.int .i64 qcD)]), .v (.jk)] [.v (.s (.int .i64 r7v_2))])] (by cbv) ?_ ?_
   · exact (hq (hC (qa h_r7)) hq0)
   refine ⟨qbD, qcD, r7v_2, h, Weak.of _ [(0, 0), (1, 1)] hA (by cbv) ?_⟩
   repeat (first | exact hq0 | refine hq (by first | exact Tt | rfl) ?_)
  have h := if_f c6 h
  refine Run.skip ?_
  refine ⟨qbC, qcC, r1v_2, h, Weak.of _ [(0, 0), (1, 1)] hA (by cbv) ?_⟩
  repeat (first | exact hq0 | refine hq (by first | exact Tt | rfl) ?_)
 intro y2 y3 y4 h
 rw [h_K5] at h
 obtain ⟨K9, h_K9, h⟩ := joinE h
 refine Run.join1 K9 (r := r) (fun (y8 : Unit) => ⟨80, 100000, [(0, .pt 0 0 0), (1, .t (.s (.int .i64 a1))), (4, .pt 1 0 0)], [(0, .box 53 [.t (.im true (eu8_c a0v_b)), .t (.s (.int .i64 y2)), .t (.s (.int .i64 y3))]), (1, .box 27 [.t (.s (.int .i64 0)), .t (.s (.int .i64 0)), .t (.s (.string ByteArray.empty)), .t (.s (.slice none 0 0)), .t (.s (.slice none 0 0))])]⟩) ?_ ?_
 ·
  skip
  refine Run.seq ?_
  refine Run.region hL hT [] (by cbv) hq0 ?_
  refine Run.block ?_
  refine Run.seq ?_
  refine Run.region hL hT [] (by cbv) ?_ ?_
  · exact (hq Tt hq0)
  refine Run.cond (by cbv) (hq0) (fun c10 => ?_) (fun c10 => ?_)
  ·
   have h := if_t c10 h
   refine Run.seq ?_
   refine Run.region hL hT [] (by cbv) ?_ ?_
   · exact (hq Tt hq0)
   refine Run.ret ?_
   cases h
   refine ⟨_, _, by cbv, ?_, ?_⟩
   · exact LLe.r
   exact (ALe.ag rfl (LLe.c (LLe.c (LLe.c (LLe.cons LLe.nilI (LLe.cons LLe.nilI LLe.nil))))) ALe.nil)
  have h := if_f c10 h
  refine Run.seq ?_
  refine Run.region hL hT [] (by cbv) ?_ ?_
  · exact (hq Tt hq0)
  refine Run.cond (by cbv) (hq0) (fun c11 => ?_) (fun c11 => ?_)
  ·
   have h := if_t c11 h
   refine Run.seq ?_
   obtain ⟨⟨⟨qqQ, qfI, qgI⟩, qhI⟩, h_r12, h⟩ := bnd h
   refine Run.region hL hT [(1, .call [true, false] [.v (.bx 53 [.im true (eu8_c a0v_b), .s (.int .i64 qfI), .s (.int .i64 qgI)]), .v (.jk)] [.v (.s (.int .i64 qhI))])] (by cbv) ?_ ?_
   · exact (hq (hC (qa h_r12)) (hq Tt hq0))
   refine Run.ret ?_
   cases h
   refine ⟨_, _, by cbv, ?_, ?_⟩
   · exact LLe.r
   exact (ALe.ag rfl (LLe.c (LLe.c (LLe.c (LLe.cons LLe.nilI (LLe.cons LLe.nilI LLe.nil))))) ALe.nil)
  have h := if_f c11 h
  refine Run.seq ?_
  refine Run.region hL hT [] (by cbv) ?_ ?_
  · exact (hq Tt hq0)
  refine Run.cond (by cbv) (hq0) (fun c13 => ?_) (fun c13 => ?_)
  ·
   have h := if_t c13 h
   refine Run.seq ?_
   obtain ⟨l14, h_l14, h⟩ := bnd h
   obtain ⟨⟨⟨qrQ, qiI, qjI⟩, qsQ⟩, h_r15, h⟩ := bnd h
   refine Run.region hL hT [(2, .call [true, false] [.v (.bx 53 [.im true (eu8_c a0v_b), .s (.int .i64 qiI), .s (.int .i64 qjI)]), .v (.jk)] [.v (.s (.string qsQ))])] (by cbv) ?_ ?_
   · exact (hq (hC (AC.args (qLC h_r15) (ALe.v LLe.r (ALe.v (qXG rfl (qU (f := Str_c) h_l14 (RLe.cons rfl LLe.r (RLe.cons rfl LLe.r (RLe.cons rfl LLe.r (RLe.cons rfl LLe.r (RLe.cons rfl LLe.r (RLe.cons rfl LLe.r RLe.nil)))))))) ALe.nil)))) (hq Tt hq0))
   refine Run.row (rows := [[.s (.string (ByteArray.mk #[]))], [.s (.string (ByteArray.mk #[120]))], [.s (.string (ByteArray.mk #[97, 34, 98]))], [.s (.string (ByteArray.mk #[97, 92, 92, 98]))], [.s (.string (ByteArray.mk #[104, 101, 108, 108, 111, 32, 116, 104, 101, 114, 101]))], [.s (.string (ByteArray.mk #[126, 49]))]]) 116385 (qD l14) (by cbv) (qU (f := Str_c) h_l14 (RLe.cons rfl LLe.r (RLe.cons rfl LLe.r (RLe.cons rfl LLe.r (RLe.cons rfl LLe.r (RLe.cons rfl LLe.r (RLe.cons rfl LLe.r RLe.nil))))))) ?_
   refine Run.ret ?_
   cases h
   refine ⟨_, _, by cbv, ?_, ?_⟩
   · exact LLe.r
   exact (ALe.ag rfl (LLe.c (LLe.c (LLe.c (LLe.cons LLe.nilI (LLe.cons LLe.nilI LLe.nil))))) ALe.nil)
  have h := if_f c13 h
  obtain ⟨K17, h_K17, h⟩ := joinE h
  refine Run.join1 K17 (r := r) (fun (y16 : Bool) => ⟨80, 100000, [(0, .pt 0 0 0), (1, .t (.s (.int .i64 a1))), (4, .pt 1 0 0), (17, .t (.s (.int .i64 y4))), (32, .t (.s (.bool y16)))], [(0, .box 53 [.t (.im true (eu8_c a0v_b)), .t (.s (.int .i64 y2)), .t (.s (.int .i64 y3))]), (1, .box 27 [.t (.s (.int .i64 0)), .t (.s (.int .i64 0)), .t (.s (.string ByteArray.empty)), .t (.s (.slice none 0 0)), .t (.s (.slice none 0 0))])]⟩) ?_ ?_
  ·
   skip
   refine Run.seq ?_
   refine Run.region hL hT [] (by cbv) ?_ ?_
   · exact (hq Tt hq0)
   refine Run.cond (by cbv) (hq0) (fun c18 => ?_) (fun c18 => ?_)
   ·
    have h := if_t c18 h
    refine Run.skip ?_
    refine ⟨(cm .eql y4 3), h, Weak.of _ [(0, 0), (1, 1)] hA (by cbv) ?_⟩
    repeat (first | exact hq0 | refine hq (by first | exact Tt | rfl) ?_)
   have h := if_f c18 h
   refine Run.region hL hT [] (by cbv) ?_ ?_
   · exact (hq Tt hq0)
   refine ⟨(cm .eql y4 4), h, Weak.of _ [(0, 0), (1, 1)] hA (by cbv) ?_⟩
   repeat (first | exact hq0 | refine hq (by first | exact Tt | rfl) ?_)
  intro y16 h
  rw [h_K17] at h
  refine Run.cond (by cbv) (hq0) (fun c19 => ?_) (fun c19 => ?_)
  ·
   have h := if_t c19 h
   refine Run.seq ?_
   obtain ⟨l20, h_l20, h⟩ := bnd h
   obtain ⟨⟨⟨qtQ, qkI, qlI⟩, qmI⟩, h_r21, h⟩ := bnd h
   refine Run.region hL hT [(2, .call [true, false] [.v (.bx 53 [.im true (eu8_c a0v_b), .s (.int .i64 qkI), .s (.int .i64 qlI)]), .v (.jk)] [.v (.s (.int .i64 qmI))])] (by cbv) ?_ ?_
   · exact (hq (hC (AC.args (qDD h_r21) (ALe.v LLe.r (ALe.v (qXG rfl (qU (f := Int_c) h_l20 (RLe.cons rfl LLe.r (RLe.cons rfl LLe.r (RLe.cons rfl LLe.r (RLe.cons rfl LLe.r (RLe.cons rfl LLe.r (RLe.cons rfl LLe.r RLe.nil)))))))) ALe.nil)))) (hq Tt hq0))
   refine Run.row (rows := [[.s (.int .i64 0)], [.s (.int .i64 1)], [.s (.int .i64 (-5))], [.s (.int .i64 77)], [.s (.int .i64 1000000000)], [.s (.int .i64 (-1000000000))]]) 100001 (qhG l20) (by cbv) (qU (f := Int_c) h_l20 (RLe.cons rfl LLe.r (RLe.cons rfl LLe.r (RLe.cons rfl LLe.r (RLe.cons rfl LLe.r (RLe.cons rfl LLe.r (RLe.cons rfl LLe.r RLe.nil))))))) ?_
   refine Run.ret ?_
   cases h
   refine ⟨_, _, by cbv, ?_, ?_⟩
   · exact LLe.r
   exact (ALe.ag rfl (LLe.c (LLe.c (LLe.c (LLe.cons LLe.nilI (LLe.cons LLe.nilI LLe.nil))))) ALe.nil)
  have h := if_f c19 h
  obtain ⟨K23, h_K23, h⟩ := joinE h
  refine Run.join1 K23 (r := r) (fun (y22 : Bool) => ⟨80, 100000, [(0, .pt 0 0 0), (1, .t (.s (.int .i64 a1))), (4, .pt 1 0 0), (39, .t (.s (.bool y22)))], [(0, .box 53 [.t (.im true (eu8_c a0v_b)), .t (.s (.int .i64 y2)), .t (.s (.int .i64 y3))]), (1, .box 27 [.t (.s (.int .i64 0)), .t (.s (.int .i64 0)), .t (.s (.string ByteArray.empty)), .t (.s (.slice none 0 0)), .t (.s (.slice none 0 0))])]⟩) ?_ ?_
  ·
   skip
   refine Run.seq ?_
   refine Run.region hL hT [] (by cbv) ?_ ?_
   · exact (hq Tt hq0)
   refine Run.cond (by cbv) (hq0) (fun c24 => ?_) (fun c24 => ?_)
   ·
    have h := if_t c24 h
    refine Run.skip ?_
    refine ⟨(cm .eql y4 5), h, Weak.of _ [(0, 0), (1, 1)] hA (by cbv) ?_⟩
    repeat (first | exact hq0 | refine hq (by first | exact Tt | rfl) ?_)
   have h := if_f c24 h
   refine Run.region hL hT [] (by cbv) ?_ ?_
   · exact (hq Tt hq0)
   refine ⟨(cm .eql y4 6), h, Weak.of _ [(0, 0), (1, 1)] hA (by cbv) ?_⟩
   repeat (first | exact hq0 | refine hq (by first | exact Tt | rfl) ?_)
  intro y22 h
  rw [h_K23] at h
  refine Run.cond (by cbv) (hq0) (fun c25 => ?_) (fun c25 => ?_)
  ·
   have h := if_t c25 h
   refine Run.seq ?_
   refine Run.region hL hT [] (by cbv) ?_ ?_
   · exact (hq Tt hq0)
   refine Run.seq ?_
   refine Run.seq ?_
   refine Run.region hL hT [] (by cbv) hq0 ?_
   refine Run.block ?_
   refine Run.loop4 (fun (z49 : Int) (z50 : Int) (z51 : List Json) (z52 : Int) => ⟨80, 100000, [(0, .pt 0 0 0), (1, .t (.s (.int .i64 a1))), (4, .pt 1 0 0), (6, .pt 2 0 0), (7, .t (.s (.int .i64 z52)))], [(0, .box 53 [.t (.im true (eu8_c a0v_b)), .t (.s (.int .i64 z49)), .t (.s (.int .i64 z50))]), (1, .box 27 [.t (.s (.int .i64 0)), .t (.s (.int .i64 0)), .t (.s (.string ByteArray.empty)), .t (.s (.slice none 0 0)), .t (.s (.slice none 0 0))]), (2, .box 27 [.t (.s (.int .i64 4)), .t (.s (.int .i64 0)), .t (.s (.string ByteArray.empty)), .rf 3, .t (.s (.slice none 0 0))]), (3, .row 0 27 5 (qJ z51))]⟩) (x0 := y2) (x1 := y3) (x2 := []) (x3 := 0) h ((Weak.nilB (l := [.t (.s (.int .i64 4)), .t (.s (.int .i64 0)), .t (.s (.string ByteArray.empty))]) hT 100001 3 109192 27 rfl (by cbv) (by cbv) (by cbv)).trans (Weak.of _ [(0, 0), (1, 1), (2, 100001), (3, 109192)] hA (by cbv) ?_)) (fun _ _ _ _ => rfl) ?_
   · repeat (first | exact hq0 | refine hq (by first | exact Tt | rfl) ?_)
   intro k z49 z50 z51 z52 h
   rw [qF.l0] at h
   refine Run.seq ?_
   refine Run.seq ?_
   obtain ⟨⟨⟨quQ, qnI, qoI⟩, qvQ⟩, h_r53, h⟩ := bnd h
   refine Run.region hL hT [(2, .call [true, false] [.v (.bx 53 [.im true (eu8_c a0v_b), .s (.int .i64 qnI), .s (.int .i64 qoI)]), .v (.jk)] [.v (.s (.int .i64 qvQ))])] (by cbv) ?_ ?_
   · exact (hq (hC (qa h_r53)) (hq Tt hq0))
   refine Run.cond (by cbv) (hq0) (fun c54 => ?_) (fun c54 => ?_)
   ·
    have h := if_t c54 h
    refine Run.skip ?_
    refine Run.seq ?_
    refine Run.block ?_
    obtain ⟨⟨⟨qwQ, qDF, qEF⟩, ⟨qPD, qFF, qGF, qvC, qwC⟩⟩, h_r55, h⟩ := bnd h
    obtain ⟨l56, h_l56, h⟩ := bnd h
    obtain ⟨l57, h_l57, h⟩ := bnd h
    refine Run.draw hL hT hM [(5, .call [true, false] [.v (.bx 53 [.im true (eu8_c a0v_b), .s (.int .i64 qDF), .s (.int .i64 qEF)]), .v (.jk)] [.ag [.s (.int .i64 qPD), .s (.int .i64 qFF), .s (.string qGF), .im true (qJ qvC), .im true (qD qwC)]])] (by cbv) (qA (by cbv) (by cbv) (qA (by cbv) (by cbv) (qA (by cbv) (by cbv) (qA (by cbv) (by cbv) (qA (by cbv) (by cbv) (qA (by cbv) (by cbv) (qA (by cbv) (by cbv) (qA (by cbv) (by cbv) (qA (by cbv) (by cbv) (qA (by cbv) (by cbv) ql)))))))))) (by cbv) (by cbv) (by cbv) ?_ ?_
    · exact (hq Tt (hq Tt (hq (hC (hself h_r55)) (hq (qiB (P := Tryz.prog) (f := qr) RLe.r (qOB qLB h_l56 (RLe.cons rfl LLe.r RLe.nil)) h_l57) (hq Tt hq0)))))
    refine Run.row (rows := (ap (qJ z51) ([[.s (.int .i64 qPD), .s (.int .i64 qFF), .s (.string qGF), .im true (qJ qvC), .im true (qD qwC)]]))) 104103 (qJ l57) (by cbv) (qdB (f := qr) RLe.r (qOB qLB h_l56 (RLe.cons rfl LLe.r RLe.nil)) h_l57) ?_
    refine Run.region hL hT [] (by cbv) ?_ ?_
    · exact (hq Tt hq0)
    refine ⟨qDF, qEF, l57, (ar .add .i64 z52 1), h, Weak.of _ [(0, 0), (1, 1), (2, 2), (3, 104103)] hA (by cbv) ?_⟩
    repeat (first | exact hq0 | refine hq (by first | exact Tt | rfl) ?_)
   have h := if_f c54 h
   refine Run.exit ?_
   refine Run.seq ?_
   refine Run.region hL hT [] (by cbv) ?_ ?_
   · exact (hq Tt (hq Tt hq0))
   refine Run.weak ?_ (Weak.keepL (rows := qJ z51) 3 (by cbv) (qJ z51) (qYC _))
   refine Run.ret ?_
   cases h
   refine ⟨_, _, by cbv, ?_, ?_⟩
   · exact LLe.r
   exact (ALe.ag rfl (LLe.c (LLe.c (LLe.c (LLe.c (LLe.cons LLe.nilI LLe.nil))))) ALe.nil)
  have h := if_f c25 h
  refine Run.skip ?_
  refine ⟨(), h, Weak.of _ [(0, 0), (1, 1)] hA (by cbv) ?_⟩
  repeat (first | exact hq0 | refine hq (by first | exact Tt | rfl) ?_)
 intro y8 h
 rw [h_K9] at h
 refine Run.seq ?_
 refine Run.region hL hT [] (by cbv) ?_ ?_
 · exact (hq Tt hq0)
 refine Run.seq ?_
 refine Run.seq ?_
 refine Run.region hL hT [] (by cbv) hq0 ?_
 refine Run.block ?_
 refine Run.loop8 (fun (z82 : Int) (z83 : Int) (z84 : Int) (z85 : Int) (z86 : ByteArray) (z87 : List Json) (z88 : List ByteArray) (z89 : Int) => ⟨80, 100000, [(0, .pt 0 0 0), (1, .t (.s (.int .i64 a1))), (4, .pt 1 0 0), (8, .pt 2 0 0), (9, .t (.s (.int .i64 z89)))], [(0, .box 53 [.t (.im true (eu8_c a0v_b)), .t (.s (.int .i64 z82)), .t (.s (.int .i64 z83))]), (1, .box 27 [.t (.s (.int .i64 0)), .t (.s (.int .i64 0)), .t (.s (.string ByteArray.empty)), .t (.s (.slice none 0 0)), .t (.s (.slice none 0 0))]), (2, .box 27 [.t (.s (.int .i64 z84)), .t (.s (.int .i64 z85)), .t (.s (.string z86)), .t (.im true (qJ z87)), .t (.im true (qD z88))])]⟩) (x0 := y2) (x1 := y3) (x2 := 5) (x3 := 0) (x4 := ByteArray.empty) (x5 := []) (x6 := []) (x7 := 0) h ((Weak.cellB (l := [.t (.s (.int .i64 5)), .t (.s (.int .i64 0)), .t (.s (.string ByteArray.empty))]) (y := .im true (qJ [])) 100001 (by cbv) LLe.nilI).trans ((Weak.cellB (l := [.t (.s (.int .i64 5)), .t (.s (.int .i64 0)), .t (.s (.string ByteArray.empty)), .t (.im true (qJ []))]) (y := .im true (qD [])) 100001 (by cbv) LLe.nilI).trans (Weak.of _ [(0, 0), (1, 1), (2, 100001)] hA (by cbv) ?_))) (fun _ _ _ _ _ _ _ _ => rfl) ?_
 · repeat (first | exact hq0 | refine hq (by first | exact Tt | rfl) ?_)
 intro k z82 z83 z84 z85 z86 z87 z88 z89 h
 rw [qF.l1] at h
 refine Run.seq ?_
 refine Run.seq ?_
 obtain ⟨⟨⟨qxQ, qpI, qqI⟩, qyQ⟩, h_r90, h⟩ := bnd h
 refine Run.region hL hT [(2, .call [true, false] [.v (.bx 53 [.im true (eu8_c a0v_b), .s (.int .i64 qpI), .s (.int .i64 qqI)]), .v (.jk)] [.v (.s (.int .i64 qyQ))])] (by cbv) ?_ ?_
 · exact (hq (hC (qa h_r90)) (hq Tt hq0))
 refine Run.cond (by cbv) (hq0) (fun c91 => ?_) (fun c91 => ?_)
 ·
  have h := if_t c91 h
  refine Run.skip ?_
  refine Run.seq ?_
  refine Run.block ?_
  refine Run.seq ?_
  obtain ⟨⟨⟨qzQ, qHF, qIF⟩, qAR⟩, h_r92, h⟩ := bnd h
  refine Run.region hL hT [(1, .call [true] [.v (.bx 53 [.im true (eu8_c a0v_b), .s (.int .i64 qHF), .s (.int .i64 qIF)])] [.v (.s (.string qAR))])] (by cbv) ?_ ?_
  · exact (hq (hC (qyD h_r92)) hq0)
  refine Run.seq ?_
  obtain ⟨r93, h_r93, h⟩ := bnd h
  refine Run.region hL hT [(2, .call [false, false] [.ag [.jk, .jk, .jk, .jk, .jk], .v (.jk)] [.v (.s (.int .i64 r93))])] (by cbv) ?_ ?_
  · exact (hq Tt (hq (hC (AC.args (qSH h_r93) (ALe.ag rfl (LLe.c (LLe.c (LLe.c (LLe.cons (LLe.im (qOD _)) (LLe.c LLe.nil))))) (ALe.v LLe.r ALe.nil)))) (hq Tt hq0)))
  refine Run.cond (by cbv) (hq0) (fun c94 => ?_) (fun c94 => ?_)
  ·
   have h := if_t c94 h
   obtain ⟨⟨⟨qBR, qJF, qKF⟩, ⟨qLF, qrI, qsI, qbE, qcE⟩⟩, h_r95, h⟩ := bnd h
   obtain ⟨⟨qMF, qSM, qTM, qNE, qOE⟩, h_r96, h⟩ := bnd h
   refine Run.draw hL hT hM [(5, .call [true, false] [.v (.bx 53 [.im true (eu8_c a0v_b), .s (.int .i64 qJF), .s (.int .i64 qKF)]), .v (.jk)] [.ag [.s (.int .i64 qLF), .s (.int .i64 qrI), .s (.string qsI), .im true (qJ qbE), .im true (qD qcE)]]), (6, .call [true, false, true] [.ag [.jk, .jk, .jk, .jk, .jk], .v (.jk), .ag [.jk, .jk, .jk, .jk, .jk]] [.ag [.s (.int .i64 qMF), .s (.int .i64 qSM), .s (.string qTM), .im true (qJ qNE), .im true (qD qOE)]])] (by cbv) (qA (by cbv) (by cbv) (qA (by cbv) (by cbv) (qA (by cbv) (by cbv) (qA (by cbv) (by cbv) (qA (by cbv) (by cbv) (qA (by cbv) (by cbv) (qA (by cbv) (by cbv) (qA (by cbv) (by cbv) ql)))))))) (by cbv) (by cbv) (by cbv) ?_ ?_
   · exact (hq Tt (hq Tt (hq (hC (hself h_r95)) (hq (hC (qtK h_r96)) (hq Tt hq0)))))
   refine Run.region hL hT [] (by cbv) ?_ ?_
   · exact (hq Tt hq0)
   refine ⟨qJF, qKF, qMF, qSM, qTM, qNE, qOE, (ar .add .i64 z89 1), h, Weak.of _ [(0, 0), (1, 1), (2, 2)] hA (by cbv) ?_⟩
   repeat (first | exact hq0 | refine hq (by first | exact Tt | rfl) ?_)
  have h := if_f c94 h
  refine Run.skip ?_
  refine Run.region hL hT [] (by cbv) ?_ ?_
  · exact (hq Tt hq0)
  refine ⟨qHF, qIF, z84, z85, z86, z87, z88, (ar .add .i64 z89 1), h, Weak.of _ [(0, 0), (1, 1), (2, 2)] hA (by cbv) ?_⟩
  repeat (first | exact hq0 | refine hq (by first | exact Tt | rfl) ?_)
 have h := if_f c91 h
 refine Run.exit ?_
 refine Run.seq ?_
 refine Run.region hL hT [] (by cbv) ?_ ?_
 · exact (hq Tt (hq Tt hq0))
 refine Run.ret ?_
 cases h
 refine ⟨_, _, by cbv, ?_, ?_⟩
 · exact LLe.r
 exact (ALe.ag rfl LLe.r ALe.nil)
theorem qUD : ∀ (k : Nat) {a0v_b : List Int} {a0v_i : Int} {a0v_h : Int} {a1 : Int} {r : l1Cur × Json} (h : qF.g k (l1Cur.mk a0v_b a0v_i a0v_h) a1 = some r), AC Tryz.prog 25 [.v (.bx 53 [.im true (rowsOf u8_c a0v_b), .s (.int .i64 a0v_i), .s (.int .i64 a0v_h)]), .v (.s (.int .i64 a1))] [.v (.bx 53 [.im true (rowsOf u8_c a0v_b), .s (.int .i64 r.1.i), .s (.int .i64 r.1.h)]), .v (.jk)] [.ag [.s (.int .i64 r.2.Kind), .s (.int .i64 r.2.N), .s (.string r.2.S), .im true (rowsOf qr r.2.List_), .im true (rowsOf Str_c r.2.Names)]]
 | 0 => fun h => by cases h
 | k + 1 => fun h => qjF (qF.g k) (qUD k) h
theorem qmC {a0v_b : List Int} {a0v_i : Int} {a0v_h : Int} {a1 : Int} {r : l1Cur × Json} (h : qF.f (l1Cur.mk a0v_b a0v_i a0v_h) a1 = some r) : AC Tryz.prog 25 [.v (.bx 53 [.im true (rowsOf u8_c a0v_b), .s (.int .i64 a0v_i), .s (.int .i64 a0v_h)]), .v (.s (.int .i64 a1))] [.v (.bx 53 [.im true (rowsOf u8_c a0v_b), .s (.int .i64 r.1.i), .s (.int .i64 r.1.h)]), .v (.jk)] [.ag [.s (.int .i64 r.2.Kind), .s (.int .i64 r.2.N), .s (.string r.2.S), .im true (rowsOf qr r.2.List_), .im true (rowsOf Str_c r.2.Names)]] := qUD 20 h
theorem qTH {a0 : Int} {a1 : Int} {a2 : Int} {r : Bool} (h : qFE.f a0 a1 a2 = some r) : AC Tryz.prog 61 [.v (.s (.int .i64 a0)), .v (.s (.int .i64 a1)), .v (.s (.int .i64 a2))] [.v (.jk), .v (.jk), .v (.jk)] [.v (.s (.bool r))] := by
 unfold qFE.f at h
 show AC Tryz.prog 61 [.v (.s (.int .i64 a0)), .v (.s (.int .i64 a1)), .v (.s (.int .i64 a2))] _ _
 refine run3 Tryz.func61 (by rfl) (by rfl) (by cbv) ⟨by decide, rfl⟩ ?_
 intro ar cm bo sc sa sx ss sl bs sb ln sr ap up rp fr ge le lt nz mm ma sm fl al ci hL F hP hA hT hM hC
 refine Run.seq ?_
 refine Run.region hL hT [] (by cbv) hq0 ?_
 refine Run.seq ?_
 refine Run.region hL hT [] (by cbv) ?_ ?_
 · exact (hq Tt (hq (fun _ => hq0) (hq (fun _ => hq0) (hq (fun g3 => (hq g3 (hq g3 (hq Tt hq0)))) (hq (fun q4 => (hq q4 hq0)) (hq (fun _ => hq0) hq0))))))
 refine Run.ret ?_
 cases h
 refine ⟨_, _, by cbv, ?_, ?_⟩
 · exact LLe.r
 exact (ALe.v LLe.r ALe.nil)
theorem qzF {a0 : ByteArray} {r : Bool} (h : qfB.f a0 = some r) : AC Tryz.prog 62 [.v (.s (.string a0))] [.v (.jk)] [.v (.s (.bool r))] := by
 unfold qfB.f at h
 show AC Tryz.prog 62 [.v (.s (.string a0))] _ _
 refine run3 Tryz.func62 (by rfl) (by rfl) (by cbv) ⟨by decide, rfl⟩ ?_
 intro ar cm bo sc sa sx ss sl bs sb ln sr ap up rp fr ge le lt nz mm ma sm fl al ci hL F hP hA hT hM hC
 refine Run.seq ?_
 refine Run.region hL hT [] (by cbv) hq0 ?_
 refine Run.seq ?_
 refine Run.seq ?_
 refine Run.region hL hT [] (by cbv) hq0 ?_
 refine Run.block ?_
 refine Run.loop1 (fun (z3 : Int) => ⟨23, 100000, [(0, .t (.s (.string a0))), (3, .t (.s (.int .i64 z3)))], []⟩) (x0 := 0) h (Weak.of _ [] hA (by cbv) ?_) (fun _ => rfl) ?_
 · repeat (first | exact hq0 | refine hq (by first | exact Tt | rfl) ?_)
 intro k z3 h
 rw [qfB.l0] at h
 refine Run.seq ?_
 refine Run.seq ?_
 refine Run.region hL hT [] (by cbv) ?_ ?_
 · exact (hq Tt hq0)
 refine Run.cond (by cbv) (hq0) (fun c4 => ?_) (fun c4 => ?_)
 ·
  have h := if_t c4 h
  refine Run.skip ?_
  refine Run.seq ?_
  refine Run.block ?_
  refine Run.seq ?_
  obtain ⟨u5, h_u5, h⟩ := bnd h
  obtain ⟨u6, h_u6, h⟩ := bnd h
  refine Run.region hL hT [] (by cbv) ?_ ?_
  · exact (hq (inS_0 h_u5) (hq (inS_1 h_u5) (hq Tt (hq (fun _ => hq0) (hq (fun _ => hq0) (hq (fun g9 => (hq g9 (hq g9 (hq (inS_0 (gd_t h_u6 g9)) (hq (inS_1 (gd_t h_u6 g9)) hq0))))) (hq (fun g10 => (hq g10 (hq Tt hq0))) (hq (fun _ => hq0) (hq (fun q12 => (hq (bo_m q12) hq0)) hq0)))))))))
  refine Run.cond (by cbv) (hq0) (fun c13 => ?_) (fun c13 => ?_)
  ·
   have h := if_t c13 h
   refine Run.seq ?_
   refine Run.region hL hT [] (by cbv) hq0 ?_
   refine Run.ret ?_
   cases h
   refine ⟨_, _, by cbv, ?_, ?_⟩
   · exact LLe.r
   exact (ALe.v LLe.r ALe.nil)
  have h := if_f c13 h
  refine Run.skip ?_
  refine Run.region hL hT [] (by cbv) ?_ ?_
  · exact (hq Tt hq0)
  refine ⟨(ar .add .i64 z3 1), h, Weak.of _ [] hA (by cbv) ?_⟩
  repeat (first | exact hq0 | refine hq (by first | exact Tt | rfl) ?_)
 have h := if_f c4 h
 refine Run.exit ?_
 refine Run.seq ?_
 refine Run.region hL hT [] (by cbv) ?_ ?_
 · exact (hq Tt hq0)
 refine Run.ret ?_
 cases h
 refine ⟨_, _, by cbv, ?_, ?_⟩
 · exact LLe.r
 exact (ALe.v LLe.r ALe.nil)
theorem qtI {qE : Int} {a0v_N : Int} {a0v_S : ByteArray} {qB : List Json} {qC : List ByteArray} {r : Bool} (h : qSB.f (Json.mk qE a0v_N a0v_S qB qC) = some r) : AC Tryz.prog 63 [.ag [.s (.int .i64 qE), .s (.int .i64 a0v_N), .s (.string a0v_S), .im false (rowsOf qN qB), .im false (rowsOf Str_c qC)]] [.ag [.jk, .jk, .jk, .jk, .jk]] [.v (.s (.bool r))] := by
 unfold qSB.f at h
 let qM := rowsOf qN
 let qD := rowsOf Str_c
 let qV := @lenI Json
 let qDB := @lenI ByteArray
 show AC Tryz.prog 63 [.ag [.s (.int .i64 qE), .s (.int .i64 a0v_N), .s (.string a0v_S), .im false (qM qB), .im false (qD qC)]] _ _
 refine run3 Tryz.func63 (by rfl) (by rfl) (by cbv) ⟨by decide, rfl⟩ ?_
 intro ar cm bo sc sa sx ss sl bs sb ln sr ap up rp fr ge le lt nz mm ma sm fl al ci hL F hP hA hT hM hC
 refine Run.seq ?_
 refine Run.region hL hT [] (by cbv) hq0 ?_
 refine Run.seq ?_
 refine Run.seq ?_
 refine Run.region hL hT [] (by cbv) ?_ ?_
 · exact (hq Tt (hq Tt hq0))
 refine Run.cond (by cbv) (hq0) (fun c1 => ?_) (fun c1 => ?_)
 ·
  have h := if_t c1 h
  refine Run.seq ?_
  refine Run.region hL hT [] (by cbv) ?_ ?_
  · exact (hq Tt (hq Tt hq0))
  rw [show ln (qD qC) = qDB qC from ln_eq Str_c _]
  refine Run.ret ?_
  cases h
  refine ⟨_, _, by cbv, ?_, ?_⟩
  · exact LLe.r
  exact (ALe.v LLe.r ALe.nil)
 have h := if_f c1 h
 refine Run.skip ?_
 refine Run.seq ?_
 refine Run.seq ?_
 refine Run.region hL hT [] (by cbv) hq0 ?_
 refine Run.block ?_
 refine Run.loop1 (fun (z8 : Int) => ⟨50, 100000, [(1, .pt 1 0 0), (3, .t (.s (.int .i64 z8)))], [(1, .box 27 [.t (.s (.int .i64 qE)), .t (.s (.int .i64 a0v_N)), .t (.s (.string a0v_S)), .t (.im false (qM qB)), .t (.im false (qD qC))])]⟩) (x0 := 0) h (Weak.of _ [(1, 0)] hA (by cbv) ?_) (fun _ => rfl) ?_
 · repeat (first | exact hq0 | refine hq (by first | exact Tt | rfl) ?_)
 intro k z8 h
 rw [qSB.l0] at h
 refine Run.seq ?_
 refine Run.seq ?_
 refine Run.region hL hT [] (by cbv) ?_ ?_
 · exact (hq Tt (hq Tt hq0))
 rw [show ln (qD qC) = qDB qC from ln_eq Str_c _]
 refine Run.cond (by cbv) (hq0) (fun c9 => ?_) (fun c9 => ?_)
 ·
  have h := if_t c9 h
  refine Run.skip ?_
  refine Run.seq ?_
  refine Run.block ?_
  refine Run.seq ?_
  obtain ⟨x10, h_x10, h⟩ := bnd h
  obtain ⟨r11, h_r11, h⟩ := bnd h
  obtain ⟨x12, h_x12, h⟩ := bnd h
  refine Run.draw hL hT hM [(3, .el [.s (.string x10)]), (5, .call [false] [.v (.jk)] [.v (.s (.bool r11))]), (15, .el [.s (.string x12)]), (20, .el [.s (.string x10)])] (by cbv) (qA (by cbv) (by cbv) (qA (by cbv) (by cbv) (qA (by cbv) (by cbv) (qA (by cbv) (by cbv) (qA (by cbv) (by cbv) (qA (by cbv) (by cbv) (qA (by cbv) (by cbv) (qA (by cbv) (by cbv) (qA (by cbv) (by cbv) (qA (by cbv) (by cbv) (qA (by cbv) (by cbv) (qA (by cbv) (by cbv) (qA (by cbv) (by cbv) (qA (by cbv) (by cbv) (qA (by cbv) (by cbv) (qA (by cbv) (by cbv) (qA (by cbv) (by cbv) (qA (by cbv) (by cbv) (qA (by cbv) (by cbv) (qA (by cbv) (by cbv) (qA (by cbv) (by cbv) (qA (by cbv) (by cbv) (qA (by cbv) (by cbv) (qA (by cbv) (by cbv) (qA (by cbv) (by cbv) ql))))))))))))))))))))))))) (by cbv) (by cbv) (by cbv) ?_ ?_
  · exact (hq Tt (hq (qoB h_x10) (hq (qqB (f := Str_c) h_x10) (hq (qdC (f := Str_c) h_x10) (hq (hC (qzF h_r11)) (hq (fun _ => hq0) (hq (fun g14 => (hq g14 (hq Tt hq0))) (hq (fun g15 => (hq g15 hq0)) (hq (fun _ => hq0) (hq (fun g17 => (hq g17 (hq Tt hq0))) (hq (fun _ => hq0) (hq (fun g19 => (hq g19 (hq Tt hq0))) (hq (fun g20 => (hq g20 (hq g20 (hq (qoB (gd_t h_x12 g20)) (hq (qqB (f := Str_c) (gd_t h_x12 g20)) (hq (qdC (f := Str_c) (gd_t h_x12 g20)) hq0)))))) (hq (fun g21 => (hq g21 hq0)) (hq (fun _ => hq0) (hq (fun g23 => (hq g23 (hq Tt hq0))) (hq (fun _ => hq0) (hq (fun g25 => (hq g25 (hq g25 (hq (qoB h_x10) (hq (qqB (f := Str_c) h_x10) (hq (qdC (f := Str_c) h_x10) hq0)))))) (hq (fun g26 => (hq g26 hq0)) (hq (fun g27 => (hq g27 (hq g27 hq0))) (hq (fun g28 => (hq g28 (hq (fun q29 => (hq (bo_a g28 q29) hq0)) (hq (fun _ => hq0) hq0)))) (hq (fun _ => hq0) (hq (fun q32 => (hq (bo_m q32) hq0)) hq0)))))))))))))))))))))))
  refine Run.cond (by cbv) (hq0) (fun c33 => ?_) (fun c33 => ?_)
  ·
   have h := if_t c33 h
   refine Run.seq ?_
   refine Run.region hL hT [] (by cbv) hq0 ?_
   refine Run.ret ?_
   cases h
   refine ⟨_, _, by cbv, ?_, ?_⟩
   · exact LLe.r
   exact (ALe.v LLe.r ALe.nil)
  have h := if_f c33 h
  refine Run.skip ?_
  refine Run.region hL hT [] (by cbv) ?_ ?_
  · exact (hq Tt hq0)
  refine ⟨(ar .add .i64 z8 1), h, Weak.of _ [(1, 1)] hA (by cbv) ?_⟩
  repeat (first | exact hq0 | refine hq (by first | exact Tt | rfl) ?_)
 have h := if_f c9 h
 refine Run.exit ?_
 refine Run.seq ?_
 refine Run.region hL hT [] (by cbv) ?_ ?_
 · exact (hq Tt (hq Tt (hq Tt hq0)))
 rw [show ln (qM qB) = qV qB from ln_eq qN _]
 rw [show ln (qD qC) = qDB qC from ln_eq Str_c _]
 refine Run.ret ?_
 cases h
 refine ⟨_, _, by cbv, ?_, ?_⟩
 · exact LLe.r
 exact (ALe.v LLe.r ALe.nil)
theorem qbH (self : Json → Int → Option Int) (hself : ∀ {qE : Int} {a0v_N : Int} {a0v_S : ByteArray} {qB : List Json} {qC : List ByteArray} {a1 : Int} {r : Int} (h : self (Json.mk qE a0v_N a0v_S qB qC) a1 = some r), AC Tryz.prog 36 [.ag [.s (.int .i64 qE), .s (.int .i64 a0v_N), .s (.string a0v_S), .im false (rowsOf qN qB), .im false (rowsOf Str_c qC)], .v (.s (.int .i64 a1))] [.ag [.jk, .jk, .jk, .jk, .jk], .v (.jk)] [.v (.s (.int .i64 r))]) {qE : Int} {a0v_N : Int} {a0v_S : ByteArray} {qB : List Json} {qC : List ByteArray} {a1 : Int} {r : Int} (h : qb.b self (Json.mk qE a0v_N a0v_S qB qC) a1 = some r) : AC Tryz.prog 36 [.ag [.s (.int .i64 qE), .s (.int .i64 a0v_N), .s (.string a0v_S), .im false (rowsOf qN qB), .im false (rowsOf Str_c qC)], .v (.s (.int .i64 a1))] [.ag [.jk, .jk, .jk, .jk, .jk], .v (.jk)] [.v (.s (.int .i64 r))] := by
 unfold qb.b at h
 let qM := rowsOf qN
 let qD := rowsOf Str_c
 let qV := @lenI Json
 show AC Tryz.prog 36 [.ag [.s (.int .i64 qE), .s (.int .i64 a0v_N), .s (.string a0v_S), .im false (qM qB), .im false (qD qC)], .v (.s (.int .i64 a1))] _ _
 refine run3 Tryz.func36 (by rfl) (by rfl) (by cbv) ⟨by decide, rfl⟩ ?_
 intro ar cm bo sc sa sx ss sl bs sb ln sr ap up rp fr ge le lt nz mm ma sm fl al ci hL F hP hA hT hM hC
 refine Run.seq ?_
 refine Run.region hL hT [] (by cbv) hq0 ?_
 refine Run.seq ?_
 refine Run.region hL hT [] (by cbv) hq0 ?_
 refine Run.seq ?_
 refine Run.seq ?_
 refine Run.region hL hT [] (by cbv) ?_ ?_
 · exact (hq Tt hq0)
 refine Run.cond (by cbv) (hq0) (fun c1 => ?_) (fun c1 => ?_)
 ·
  have h := if_t c1 h
  refine Run.seq ?_
  refine Run.region hL hT [] (by cbv) hq0 ?_
  refine Run.ret ?_
  cases h
  refine ⟨_, _, by cbv, ?_, ?_⟩
  · exact LLe.r
  exact (ALe.v LLe.r ALe.nil)
 have h := if_f c1 h
 refine Run.skip ?_
 refine Run.seq ?_
 refine Run.region hL hT [] (by cbv) hq0 ?_
 obtain ⟨K3, h_K3, h⟩ := joinE h
 refine Run.join1 K3 (r := r) (fun (y2 : Int) => ⟨106, 100000, [(2, .pt 1 0 0), (5, .t (.s (.int .i64 401))), (6, .t (.s (.int .i64 y2)))], [(1, .box 27 [.t (.s (.int .i64 qE)), .t (.s (.int .i64 a0v_N)), .t (.s (.string a0v_S)), .t (.im false (qM qB)), .t (.im false (qD qC))])]⟩) ?_ ?_
 ·
  skip
  refine Run.seq ?_
  refine Run.region hL hT [] (by cbv) ?_ ?_
  · exact (hq Tt hq0)
  refine Run.block ?_
  refine Run.seq ?_
  refine Run.region hL hT [] (by cbv) ?_ ?_
  · exact (hq Tt hq0)
  refine Run.cond (by cbv) (hq0) (fun c4 => ?_) (fun c4 => ?_)
  ·
   have h := if_t c4 h
   refine Run.seq ?_
   refine Run.region hL hT [] (by cbv) ?_ ?_
   · exact (hq Tt (hq Tt hq0))
   refine Run.cond (by cbv) (hq0) (fun c5 => ?_) (fun c5 => ?_)
   ·
    have h := if_t c5 h
    refine Run.seq ?_
    refine Run.region hL hT [] (by cbv) hq0 ?_
    refine Run.ret ?_
    cases h
    refine ⟨_, _, by cbv, ?_, ?_⟩
    · exact LLe.r
    exact (ALe.v LLe.r ALe.nil)
   have h := if_f c5 h
   refine Run.skip ?_
   refine ⟨1, h, Weak.of _ [(1, 0)] hA (by cbv) ?_⟩
   repeat (first | exact hq0 | refine hq (by first | exact Tt | rfl) ?_)
  have h := if_f c4 h
  refine Run.seq ?_
  refine Run.region hL hT [] (by cbv) ?_ ?_
  · exact (hq Tt hq0)
  refine Run.cond (by cbv) (hq0) (fun c6 => ?_) (fun c6 => ?_)
  ·
   have h := if_t c6 h
   refine Run.seq ?_
   obtain ⟨r7, h_r7, h⟩ := bnd h
   refine Run.region hL hT [(2, .call [false, false, false] [.v (.jk), .v (.jk), .v (.jk)] [.v (.s (.bool r7))])] (by cbv) ?_ ?_
   · exact (hq Tt (hq (hC (qTH h_r7)) hq0))
   refine Run.cond (by cbv) (hq0) (fun c8 => ?_) (fun c8 => ?_)
   ·
    have h := if_t c8 h
    refine Run.seq ?_
    refine Run.region hL hT [] (by cbv) hq0 ?_
    refine Run.ret ?_
    cases h
    refine ⟨_, _, by cbv, ?_, ?_⟩
    · exact LLe.r
    exact (ALe.v LLe.r ALe.nil)
   have h := if_f c8 h
   refine Run.skip ?_
   refine ⟨1, h, Weak.of _ [(1, 0)] hA (by cbv) ?_⟩
   repeat (first | exact hq0 | refine hq (by first | exact Tt | rfl) ?_)
  have h := if_f c6 h
  refine Run.seq ?_
  refine Run.region hL hT [] (by cbv) ?_ ?_
  · exact (hq Tt hq0)
  refine Run.cond (by cbv) (hq0) (fun c9 => ?_) (fun c9 => ?_)
  ·
   have h := if_t c9 h
   refine Run.seq ?_
   obtain ⟨r10, h_r10, h⟩ := bnd h
   refine Run.region hL hT [(2, .call [false, false, false] [.v (.jk), .v (.jk), .v (.jk)] [.v (.s (.bool r10))])] (by cbv) ?_ ?_
   · exact (hq Tt (hq (hC (qTH h_r10)) hq0))
   refine Run.cond (by cbv) (hq0) (fun c11 => ?_) (fun c11 => ?_)
   ·
    have h := if_t c11 h
    refine Run.seq ?_
    refine Run.region hL hT [] (by cbv) hq0 ?_
    refine Run.ret ?_
    cases h
    refine ⟨_, _, by cbv, ?_, ?_⟩
    · exact LLe.r
    exact (ALe.v LLe.r ALe.nil)
   have h := if_f c11 h
   refine Run.skip ?_
   refine ⟨1, h, Weak.of _ [(1, 0)] hA (by cbv) ?_⟩
   repeat (first | exact hq0 | refine hq (by first | exact Tt | rfl) ?_)
  have h := if_f c9 h
  refine Run.seq ?_
  refine Run.region hL hT [] (by cbv) ?_ ?_
  · exact (hq Tt hq0)
  refine Run.cond (by cbv) (hq0) (fun c12 => ?_) (fun c12 => ?_)
  ·
   have h := if_t c12 h
   refine Run.seq ?_
   obtain ⟨r13, h_r13, h⟩ := bnd h
   refine Run.region hL hT [(2, .call [false] [.v (.jk)] [.v (.s (.bool r13))])] (by cbv) ?_ ?_
   · exact (hq Tt (hq (hC (qzF h_r13)) hq0))
   refine Run.cond (by cbv) (hq0) (fun c14 => ?_) (fun c14 => ?_)
   ·
    have h := if_t c14 h
    refine Run.seq ?_
    refine Run.region hL hT [] (by cbv) hq0 ?_
    refine Run.ret ?_
    cases h
    refine ⟨_, _, by cbv, ?_, ?_⟩
    · exact LLe.r
    exact (ALe.v LLe.r ALe.nil)
   have h := if_f c14 h
   refine Run.skip ?_
   refine ⟨1, h, Weak.of _ [(1, 0)] hA (by cbv) ?_⟩
   repeat (first | exact hq0 | refine hq (by first | exact Tt | rfl) ?_)
  have h := if_f c12 h
  obtain ⟨K16, h_K16, h⟩ := joinE h
  refine Run.join1 K16 (r := r) (fun (y15 : Bool) => ⟨106, 100000, [(1, .t (.s (.int .i64 a1))), (2, .pt 1 0 0), (5, .t (.s (.int .i64 401))), (6, .t (.s (.int .i64 1))), (41, .t (.s (.bool y15)))], [(1, .box 27 [.t (.s (.int .i64 qE)), .t (.s (.int .i64 a0v_N)), .t (.s (.string a0v_S)), .t (.im false (qM qB)), .t (.im false (qD qC))])]⟩) ?_ ?_
  ·
   skip
   refine Run.seq ?_
   refine Run.region hL hT [] (by cbv) ?_ ?_
   · exact (hq Tt hq0)
   refine Run.cond (by cbv) (hq0) (fun c17 => ?_) (fun c17 => ?_)
   ·
    have h := if_t c17 h
    refine Run.skip ?_
    refine ⟨(cm .eql qE 4), h, Weak.of _ [(1, 0)] hA (by cbv) ?_⟩
    repeat (first | exact hq0 | refine hq (by first | exact Tt | rfl) ?_)
   have h := if_f c17 h
   refine Run.region hL hT [] (by cbv) ?_ ?_
   · exact (hq Tt hq0)
   refine ⟨(cm .eql qE 5), h, Weak.of _ [(1, 0)] hA (by cbv) ?_⟩
   repeat (first | exact hq0 | refine hq (by first | exact Tt | rfl) ?_)
  intro y15 h
  rw [h_K16] at h
  refine Run.cond (by cbv) (hq0) (fun c18 => ?_) (fun c18 => ?_)
  ·
   have h := if_t c18 h
   refine Run.seq ?_
   refine Run.region hL hT [] (by cbv) hq0 ?_
   refine Run.block ?_
   refine Run.loop2 (fun (z28 : Int) (z29 : Int) => ⟨106, 100000, [(1, .t (.s (.int .i64 a1))), (2, .pt 1 0 0), (5, .t (.s (.int .i64 401))), (6, .t (.s (.int .i64 z28))), (7, .t (.s (.int .i64 z29)))], [(1, .box 27 [.t (.s (.int .i64 qE)), .t (.s (.int .i64 a0v_N)), .t (.s (.string a0v_S)), .t (.im false (qM qB)), .t (.im false (qD qC))])]⟩) (x0 := 1) (x1 := 0) h (Weak.of _ [(1, 1)] hA (by cbv) ?_) (fun _ _ => rfl) ?_
   · repeat (first | exact hq0 | refine hq (by first | exact Tt | rfl) ?_)
   intro k z28 z29 h
   rw [qb.l0] at h
   refine Run.seq ?_
   refine Run.seq ?_
   refine Run.region hL hT [] (by cbv) ?_ ?_
   · exact (hq Tt (hq Tt (hq (fun _ => hq0) (hq (fun g31 => (by have g31C := g31; rw [show ln (qM qB) = qV qB from ln_eq qN _] at g31C; exact (hq g31 (hq Tt hq0)))) (hq (fun q32 => (by have q32C := q32; rw [show ln (qM qB) = qV qB from ln_eq qN _] at q32C; exact (hq q32 hq0))) (hq (fun _ => hq0) hq0))))))
   rw [show ln (qM qB) = qV qB from ln_eq qN _]
   refine Run.cond (by cbv) (hq0) (fun c34 => ?_) (fun c34 => ?_)
   ·
    have h := if_t c34 h
    refine Run.skip ?_
    refine Run.seq ?_
    refine Run.block ?_
    obtain ⟨⟨qCR, qWU, qXU, qSP, qTP⟩, h_x35, h⟩ := bnd h
    obtain ⟨r36, h_r36, h⟩ := bnd h
    refine Run.region hL hT [(4, .el [.s (.int .i64 qCR), .s (.int .i64 qWU), .s (.string qXU), .im false (qM qSP), .im false (qD qTP)]), (8, .call [false, false] [.ag [.jk, .jk, .jk, .jk, .jk], .v (.jk)] [.v (.s (.int .i64 r36))])] (by cbv) ?_ ?_
    · exact (hq Tt (hq (qoB h_x35) (hq (qqB (f := qN) h_x35) (hq (qxE quC h_x35) (hq Tt (hq (hC (hself h_r36)) (hq Tt hq0)))))))
    refine Run.region hL hT [] (by cbv) ?_ ?_
    · exact (hq Tt hq0)
    refine ⟨(ar .add .i64 z28 r36), (ar .add .i64 z29 1), h, Weak.of _ [(1, 1)] hA (by cbv) ?_⟩
    repeat (first | exact hq0 | refine hq (by first | exact Tt | rfl) ?_)
   have h := if_f c34 h
   refine Run.exit ?_
   refine ⟨z28, h, Weak.of _ [(1, 1)] hA (by cbv) ?_⟩
   repeat (first | exact hq0 | refine hq (by first | exact Tt | rfl) ?_)
  have h := if_f c18 h
  refine Run.seq ?_
  refine Run.region hL hT [] (by cbv) hq0 ?_
  refine Run.ret ?_
  cases h
  refine ⟨_, _, by cbv, ?_, ?_⟩
  · exact LLe.r
  exact (ALe.v LLe.r ALe.nil)
 intro y2 h
 rw [h_K3] at h
 refine Run.seq ?_
 refine Run.seq ?_
 obtain ⟨r37, h_r37, h⟩ := bnd h
 refine Run.region hL hT [(36, .call [false] [.ag [.jk, .jk, .jk, .jk, .jk]] [.v (.s (.bool r37))])] (by cbv) ?_ ?_
 · exact (hq Tt (hq Tt (hq (fun _ => hq0) (hq (fun g39 => (hq g39 (hq Tt hq0))) (hq (fun g40 => (hq g40 hq0)) (hq (fun q41 => (hq q41 hq0)) (hq (fun _ => hq0) (hq (fun _ => hq0) (hq (fun g44 => (hq g44 (hq Tt hq0))) (hq (fun g45 => (hq g45 (hq Tt hq0))) (hq (fun g46 => (hq g46 hq0)) (hq (fun _ => hq0) (hq (fun g48 => (hq g48 (hq Tt hq0))) (hq (fun g49 => (hq g49 (hq Tt hq0))) (hq (fun g50 => (hq g50 (hq (fun _ => hq0) (hq (fun q52 => (hq (bo_a g50 (bo_m q52)) hq0)) hq0)))) (hq (fun g53 => (hq g53 hq0)) (hq (fun _ => hq0) (hq (fun g55 => (hq g55 (hq Tt hq0))) (hq (fun g56 => (hq g56 (hq Tt hq0))) (hq (fun g57 => (hq g57 (hq (fun q58 => (hq (bo_a g57 q58) hq0)) (hq (fun _ => hq0) hq0)))) (hq (fun _ => hq0) (hq (fun q61 => (hq (bo_m q61) hq0)) (hq (fun _ => hq0) (hq (fun g63 => (hq g63 (hq Tt hq0))) (hq (fun g64 => (hq g64 (hq Tt hq0))) (hq (fun g65 => (hq g65 hq0)) (hq (fun _ => hq0) (hq (fun g67 => (hq g67 (hq Tt hq0))) (hq (fun g68 => (hq g68 hq0)) (hq (fun g69 => (hq g69 (hq Tt hq0))) (hq (fun g70 => (hq g70 (hq (fun q71 => (hq (bo_a g70 q71) hq0)) (hq (fun _ => hq0) hq0)))) (hq (fun _ => hq0) (hq (fun q74 => (hq (bo_m q74) hq0)) (hq (fun g75 => (by have g75C := g75; rw [show ln (qM qB) = qV qB from ln_eq qN _] at g75C; exact (hq Tt hq0))) (hq (fun g76 => (by have g76C := g76; rw [show ln (qM qB) = qV qB from ln_eq qN _] at g76C; exact (hq g76 (hq (hC (qtI (gd_t h_r37 g76C))) hq0)))) (hq (fun g77 => (by have g77C := g77; rw [show ln (qM qB) = qV qB from ln_eq qN _] at g77C; exact (hq g77 hq0))) (hq (fun _ => hq0) (hq (fun q79 => (by have q79C := q79; rw [show ln (qM qB) = qV qB from ln_eq qN _] at q79C; exact (hq (bo_m q79) hq0))) hq0))))))))))))))))))))))))))))))))))))))
 rw [show ln (qM qB) = qV qB from ln_eq qN _]
 refine Run.cond (by cbv) (hq0) (fun c80 => ?_) (fun c80 => ?_)
 ·
  have h := if_t c80 h
  refine Run.seq ?_
  refine Run.region hL hT [] (by cbv) hq0 ?_
  refine Run.ret ?_
  cases h
  refine ⟨_, _, by cbv, ?_, ?_⟩
  · exact LLe.r
  exact (ALe.v LLe.r ALe.nil)
 have h := if_f c80 h
 refine Run.skip ?_
 refine Run.seq ?_
 refine Run.region hL hT [] (by cbv) hq0 ?_
 refine Run.ret ?_
 cases h
 refine ⟨_, _, by cbv, ?_, ?_⟩
 · exact LLe.r
 exact (ALe.v LLe.r ALe.nil)
theorem qgE : ∀ (k : Nat) {qE : Int} {a0v_N : Int} {a0v_S : ByteArray} {qB : List Json} {qC : List ByteArray} {a1 : Int} {r : Int} (h : qb.g k (Json.mk qE a0v_N a0v_S qB qC) a1 = some r), AC Tryz.prog 36 [.ag [.s (.int .i64 qE), .s (.int .i64 a0v_N), .s (.string a0v_S), .im false (rowsOf qN qB), .im false (rowsOf Str_c qC)], .v (.s (.int .i64 a1))] [.ag [.jk, .jk, .jk, .jk, .jk], .v (.jk)] [.v (.s (.int .i64 r))]
 | 0 => fun h => by cases h
 | k + 1 => fun h => qbH (qb.g k) (qgE k) h
theorem quI {qE : Int} {a0v_N : Int} {a0v_S : ByteArray} {qB : List Json} {qC : List ByteArray} {a1 : Int} {r : Int} (h : qb.f (Json.mk qE a0v_N a0v_S qB qC) a1 = some r) : AC Tryz.prog 36 [.ag [.s (.int .i64 qE), .s (.int .i64 a0v_N), .s (.string a0v_S), .im false (rowsOf qN qB), .im false (rowsOf Str_c qC)], .v (.s (.int .i64 a1))] [.ag [.jk, .jk, .jk, .jk, .jk], .v (.jk)] [.v (.s (.int .i64 r))] := qgE 20 h
theorem qAG {qE : Int} {a0v_N : Int} {a0v_S : ByteArray} {qB : List Json} {qC : List ByteArray} {r : Bool} (h : qAD.f (Json.mk qE a0v_N a0v_S qB qC) = some r) : AC Tryz.prog 21 [.ag [.s (.int .i64 qE), .s (.int .i64 a0v_N), .s (.string a0v_S), .im false (rowsOf qN qB), .im false (rowsOf Str_c qC)]] [.ag [.jk, .jk, .jk, .jk, .jk]] [.v (.s (.bool r))] := by
 unfold qAD.f at h
 let qM := rowsOf qN
 let qD := rowsOf Str_c
 show AC Tryz.prog 21 [.ag [.s (.int .i64 qE), .s (.int .i64 a0v_N), .s (.string a0v_S), .im false (qM qB), .im false (qD qC)]] _ _
 refine run3 Tryz.func21 (by rfl) (by rfl) (by cbv) ⟨by decide, rfl⟩ ?_
 intro ar cm bo sc sa sx ss sl bs sb ln sr ap up rp fr ge le lt nz mm ma sm fl al ci hL F hP hA hT hM hC
 refine Run.seq ?_
 refine Run.region hL hT [] (by cbv) hq0 ?_
 refine Run.seq ?_
 obtain ⟨r1, h_r1, h⟩ := bnd h
 refine Run.region hL hT [(1, .call [false, false] [.ag [.jk, .jk, .jk, .jk, .jk], .v (.jk)] [.v (.s (.int .i64 r1))])] (by cbv) ?_ ?_
 · exact (hq Tt (hq (hC (quI h_r1)) (hq Tt hq0)))
 refine Run.ret ?_
 cases h
 refine ⟨_, _, by cbv, ?_, ?_⟩
 · exact LLe.r
 exact (ALe.v LLe.r ALe.nil)
theorem qcH {a0 : Int} {r : ByteArray} (h : qz.f a0 = some r) : AC Tryz.prog 37 [.v (.s (.int .i64 a0))] [.v (.jk)] [.v (.s (.string r))] := by
 unfold qz.f at h
 let eu8_c := rowsOf u8_c
 show AC Tryz.prog 37 [.v (.s (.int .i64 a0))] _ _
 refine run3 Tryz.func37 (by rfl) (by rfl) (by cbv) ⟨by decide, rfl⟩ ?_
 intro ar cm bo sc sa sx ss sl bs sb ln sr ap up rp fr ge le lt nz mm ma sm fl al ci hL F hP hA hT hM hC
 refine Run.seq ?_
 refine Run.region hL hT [] (by cbv) hq0 ?_
 refine Run.seq ?_
 refine Run.seq ?_
 refine Run.region hL hT [] (by cbv) ?_ ?_
 · exact (hq Tt hq0)
 refine Run.cond (by cbv) (hq0) (fun c1 => ?_) (fun c1 => ?_)
 ·
  have h := if_t c1 h
  refine Run.seq ?_
  refine Run.region hL hT [] (by cbv) hq0 ?_
  refine Run.ret ?_
  cases h
  refine ⟨_, _, by cbv, ?_, ?_⟩
  · exact LLe.r
  exact (ALe.v LLe.r ALe.nil)
 have h := if_f c1 h
 refine Run.skip ?_
 refine Run.seq ?_
 refine Run.region hL hT [] (by cbv) ?_ ?_
 · exact (hq Tt hq0)
 refine Run.seq ?_
 refine Run.region hL hT [] (by cbv) hq0 ?_
 obtain ⟨K4, h_K4, h⟩ := joinE h
 refine Run.join2 K4 (r := r) (fun (y2 : Bool) (y3 : ByteArray) => ⟨31, 100000, [(3, .t (.s (.bool y2))), (4, .t (.s (.string y3)))], []⟩) ?_ ?_
 ·
  skip
  refine Run.block ?_
  refine Run.loop3 (fun (z8 : Int) (z9 : Bool) (z10 : ByteArray) => ⟨31, 100000, [(0, .t (.s (.int .i64 z8))), (3, .t (.s (.bool z9))), (4, .t (.s (.string z10)))], []⟩) (x0 := a0) (x1 := (cm .lss a0 0)) (x2 := (ByteArray.mk #[])) h (Weak.of _ [] hA (by cbv) ?_) (fun _ _ _ => rfl) ?_
  · repeat (first | exact hq0 | refine hq (by first | exact Tt | rfl) ?_)
  intro k z8 z9 z10 h
  rw [qz.l0] at h
  refine Run.seq ?_
  refine Run.seq ?_
  refine Run.region hL hT [] (by cbv) ?_ ?_
  · exact (hq Tt hq0)
  refine Run.cond (by cbv) (hq0) (fun c11 => ?_) (fun c11 => ?_)
  ·
   have h := if_t c11 h
   refine Run.skip ?_
   refine Run.block ?_
   refine Run.seq ?_
   refine Run.region hL hT [] (by cbv) ?_ ?_
   · exact (hq Tt (hq (show Ls.nz 10 from (by decide : (10 : Int) ≠ 0)) hq0))
   refine Run.seq ?_
   refine Run.seq ?_
   refine Run.region hL hT [] (by cbv) ?_ ?_
   · exact (hq Tt hq0)
   refine Run.cond (by cbv) (hq0) (fun c12 => ?_) (fun c12 => ?_)
   ·
    have h := if_t c12 h
    refine Run.region hL hT [] (by cbv) ?_ ?_
    · exact (hq Tt hq0)
    refine Run.seq ?_
    obtain ⟨l13, h_l13, h⟩ := bnd h
    obtain ⟨s14, h_s14, h⟩ := bnd h
    obtain ⟨u15, h_u15, h⟩ := bnd h
    refine Run.region hL hT [(4, .hd [116387] (.t (.s (.string s14))) [])] (by cbv) ?_ ?_
    · exact (hq Tt (hq (qYG (ns := [(IntKind.wrap .u8 (w64 (48 + (w64 (0 - (Int.tmod z8 10))))))]) hT (by rfl) (by rfl) (by rfl) (by rfl) (by rfl) (by rfl) (by rfl) (qcO h_l13 h_s14)) (hq (sm_t h_u15) hq0)))
    refine Run.row (rows := [[.s (.int .u8 (ar .or .u8 (ar .add .i64 48 (ar .sub .i64 0 (ar .rem .i64 z8 10))) 0))]]) 116387 (eu8_c l13) (by cbv) (qU (f := u8_c) h_l13 (RLe.cons rfl LLe.r RLe.nil)) ?_
    refine Run.region hL hT [] (by cbv) ?_ ?_
    · exact (hq Tt (hq (show Ls.nz 10 from (by decide : (10 : Int) ≠ 0)) hq0))
    refine ⟨(ar .quo .i64 z8 10), z9, (sa s14 z10), h, Weak.of _ [] hA (by cbv) ?_⟩
    repeat (first | exact hq0 | refine hq (by first | exact Tt | rfl) ?_)
   have h := if_f c12 h
   refine Run.skip ?_
   refine Run.seq ?_
   obtain ⟨l16, h_l16, h⟩ := bnd h
   obtain ⟨s17, h_s17, h⟩ := bnd h
   obtain ⟨u18, h_u18, h⟩ := bnd h
   refine Run.region hL hT [(4, .hd [112291] (.t (.s (.string s17))) [])] (by cbv) ?_ ?_
   · exact (hq Tt (hq (qYG (ns := [(IntKind.wrap .u8 (w64 (48 + (Int.tmod z8 10))))]) hT (by rfl) (by rfl) (by rfl) (by rfl) (by rfl) (by rfl) (by rfl) (qcO h_l16 h_s17)) (hq (sm_t h_u18) hq0)))
   refine Run.row (rows := [[.s (.int .u8 (ar .or .u8 (ar .add .i64 48 (ar .rem .i64 z8 10)) 0))]]) 112291 (eu8_c l16) (by cbv) (qU (f := u8_c) h_l16 (RLe.cons rfl LLe.r RLe.nil)) ?_
   refine Run.region hL hT [] (by cbv) ?_ ?_
   · exact (hq Tt (hq (show Ls.nz 10 from (by decide : (10 : Int) ≠ 0)) hq0))
   refine ⟨(ar .quo .i64 z8 10), z9, (sa s17 z10), h, Weak.of _ [] hA (by cbv) ?_⟩
   repeat (first | exact hq0 | refine hq (by first | exact Tt | rfl) ?_)
  have h := if_f c11 h
  refine Run.exit ?_
  refine ⟨z9, z10, h, Weak.of _ [] hA (by cbv) ?_⟩
  repeat (first | exact hq0 | refine hq (by first | exact Tt | rfl) ?_)
 intro y2 y3 h
 rw [h_K4] at h
 refine Run.seq ?_
 refine Run.seq ?_
 refine Run.region hL hT [] (by cbv) hq0 ?_
 refine Run.cond (by cbv) (hq0) (fun c19 => ?_) (fun c19 => ?_)
 ·
  have h := if_t c19 h
  refine Run.seq ?_
  obtain ⟨u20, h_u20, h⟩ := bnd h
  refine Run.region hL hT [] (by cbv) ?_ ?_
  · exact (hq (sm_t h_u20) hq0)
  refine Run.ret ?_
  cases h
  refine ⟨_, _, by cbv, ?_, ?_⟩
  · exact LLe.r
  exact (ALe.v LLe.r ALe.nil)
 have h := if_f c19 h
 refine Run.skip ?_
 refine Run.seq ?_
 refine Run.region hL hT [] (by cbv) hq0 ?_
 refine Run.ret ?_
 cases h
 refine ⟨_, _, by cbv, ?_, ?_⟩
 · exact LLe.r
 exact (ALe.v LLe.r ALe.nil)
theorem qNF {a0 : ByteArray} {r : ByteArray} (h : qBB.f a0 = some r) : AC Tryz.prog 38 [.v (.s (.string a0))] [.v (.jk)] [.v (.s (.string r))] := by
 unfold qBB.f at h
 let eu8_c := rowsOf u8_c
 show AC Tryz.prog 38 [.v (.s (.string a0))] _ _
 refine run3 Tryz.func38 (by rfl) (by rfl) (by cbv) ⟨by decide, rfl⟩ ?_
 intro ar cm bo sc sa sx ss sl bs sb ln sr ap up rp fr ge le lt nz mm ma sm fl al ci hL F hP hA hT hM hC
 refine Run.seq ?_
 refine Run.region hL hT [] (by cbv) hq0 ?_
 refine Run.seq ?_
 obtain ⟨l1, h_l1, h⟩ := bnd h
 refine Run.region hL hT [] (by cbv) hq0 ?_
 refine Run.row (rows := [[.s (.int .u8 34)]]) 4096 (eu8_c l1) (by cbv) (qU (f := u8_c) h_l1 (RLe.cons rfl LLe.r RLe.nil)) ?_
 refine Run.seq ?_
 refine Run.seq ?_
 refine Run.region hL hT [] (by cbv) hq0 ?_
 refine Run.block ?_
 refine Run.loop2 (fun (z5 : List Int) (z6 : Int) => ⟨35, 100000, [(0, .t (.s (.string a0))), (3, .rf 1), (4, .t (.s (.int .i64 z6)))], [(1, .row 0 5 1 (eu8_c z5))]⟩) (x0 := l1) (x1 := 0) h (Weak.of _ [(1, 4096)] hA (by cbv) ?_) (fun _ _ => rfl) ?_
 · repeat (first | exact hq0 | refine hq (by first | exact Tt | rfl) ?_)
 intro k z5 z6 h
 rw [qBB.l0] at h
 refine Run.seq ?_
 refine Run.seq ?_
 refine Run.region hL hT [] (by cbv) ?_ ?_
 · exact (hq Tt hq0)
 refine Run.cond (by cbv) (hq0) (fun c7 => ?_) (fun c7 => ?_)
 ·
  have h := if_t c7 h
  refine Run.skip ?_
  refine Run.seq ?_
  refine Run.block ?_
  refine Run.seq ?_
  refine Run.seq ?_
  obtain ⟨u8, h_u8, h⟩ := bnd h
  obtain ⟨u9, h_u9, h⟩ := bnd h
  refine Run.region hL hT [] (by cbv) ?_ ?_
  · exact (hq (inS_0 h_u8) (hq (inS_1 h_u8) (hq Tt (hq (fun _ => hq0) (hq (fun _ => hq0) (hq (fun g12 => (hq g12 (hq g12 (hq (inS_0 (gd_t h_u9 g12)) (hq (inS_1 (gd_t h_u9 g12)) hq0))))) (hq (fun g13 => (hq g13 (hq Tt hq0))) (hq (fun _ => hq0) (hq (fun q15 => (hq (bo_m q15) hq0)) hq0)))))))))
  refine Run.cond (by cbv) (hq0) (fun c16 => ?_) (fun c16 => ?_)
  ·
   have h := if_t c16 h
   obtain ⟨l17, h_l17, h⟩ := bnd h
   obtain ⟨l18, h_l18, h⟩ := bnd h
   refine Run.region hL hT [] (by cbv) ?_ ?_
   · exact (hq (qiB (P := Tryz.prog) (f := u8_c) RLe.r (qU (f := u8_c) h_l17 (RLe.cons rfl LLe.r RLe.nil)) h_l18) hq0)
   refine Run.row (rows := (ap (eu8_c z5) ([[.s (.int .u8 92)]]))) 108194 (eu8_c l18) (by cbv) (qdB (f := u8_c) RLe.r (qU (f := u8_c) h_l17 (RLe.cons rfl LLe.r RLe.nil)) h_l18) ?_
   obtain ⟨u19, h_u19, h⟩ := bnd h
   obtain ⟨l20, h_l20, h⟩ := bnd h
   obtain ⟨l21, h_l21, h⟩ := bnd h
   refine Run.region hL hT [] (by cbv) ?_ ?_
   · exact (hq (inS_0 h_u19) (hq (inS_1 h_u19) (hq (qiB (P := Tryz.prog) (f := u8_c) RLe.r (qU (f := u8_c) h_l20 (RLe.cons rfl LLe.r RLe.nil)) h_l21) hq0)))
   refine Run.row (rows := (ap (eu8_c l18) ([[.s (.int .u8 (sx a0 z6))]]))) 112293 (eu8_c l21) (by cbv) (qdB (f := u8_c) RLe.r (qU (f := u8_c) h_l20 (RLe.cons rfl LLe.r RLe.nil)) h_l21) ?_
   refine Run.region hL hT [] (by cbv) ?_ ?_
   · exact (hq Tt hq0)
   refine ⟨l21, (ar .add .i64 z6 1), h, Weak.of _ [(1, 112293)] hA (by cbv) ?_⟩
   repeat (first | exact hq0 | refine hq (by first | exact Tt | rfl) ?_)
  have h := if_f c16 h
  refine Run.skip ?_
  obtain ⟨u22, h_u22, h⟩ := bnd h
  obtain ⟨l23, h_l23, h⟩ := bnd h
  obtain ⟨l24, h_l24, h⟩ := bnd h
  refine Run.region hL hT [] (by cbv) ?_ ?_
  · exact (hq (inS_0 h_u22) (hq (inS_1 h_u22) (hq (qiB (P := Tryz.prog) (f := u8_c) RLe.r (qU (f := u8_c) h_l23 (RLe.cons rfl LLe.r RLe.nil)) h_l24) hq0)))
  refine Run.row (rows := (ap (eu8_c z5) ([[.s (.int .u8 (sx a0 z6))]]))) 108197 (eu8_c l24) (by cbv) (qdB (f := u8_c) RLe.r (qU (f := u8_c) h_l23 (RLe.cons rfl LLe.r RLe.nil)) h_l24) ?_
  refine Run.region hL hT [] (by cbv) ?_ ?_
  · exact (hq Tt hq0)
  refine ⟨l24, (ar .add .i64 z6 1), h, Weak.of _ [(1, 108197)] hA (by cbv) ?_⟩
  repeat (first | exact hq0 | refine hq (by first | exact Tt | rfl) ?_)
 have h := if_f c7 h
 refine Run.exit ?_
 refine Run.seq ?_
 obtain ⟨l25, h_l25, h⟩ := bnd h
 obtain ⟨l26, h_l26, h⟩ := bnd h
 obtain ⟨s27, h_s27, h⟩ := bnd h
 refine Run.region hL hT [(3, .hd [104098] (.t (.s (.string s27))) [])] (by cbv) ?_ ?_
 · exact (hq (qiB (P := Tryz.prog) (f := u8_c) RLe.r (qU (f := u8_c) h_l25 (RLe.cons rfl LLe.r RLe.nil)) h_l26) (hq (qrJ (ns := l26) hT (by rfl) (by rfl) (by rfl) (by rfl) (by rfl) (by rfl) (qdB (f := u8_c) RLe.r (qU (f := u8_c) h_l25 (RLe.cons rfl LLe.r RLe.nil)) h_l26) h_s27) hq0))
 refine Run.row (rows := (ap (eu8_c z5) ([[.s (.int .u8 34)]]))) 104098 (eu8_c l26) (by cbv) (qdB (f := u8_c) RLe.r (qU (f := u8_c) h_l25 (RLe.cons rfl LLe.r RLe.nil)) h_l26) ?_
 refine Run.ret ?_
 cases h
 refine ⟨_, _, by cbv, ?_, ?_⟩
 · exact LLe.r
 exact (ALe.v LLe.r ALe.nil)
theorem qDH (self : Json → Option ByteArray) (hself : ∀ {qE : Int} {a0v_N : Int} {a0v_S : ByteArray} {qB : List Json} {qC : List ByteArray} {r : ByteArray} (h : self (Json.mk qE a0v_N a0v_S qB qC) = some r), AC Tryz.prog 22 [.ag [.s (.int .i64 qE), .s (.int .i64 a0v_N), .s (.string a0v_S), .im false (rowsOf qN qB), .im false (rowsOf Str_c qC)]] [.ag [.jk, .jk, .jk, .jk, .jk]] [.v (.s (.string r))]) {qE : Int} {a0v_N : Int} {a0v_S : ByteArray} {qB : List Json} {qC : List ByteArray} {r : ByteArray} (h : qX.b self (Json.mk qE a0v_N a0v_S qB qC) = some r) : AC Tryz.prog 22 [.ag [.s (.int .i64 qE), .s (.int .i64 a0v_N), .s (.string a0v_S), .im false (rowsOf qN qB), .im false (rowsOf Str_c qC)]] [.ag [.jk, .jk, .jk, .jk, .jk]] [.v (.s (.string r))] := by
 unfold qX.b at h
 let qM := rowsOf qN
 let qD := rowsOf Str_c
 let qV := @lenI Json
 show AC Tryz.prog 22 [.ag [.s (.int .i64 qE), .s (.int .i64 a0v_N), .s (.string a0v_S), .im false (qM qB), .im false (qD qC)]] _ _
 refine run3 Tryz.func22 (by rfl) (by rfl) (by cbv) ⟨by decide, rfl⟩ ?_
 intro ar cm bo sc sa sx ss sl bs sb ln sr ap up rp fr ge le lt nz mm ma sm fl al ci hL F hP hA hT hM hC
 refine Run.seq ?_
 refine Run.region hL hT [] (by cbv) hq0 ?_
 refine Run.seq ?_
 refine Run.seq ?_
 refine Run.region hL hT [] (by cbv) ?_ ?_
 · exact (hq Tt hq0)
 refine Run.block ?_
 refine Run.seq ?_
 refine Run.region hL hT [] (by cbv) ?_ ?_
 · exact (hq Tt hq0)
 refine Run.cond (by cbv) (hq0) (fun c1 => ?_) (fun c1 => ?_)
 ·
  have h := if_t c1 h
  refine Run.seq ?_
  refine Run.region hL hT [] (by cbv) hq0 ?_
  refine Run.ret ?_
  cases h
  refine ⟨_, _, by cbv, ?_, ?_⟩
  · exact LLe.r
  exact (ALe.v LLe.r ALe.nil)
 have h := if_f c1 h
 refine Run.seq ?_
 refine Run.region hL hT [] (by cbv) ?_ ?_
 · exact (hq Tt hq0)
 refine Run.cond (by cbv) (hq0) (fun c2 => ?_) (fun c2 => ?_)
 ·
  have h := if_t c2 h
  refine Run.seq ?_
  refine Run.seq ?_
  refine Run.region hL hT [] (by cbv) ?_ ?_
  · exact (hq Tt (hq Tt hq0))
  refine Run.cond (by cbv) (hq0) (fun c3 => ?_) (fun c3 => ?_)
  ·
   have h := if_t c3 h
   refine Run.seq ?_
   refine Run.region hL hT [] (by cbv) hq0 ?_
   refine Run.ret ?_
   cases h
   refine ⟨_, _, by cbv, ?_, ?_⟩
   · exact LLe.r
   exact (ALe.v LLe.r ALe.nil)
  have h := if_f c3 h
  refine Run.skip ?_
  refine Run.seq ?_
  refine Run.region hL hT [] (by cbv) hq0 ?_
  refine Run.ret ?_
  cases h
  refine ⟨_, _, by cbv, ?_, ?_⟩
  · exact LLe.r
  exact (ALe.v LLe.r ALe.nil)
 have h := if_f c2 h
 refine Run.seq ?_
 refine Run.region hL hT [] (by cbv) ?_ ?_
 · exact (hq Tt hq0)
 refine Run.cond (by cbv) (hq0) (fun c4 => ?_) (fun c4 => ?_)
 ·
  have h := if_t c4 h
  refine Run.seq ?_
  obtain ⟨r5, h_r5, h⟩ := bnd h
  refine Run.region hL hT [(2, .call [false] [.v (.jk)] [.v (.s (.string r5))])] (by cbv) ?_ ?_
  · exact (hq Tt (hq (hC (qcH h_r5)) hq0))
  refine Run.ret ?_
  cases h
  refine ⟨_, _, by cbv, ?_, ?_⟩
  · exact LLe.r
  exact (ALe.v LLe.r ALe.nil)
 have h := if_f c4 h
 refine Run.seq ?_
 refine Run.region hL hT [] (by cbv) ?_ ?_
 · exact (hq Tt hq0)
 refine Run.cond (by cbv) (hq0) (fun c6 => ?_) (fun c6 => ?_)
 ·
  have h := if_t c6 h
  refine Run.seq ?_
  obtain ⟨r7, h_r7, h⟩ := bnd h
  refine Run.region hL hT [(2, .call [false] [.v (.jk)] [.v (.s (.string r7))])] (by cbv) ?_ ?_
  · exact (hq Tt (hq (hC (qNF h_r7)) hq0))
  refine Run.ret ?_
  cases h
  refine ⟨_, _, by cbv, ?_, ?_⟩
  · exact LLe.r
  exact (ALe.v LLe.r ALe.nil)
 have h := if_f c6 h
 refine Run.skip ?_
 refine Run.seq ?_
 refine Run.region hL hT [] (by cbv) hq0 ?_
 obtain ⟨K9, h_K9, h⟩ := joinE h
 refine Run.join1 K9 (r := r) (fun (y8 : ByteArray) => ⟨64, 100000, [(1, .pt 1 0 0), (3, .t (.s (.string y8)))], [(1, .box 27 [.t (.s (.int .i64 qE)), .t (.s (.int .i64 a0v_N)), .t (.s (.string a0v_S)), .t (.im false (qM qB)), .t (.im false (qD qC))])]⟩) ?_ ?_
 ·
  skip
  refine Run.seq ?_
  refine Run.region hL hT [] (by cbv) hq0 ?_
  refine Run.block ?_
  refine Run.loop2 (fun (z17 : ByteArray) (z18 : Int) => ⟨64, 100000, [(1, .pt 1 0 0), (3, .t (.s (.string z17))), (4, .t (.s (.int .i64 z18)))], [(1, .box 27 [.t (.s (.int .i64 qE)), .t (.s (.int .i64 a0v_N)), .t (.s (.string a0v_S)), .t (.im false (qM qB)), .t (.im false (qD qC))])]⟩) (x0 := (ByteArray.mk #[])) (x1 := 0) h (Weak.of _ [(1, 0)] hA (by cbv) ?_) (fun _ _ => rfl) ?_
  · repeat (first | exact hq0 | refine hq (by first | exact Tt | rfl) ?_)
  intro k z17 z18 h
  rw [qX.l0] at h
  refine Run.seq ?_
  refine Run.seq ?_
  refine Run.region hL hT [] (by cbv) ?_ ?_
  · exact (hq Tt (hq Tt hq0))
  rw [show ln (qM qB) = qV qB from ln_eq qN _]
  refine Run.cond (by cbv) (hq0) (fun c19 => ?_) (fun c19 => ?_)
  ·
   have h := if_t c19 h
   refine Run.skip ?_
   refine Run.seq ?_
   refine Run.block ?_
   obtain ⟨K21, h_K21, h⟩ := joinE h
   refine Run.join1 K21 (r := r) (fun (y20 : ByteArray) => ⟨64, 100000, [(1, .pt 1 0 0), (3, .t (.s (.string y20))), (4, .t (.s (.int .i64 z18)))], [(1, .box 27 [.t (.s (.int .i64 qE)), .t (.s (.int .i64 a0v_N)), .t (.s (.string a0v_S)), .t (.im false (qM qB)), .t (.im false (qD qC))])]⟩) ?_ ?_
   ·
    skip
    refine Run.seq ?_
    refine Run.region hL hT [] (by cbv) ?_ ?_
    · exact (hq Tt hq0)
    refine Run.cond (by cbv) (hq0) (fun c22 => ?_) (fun c22 => ?_)
    ·
     have h := if_t c22 h
     obtain ⟨s23, h_s23, h⟩ := bnd h
     refine Run.region hL hT [(1, .hd [] (.t (.s (.string s23))) [])] (by cbv) ?_ ?_
     · exact (hq (qyB h_s23) hq0)
     refine ⟨s23, h, Weak.of _ [(1, 1)] hA (by cbv) ?_⟩
     repeat (first | exact hq0 | refine hq (by first | exact Tt | rfl) ?_)
    have h := if_f c22 h
    refine Run.skip ?_
    refine ⟨z17, h, Weak.of _ [(1, 1)] hA (by cbv) ?_⟩
    repeat (first | exact hq0 | refine hq (by first | exact Tt | rfl) ?_)
   intro y20 h
   rw [h_K21] at h
   obtain ⟨K25, h_K25, h⟩ := joinE h
   refine Run.join1 K25 (r := r) (fun (y24 : ByteArray) => ⟨64, 100000, [(1, .pt 1 0 0), (3, .t (.s (.string y24))), (4, .t (.s (.int .i64 z18)))], [(1, .box 27 [.t (.s (.int .i64 qE)), .t (.s (.int .i64 a0v_N)), .t (.s (.string a0v_S)), .t (.im false (qM qB)), .t (.im false (qD qC))])]⟩) ?_ ?_
   ·
    skip
    refine Run.seq ?_
    refine Run.region hL hT [] (by cbv) ?_ ?_
    · exact (hq Tt (hq Tt hq0))
    refine Run.cond (by cbv) (hq0) (fun c26 => ?_) (fun c26 => ?_)
    ·
     have h := if_t c26 h
     obtain ⟨x27, h_x27, h⟩ := bnd h
     obtain ⟨r28, h_r28, h⟩ := bnd h
     obtain ⟨s29, h_s29, h⟩ := bnd h
     obtain ⟨s30, h_s30, h⟩ := bnd h
     refine Run.region hL hT [(4, .el [.s (.string x27)]), (6, .call [false] [.v (.jk)] [.v (.s (.string r28))]), (7, .hd [] (.t (.s (.string s29))) []), (8, .hd [] (.t (.s (.string s30))) [])] (by cbv) ?_ ?_
     · exact (hq Tt (hq (qoB h_x27) (hq (qqB (f := Str_c) h_x27) (hq (qdC (f := Str_c) h_x27) (hq (hC (qNF h_r28)) (hq (qyB h_s29) (hq (qyB h_s30) hq0)))))))
     refine ⟨s30, h, Weak.of _ [(1, 1)] hA (by cbv) ?_⟩
     repeat (first | exact hq0 | refine hq (by first | exact Tt | rfl) ?_)
    have h := if_f c26 h
    refine Run.skip ?_
    refine ⟨y20, h, Weak.of _ [(1, 1)] hA (by cbv) ?_⟩
    repeat (first | exact hq0 | refine hq (by first | exact Tt | rfl) ?_)
   intro y24 h
   rw [h_K25] at h
   obtain ⟨⟨qDR, qYU, qZU, qUP, qVP⟩, h_x31, h⟩ := bnd h
   obtain ⟨r32, h_r32, h⟩ := bnd h
   obtain ⟨s33, h_s33, h⟩ := bnd h
   refine Run.region hL hT [(4, .el [.s (.int .i64 qDR), .s (.int .i64 qYU), .s (.string qZU), .im false (qM qUP), .im false (qD qVP)]), (6, .call [false] [.ag [.jk, .jk, .jk, .jk, .jk]] [.v (.s (.string r32))]), (7, .hd [] (.t (.s (.string s33))) [])] (by cbv) ?_ ?_
   · exact (hq Tt (hq (qoB h_x31) (hq (qqB (f := qN) h_x31) (hq (qxE quC h_x31) (hq (hC (hself h_r32)) (hq (qyB h_s33) hq0))))))
   refine Run.region hL hT [] (by cbv) ?_ ?_
   · exact (hq Tt hq0)
   refine ⟨s33, (ar .add .i64 z18 1), h, Weak.of _ [(1, 1)] hA (by cbv) ?_⟩
   repeat (first | exact hq0 | refine hq (by first | exact Tt | rfl) ?_)
  have h := if_f c19 h
  refine Run.exit ?_
  refine ⟨z17, h, Weak.of _ [(1, 1)] hA (by cbv) ?_⟩
  repeat (first | exact hq0 | refine hq (by first | exact Tt | rfl) ?_)
 intro y8 h
 rw [h_K9] at h
 refine Run.seq ?_
 refine Run.seq ?_
 refine Run.region hL hT [] (by cbv) ?_ ?_
 · exact (hq Tt (hq Tt hq0))
 refine Run.cond (by cbv) (hq0) (fun c34 => ?_) (fun c34 => ?_)
 ·
  have h := if_t c34 h
  refine Run.seq ?_
  obtain ⟨s35, h_s35, h⟩ := bnd h
  obtain ⟨s36, h_s36, h⟩ := bnd h
  refine Run.region hL hT [(1, .hd [] (.t (.s (.string s35))) []), (2, .hd [] (.t (.s (.string s36))) [])] (by cbv) ?_ ?_
  · exact (hq (qyB h_s35) (hq (qyB h_s36) hq0))
  refine Run.ret ?_
  cases h
  refine ⟨_, _, by cbv, ?_, ?_⟩
  · exact LLe.r
  exact (ALe.v LLe.r ALe.nil)
 have h := if_f c34 h
 refine Run.skip ?_
 refine Run.seq ?_
 obtain ⟨s37, h_s37, h⟩ := bnd h
 obtain ⟨s38, h_s38, h⟩ := bnd h
 refine Run.region hL hT [(1, .hd [] (.t (.s (.string s37))) []), (2, .hd [] (.t (.s (.string s38))) [])] (by cbv) ?_ ?_
 · exact (hq (qyB h_s37) (hq (qyB h_s38) hq0))
 refine Run.ret ?_
 cases h
 refine ⟨_, _, by cbv, ?_, ?_⟩
 · exact LLe.r
 exact (ALe.v LLe.r ALe.nil)
theorem qPE : ∀ (k : Nat) {qE : Int} {a0v_N : Int} {a0v_S : ByteArray} {qB : List Json} {qC : List ByteArray} {r : ByteArray} (h : qX.g k (Json.mk qE a0v_N a0v_S qB qC) = some r), AC Tryz.prog 22 [.ag [.s (.int .i64 qE), .s (.int .i64 a0v_N), .s (.string a0v_S), .im false (rowsOf qN qB), .im false (rowsOf Str_c qC)]] [.ag [.jk, .jk, .jk, .jk, .jk]] [.v (.s (.string r))]
 | 0 => fun h => by cases h
 | k + 1 => fun h => qDH (qX.g k) (qPE k) h
theorem qdH {qE : Int} {a0v_N : Int} {a0v_S : ByteArray} {qB : List Json} {qC : List ByteArray} {r : ByteArray} (h : qX.f (Json.mk qE a0v_N a0v_S qB qC) = some r) : AC Tryz.prog 22 [.ag [.s (.int .i64 qE), .s (.int .i64 a0v_N), .s (.string a0v_S), .im false (rowsOf qN qB), .im false (rowsOf Str_c qC)]] [.ag [.jk, .jk, .jk, .jk, .jk]] [.v (.s (.string r))] := qPE 20 h
theorem qHD {qE : Int} {a0v_N : Int} {a0v_S : ByteArray} {qB : List Json} {qC : List ByteArray} {r : ByteArray} (h : qQC.f (Json.mk qE a0v_N a0v_S qB qC) = some r) : AC Tryz.prog 7 [.ag [.s (.int .i64 qE), .s (.int .i64 a0v_N), .s (.string a0v_S), .im false (rowsOf qN qB), .im false (rowsOf Str_c qC)]] [.ag [.jk, .jk, .jk, .jk, .jk]] [.v (.s (.string r))] := by
 unfold qQC.f at h
 let qM := rowsOf qN
 let qD := rowsOf Str_c
 show AC Tryz.prog 7 [.ag [.s (.int .i64 qE), .s (.int .i64 a0v_N), .s (.string a0v_S), .im false (qM qB), .im false (qD qC)]] _ _
 refine run3 Tryz.func7 (by rfl) (by rfl) (by cbv) ⟨by decide, rfl⟩ ?_
 intro ar cm bo sc sa sx ss sl bs sb ln sr ap up rp fr ge le lt nz mm ma sm fl al ci hL F hP hA hT hM hC
 refine Run.seq ?_
 refine Run.region hL hT [] (by cbv) hq0 ?_
 refine Run.seq ?_
 refine Run.seq ?_
 obtain ⟨r1, h_r1, h⟩ := bnd h
 refine Run.region hL hT [(1, .call [false] [.ag [.jk, .jk, .jk, .jk, .jk]] [.v (.s (.bool r1))])] (by cbv) ?_ ?_
 · exact (hq Tt (hq (hC (qAG h_r1)) hq0))
 refine Run.cond (by cbv) (hq0) (fun c2 => ?_) (fun c2 => ?_)
 ·
  have h := if_t c2 h
  refine Run.seq ?_
  refine Run.region hL hT [] (by cbv) hq0 ?_
  refine Run.ret ?_
  cases h
  refine ⟨_, _, by cbv, ?_, ?_⟩
  · exact LLe.r
  exact (ALe.v LLe.r ALe.nil)
 have h := if_f c2 h
 refine Run.skip ?_
 refine Run.seq ?_
 obtain ⟨r3, h_r3, h⟩ := bnd h
 refine Run.region hL hT [(1, .call [false] [.ag [.jk, .jk, .jk, .jk, .jk]] [.v (.s (.string r3))])] (by cbv) ?_ ?_
 · exact (hq Tt (hq (hC (qdH h_r3)) hq0))
 refine Run.seq ?_
 refine Run.seq ?_
 refine Run.region hL hT [] (by cbv) ?_ ?_
 · exact (hq Tt hq0)
 refine Run.cond (by cbv) (hq0) (fun c4 => ?_) (fun c4 => ?_)
 ·
  have h := if_t c4 h
  refine Run.seq ?_
  refine Run.region hL hT [] (by cbv) hq0 ?_
  refine Run.ret ?_
  cases h
  refine ⟨_, _, by cbv, ?_, ?_⟩
  · exact LLe.r
  exact (ALe.v LLe.r ALe.nil)
 have h := if_f c4 h
 refine Run.skip ?_
 refine Run.seq ?_
 refine Run.region hL hT [] (by cbv) hq0 ?_
 refine Run.ret ?_
 cases h
 refine ⟨_, _, by cbv, ?_, ?_⟩
 · exact LLe.r
 exact (ALe.v LLe.r ALe.nil)
theorem qiG {a0 : List Int} {r : ByteArray} (h : qBC.f a0 = some r) : AC Tryz.prog 10 [.v (.im true (rowsOf u8_c a0))] [.v (.jk)] [.v (.s (.string r))] := by
 unfold qBC.f at h
 let qM := rowsOf qN
 let qJ := rowsOf qr
 let qD := rowsOf Str_c
 let eu8_c := rowsOf u8_c
 show AC Tryz.prog 10 [.v (.im true (eu8_c a0))] _ _
 refine run3 Tryz.func10 (by rfl) (by rfl) (by cbv) ⟨by decide, rfl⟩ ?_
 intro ar cm bo sc sa sx ss sl bs sb ln sr ap up rp fr ge le lt nz mm ma sm fl al ci hL F hP hA hT hM hC
 refine Run.seq ?_
 refine Run.region hL hT [] (by cbv) hq0 ?_
 refine Run.seq ?_
 obtain ⟨⟨r1v_b, r1v_i, r1v_h⟩, h_r1, h⟩ := bnd h
 refine Run.region hL hT [(1, .call [true] [.v (.jk)] [.v (.bx 53 [.im true (eu8_c r1v_b), .s (.int .i64 r1v_i), .s (.int .i64 r1v_h)])])] (by cbv) ?_ ?_
 · exact (hq (hC (qZE h_r1)) hq0)
 refine Run.seq ?_
 obtain ⟨⟨⟨qlO, qfF, qgF⟩, ⟨qOG, quK, qvK, qOF, qPF⟩⟩, h_r2, h⟩ := bnd h
 obtain ⟨r3, h_r3, h⟩ := bnd h
 refine Run.region hL hT [(1, .call [true, false] [.v (.bx 53 [.im true (eu8_c r1v_b), .s (.int .i64 qfF), .s (.int .i64 qgF)]), .v (.jk)] [.ag [.s (.int .i64 qOG), .s (.int .i64 quK), .s (.string qvK), .im true (qJ qOF), .im true (qD qPF)]]), (2, .call [false] [.ag [.jk, .jk, .jk, .jk, .jk]] [.v (.s (.string r3))])] (by cbv) ?_ ?_
 · exact (hq (hC (qmC h_r2)) (hq (hC (AC.args (qHD h_r3) (ALe.ag rfl (LLe.c (LLe.c (LLe.c (LLe.cons (LLe.im (qOD _)) (LLe.c LLe.nil))))) ALe.nil))) hq0))
 refine Run.seq ?_
 obtain ⟨⟨⟨qlS, qwK, qxK⟩, r4v_2⟩, h_r4, h⟩ := bnd h
 refine Run.region hL hT [(4, .call [true, false] [.v (.bx 53 [.im true (eu8_c r1v_b), .s (.int .i64 qwK), .s (.int .i64 qxK)]), .v (.jk)] [.v (.s (.int .i64 r4v_2))])] (by cbv) ?_ ?_
 · exact (hq Tt (hq (hC (qa h_r4)) hq0))
 refine Run.seq ?_
 refine Run.seq ?_
 obtain ⟨⟨⟨qjO, qdF, qeF⟩, r5v_2⟩, h_r5, h⟩ := bnd h
 refine Run.region hL hT [(1, .call [true, false] [.v (.bx 53 [.im true (eu8_c r1v_b), .s (.int .i64 qdF), .s (.int .i64 qeF)]), .v (.jk)] [.v (.s (.int .i64 r5v_2))])] (by cbv) ?_ ?_
 · exact (hq (hC (qa h_r5)) hq0)
 refine Run.block ?_
 refine Run.seq ?_
 refine Run.region hL hT [] (by cbv) ?_ ?_
 · exact (hq Tt hq0)
 refine Run.cond (by cbv) (hq0) (fun c6 => ?_) (fun c6 => ?_)
 ·
  have h := if_t c6 h
  refine Run.seq ?_
  obtain ⟨u7, h_u7, h⟩ := bnd h
  refine Run.region hL hT [] (by cbv) ?_ ?_
  · exact (hq (quE h_u7) (hq (qvE h_u7) (hq (qwE h_u7) hq0)))
  refine Run.ret ?_
  cases h
  refine ⟨_, _, by cbv, ?_, ?_⟩
  · exact LLe.r
  exact (ALe.v LLe.r ALe.nil)
 have h := if_f c6 h
 refine Run.seq ?_
 refine Run.region hL hT [] (by cbv) ?_ ?_
 · exact (hq Tt hq0)
 refine Run.cond (by cbv) (hq0) (fun c8 => ?_) (fun c8 => ?_)
 ·
  have h := if_t c8 h
  refine Run.seq ?_
  obtain ⟨u9, h_u9, h⟩ := bnd h
  obtain ⟨l10, h_l10, h⟩ := bnd h
  obtain ⟨⟨⟨qaU, qER, qFR⟩, qbU⟩, h_r11, h⟩ := bnd h
  obtain ⟨s12, h_s12, h⟩ := bnd h
  obtain ⟨u13, h_u13, h⟩ := bnd h
  obtain ⟨s14, h_s14, h⟩ := bnd h
  refine Run.draw hL hT hM [(5, .call [true, false] [.v (.bx 53 [.im true (eu8_c r1v_b), .s (.int .i64 qER), .s (.int .i64 qFR)]), .v (.jk)] [.v (.s (.string qbU))]), (6, .hd [] (.t (.s (.string s12))) []), (10, .hd [] (.t (.s (.string s14))) [])] (by cbv) (qA (by cbv) (by cbv) (qA (by cbv) (by cbv) (qA (by cbv) (by cbv) (qA (by cbv) (by cbv) (qA (by cbv) (by cbv) (qA (by cbv) (by cbv) (qA (by cbv) (by cbv) (qA (by cbv) (by cbv) (qA (by cbv) (by cbv) (qA (by cbv) (by cbv) (qA (by cbv) (by cbv) (qA (by cbv) (by cbv) ql)))))))))))) (by cbv) (by cbv) (by cbv) ?_ ?_
  · exact (hq (quE h_u9) (hq (qvE h_u9) (hq (qwE h_u9) (hq (hC (AC.args (qLC h_r11) (ALe.v LLe.r (ALe.v (qXG rfl (qU (f := Str_c) h_l10 (RLe.cons rfl LLe.r (RLe.cons rfl LLe.r (RLe.cons rfl LLe.r (RLe.cons rfl LLe.r (RLe.cons rfl LLe.r (RLe.cons rfl LLe.r (RLe.cons rfl LLe.r (RLe.cons rfl LLe.r (RLe.cons rfl LLe.r (RLe.cons rfl LLe.r (RLe.cons rfl LLe.r (RLe.cons rfl LLe.r (RLe.cons rfl LLe.r RLe.nil))))))))))))))) ALe.nil)))) (hq (qyB h_s12) (hq (quE h_u13) (hq (qvE h_u13) (hq (qwE h_u13) (hq (qyB h_s14) hq0)))))))))
  refine Run.row (rows := [[.s (.string (ByteArray.mk #[32]))], [.s (.string (ByteArray.mk #[44]))], [.s (.string (ByteArray.mk #[48]))], [.s (.string (ByteArray.mk #[34]))], [.s (.string (ByteArray.mk #[91]))], [.s (.string (ByteArray.mk #[93]))], [.s (.string (ByteArray.mk #[123]))], [.s (.string (ByteArray.mk #[125]))], [.s (.string (ByteArray.mk #[45]))], [.s (.string (ByteArray.mk #[120]))], [.s (.string (ByteArray.mk #[92]))], [.s (.string (ByteArray.mk #[110, 117, 108, 108]))], [.s (.string (ByteArray.mk #[58]))]]) 28676 (qD l10) (by cbv) (qU (f := Str_c) h_l10 (RLe.cons rfl LLe.r (RLe.cons rfl LLe.r (RLe.cons rfl LLe.r (RLe.cons rfl LLe.r (RLe.cons rfl LLe.r (RLe.cons rfl LLe.r (RLe.cons rfl LLe.r (RLe.cons rfl LLe.r (RLe.cons rfl LLe.r (RLe.cons rfl LLe.r (RLe.cons rfl LLe.r (RLe.cons rfl LLe.r (RLe.cons rfl LLe.r RLe.nil)))))))))))))) ?_
  refine Run.ret ?_
  cases h
  refine ⟨_, _, by cbv, ?_, ?_⟩
  · exact LLe.r
  exact (ALe.v LLe.r ALe.nil)
 have h := if_f c8 h
 refine Run.skip ?_
 refine Run.seq ?_
 refine Run.region hL hT [] (by cbv) hq0 ?_
 refine Run.ret ?_
 cases h
 refine ⟨_, _, by cbv, ?_, ?_⟩
 · exact LLe.r
 exact (ALe.v LLe.r ALe.nil)
theorem qZB {a0v_s : ByteArray} {qw : Int} {qMB : Bool} {qe : Int} {r : Int} (h : qVB.f (l2Cur.mk a0v_s qw qMB qe) = some r) : AC Tryz.prog 50 [.v (.ip [.s (.string a0v_s), .s (.int .i64 qw), .s (.bool qMB), .s (.int .i64 qe)])] [.v (.jk)] [.v (.s (.int .u8 r))] := by
 unfold qVB.f at h
 show AC Tryz.prog 50 [.v (.ip [.s (.string a0v_s), .s (.int .i64 qw), .s (.bool qMB), .s (.int .i64 qe)])] _ _
 refine run3 Tryz.func50 (by rfl) (by rfl) (by cbv) ⟨by decide, rfl⟩ ?_
 intro ar cm bo sc sa sx ss sl bs sb ln sr ap up rp fr ge le lt nz mm ma sm fl al ci hL F hP hA hT hM hC
 refine Run.seq ?_
 refine Run.region hL hT [] (by cbv) hq0 ?_
 refine Run.seq ?_
 refine Run.seq ?_
 refine Run.draw hL hT hM [] (by cbv) (qA (by cbv) (by cbv) (qA (by cbv) (by cbv) (qA (by cbv) (by cbv) (qA (by cbv) (by cbv) (qA (by cbv) (by cbv) (qA (by cbv) (by cbv) (qA (by cbv) (by cbv) (qA (by cbv) (by cbv) (qA (by cbv) (by cbv) (qA (by cbv) (by cbv) ql)))))))))) (by cbv) (by cbv) (by cbv) ?_ ?_
 · exact (hq Tt hq0)
 refine Run.cond (by cbv) (hq0) (fun c1 => ?_) (fun c1 => ?_)
 ·
  have h := if_t c1 h
  refine Run.seq ?_
  refine Run.region hL hT [] (by cbv) hq0 ?_
  refine Run.ret ?_
  cases h
  refine ⟨_, _, by cbv, ?_, ?_⟩
  · exact LLe.r
  exact (ALe.v LLe.r ALe.nil)
 have h := if_f c1 h
 refine Run.skip ?_
 refine Run.seq ?_
 obtain ⟨u2, h_u2, h⟩ := bnd h
 refine Run.draw hL hT hM [] (by cbv) (qA (by cbv) (by cbv) (qA (by cbv) (by cbv) (qA (by cbv) (by cbv) (qA (by cbv) (by cbv) (qA (by cbv) (by cbv) (qA (by cbv) (by cbv) (qA (by cbv) (by cbv) (qA (by cbv) (by cbv) (qA (by cbv) (by cbv) (qA (by cbv) (by cbv) ql)))))))))) (by cbv) (by cbv) (by cbv) ?_ ?_
 · exact (hq (inS_0 h_u2) (hq (inS_1 h_u2) hq0))
 refine Run.ret ?_
 cases h
 refine ⟨_, _, by cbv, ?_, ?_⟩
 · exact LLe.r
 exact (ALe.v LLe.r ALe.nil)
theorem qjB {a0v_s : ByteArray} {qw : Int} {qMB : Bool} {qe : Int} {a1 : ByteArray} {r : l2Cur} (h : qm.f (l2Cur.mk a0v_s qw qMB qe) a1 = some r) : AC Tryz.prog 51 [.v (.bx 50 [.s (.string a0v_s), .s (.int .i64 qw), .s (.bool qMB), .s (.int .i64 qe)]), .v (.s (.string a1))] [.v (.bx 50 [.s (.string r.s), .s (.int .i64 r.at_), .s (.bool r.ok), .s (.int .i64 r.left)]), .v (.jk)] [] := by
 unfold qm.f at h
 show AC Tryz.prog 51 [.v (.bx 50 [.s (.string a0v_s), .s (.int .i64 qw), .s (.bool qMB), .s (.int .i64 qe)]), .v (.s (.string a1))] _ _
 refine run3 Tryz.func51 (by rfl) (by rfl) (by cbv) ⟨by decide, rfl⟩ ?_
 intro ar cm bo sc sa sx ss sl bs sb ln sr ap up rp fr ge le lt nz mm ma sm fl al ci hL F hP hA hT hM hC
 refine Run.seq ?_
 refine Run.seq ?_
 obtain ⟨u1, h_u1, h⟩ := bnd h
 refine Run.draw hL hT hM [] (by cbv) (qA (by cbv) (by cbv) (qA (by cbv) (by cbv) (qA (by cbv) (by cbv) (qA (by cbv) (by cbv) (qA (by cbv) (by cbv) (qA (by cbv) (by cbv) (qA (by cbv) (by cbv) (qA (by cbv) (by cbv) (qA (by cbv) (by cbv) (qA (by cbv) (by cbv) (qA (by cbv) (by cbv) (qA (by cbv) (by cbv) (qA (by cbv) (by cbv) (qA (by cbv) (by cbv) (qA (by cbv) (by cbv) (qA (by cbv) (by cbv) (qA (by cbv) (by cbv) (qA (by cbv) (by cbv) (qA (by cbv) (by cbv) (qA (by cbv) (by cbv) (qA (by cbv) (by cbv) (qA (by cbv) (by cbv) (qA (by cbv) (by cbv) (qA (by cbv) (by cbv) (qA (by cbv) (by cbv) (qA (by cbv) (by cbv) (qA (by cbv) (by cbv) (qA (by cbv) (by cbv) (qA (by cbv) (by cbv) (qA (by cbv) (by cbv) (qA (by cbv) (by cbv) (qA (by cbv) (by cbv) (qA (by cbv) (by cbv) ql))))))))))))))))))))))))))))))))) (by cbv) (by cbv) (by cbv) ?_ ?_
 · exact (hq Tt (hq Tt (hq Tt (hq Tt (hq (fun _ => hq0) (hq (fun g3 => (hq g3 hq0)) (hq (fun g4 => (hq g4 hq0)) (hq (fun g5 => (hq g5 (hq Tt hq0))) (hq (fun _ => hq0) (hq (fun g7 => (hq g7 hq0)) (hq (fun g8 => (hq g8 hq0)) (hq (fun g9 => (hq g9 (hq Tt hq0))) (hq (fun _ => hq0) (hq (fun g11 => (hq g11 hq0)) (hq (fun g12 => (hq g12 hq0)) (hq (fun g13 => (hq g13 (hq Tt hq0))) (hq (fun _ => hq0) (hq (fun g15 => (hq g15 hq0)) (hq (fun g16 => (hq g16 (hq g16 (hq Tt hq0)))) (hq (fun g17 => (hq g17 (hq g17 (hq g17 (hq (quE (gd_t h_u1 g17)) (hq (qvE (gd_t h_u1 g17)) (hq (qwE (gd_t h_u1 g17)) hq0))))))) (hq (fun _ => hq0) (hq (fun g19 => (hq g19 (hq g19 hq0))) (hq (fun _ => hq0) (hq (fun q21 => (hq (bo_m q21) hq0)) hq0))))))))))))))))))))))))
 refine Run.cond (by cbv) (hq0) (fun c22 => ?_) (fun c22 => ?_)
 ·
  have h := if_t c22 h
  refine Run.seq ?_
  refine Run.region hL hT [] (by cbv) ?_ ?_
  · exact (hq Tt hq0)
  refine Run.ret ?_
  cases h
  refine ⟨_, _, by cbv, ?_, ?_⟩
  · exact LLe.r
  exact ALe.nil
 have h := if_f c22 h
 refine Run.skip ?_
 refine Run.region hL hT [] (by cbv) ?_ ?_
 · exact (hq Tt (hq Tt (hq Tt hq0)))
 cases h
 refine ⟨_, _, by cbv, ?_, ?_⟩
 · exact LLe.r
 exact ALe.nil
theorem qhE {a0v_s : ByteArray} {qw : Int} {qMB : Bool} {qe : Int} {r : l2Cur × ByteArray} (h : qc.f (l2Cur.mk a0v_s qw qMB qe) = some r) : AC Tryz.prog 52 [.v (.bx 50 [.s (.string a0v_s), .s (.int .i64 qw), .s (.bool qMB), .s (.int .i64 qe)])] [.v (.bx 50 [.s (.string r.1.s), .s (.int .i64 r.1.at_), .s (.bool r.1.ok), .s (.int .i64 r.1.left)])] [.v (.s (.string r.2))] := by
 unfold qc.f at h
 let eu8_c := rowsOf u8_c
 show AC Tryz.prog 52 [.v (.bx 50 [.s (.string a0v_s), .s (.int .i64 qw), .s (.bool qMB), .s (.int .i64 qe)])] _ _
 refine run3 Tryz.func52 (by rfl) (by rfl) (by cbv) ⟨by decide, rfl⟩ ?_
 intro ar cm bo sc sa sx ss sl bs sb ln sr ap up rp fr ge le lt nz mm ma sm fl al ci hL F hP hA hT hM hC
 refine Run.seq ?_
 refine Run.region hL hT [] (by cbv) hq0 ?_
 refine Run.seq ?_
 obtain ⟨⟨r1v_s, qGR, qmO, qsH⟩, h_r1, h⟩ := bnd h
 refine Run.region hL hT [(1, .call [true, false] [.v (.bx 50 [.s (.string r1v_s), .s (.int .i64 qGR), .s (.bool qmO), .s (.int .i64 qsH)]), .v (.jk)] [])] (by cbv) ?_ ?_
 · exact (hq (hC (qjB h_r1)) hq0)
 refine Run.seq ?_
 refine Run.region hL hT [] (by cbv) hq0 ?_
 obtain ⟨K5, h_K5, h⟩ := joinE h
 refine Run.join3 K5 (r := r) (fun (y2 : Int) (y3 : Bool) (y4 : List Int) => ⟨62, 100000, [(0, .pt 0 0 0), (3, .rf 1)], [(0, .box 50 [.t (.s (.string r1v_s)), .t (.s (.int .i64 y2)), .t (.s (.bool y3)), .t (.s (.int .i64 qsH))]), (1, .row 0 5 1 (eu8_c y4))]⟩) ?_ ?_
 ·
  skip
  refine Run.block ?_
  refine Run.loop2 (fun (z11 : Int) (z12 : List Int) => ⟨62, 100000, [(0, .pt 0 0 0), (3, .rf 1)], [(0, .box 50 [.t (.s (.string r1v_s)), .t (.s (.int .i64 z11)), .t (.s (.bool qmO)), .t (.s (.int .i64 qsH))]), (1, .row 0 5 1 (eu8_c z12))]⟩) (x0 := qGR) (x1 := []) h (Weak.of _ [(0, 0), (1, 8193)] hA (by cbv) ?_) (fun _ _ => rfl) ?_
  · repeat (first | exact hq0 | refine hq (by first | exact Tt | rfl) ?_)
  intro k z11 z12 h
  rw [qc.l0] at h
  refine Run.seq ?_
  refine Run.seq ?_
  obtain ⟨r13, h_r13, h⟩ := bnd h
  refine Run.region hL hT [(6, .call [false] [.v (.jk)] [.v (.s (.int .u8 r13))])] (by cbv) ?_ ?_
  · exact (hq Tt (hq (fun _ => hq0) (hq (fun g15 => (hq g15 (hq (hC (qZB (gd_t h_r13 g15))) hq0))) (hq (fun g16 => (hq g16 (hq Tt hq0))) (hq (fun q17 => (hq q17 hq0)) (hq (fun _ => hq0) hq0))))))
  refine Run.cond (by cbv) (hq0) (fun c19 => ?_) (fun c19 => ?_)
  ·
   have h := if_t c19 h
   refine Run.skip ?_
   refine Run.block ?_
   obtain ⟨K21, h_K21, h⟩ := joinE h
   refine Run.join1 K21 (r := r) (fun (y20 : Int) => ⟨62, 100000, [(0, .pt 0 0 0), (3, .rf 1)], [(0, .box 50 [.t (.s (.string r1v_s)), .t (.s (.int .i64 y20)), .t (.s (.bool qmO)), .t (.s (.int .i64 qsH))]), (1, .row 0 5 1 (eu8_c z12))]⟩) ?_ ?_
   ·
    skip
    refine Run.seq ?_
    obtain ⟨r22, h_r22, h⟩ := bnd h
    refine Run.region hL hT [(1, .call [false] [.v (.jk)] [.v (.s (.int .u8 r22))])] (by cbv) ?_ ?_
    · exact (hq (hC (qZB h_r22)) (hq Tt hq0))
    refine Run.cond (by cbv) (hq0) (fun c23 => ?_) (fun c23 => ?_)
    ·
     have h := if_t c23 h
     refine Run.region hL hT [] (by cbv) ?_ ?_
     · exact (hq Tt (hq Tt (hq Tt hq0)))
     refine ⟨(ar .add .i64 z11 1), h, Weak.of _ [(0, 0), (1, 1)] hA (by cbv) ?_⟩
     repeat (first | exact hq0 | refine hq (by first | exact Tt | rfl) ?_)
    have h := if_f c23 h
    refine Run.skip ?_
    refine ⟨z11, h, Weak.of _ [(0, 0), (1, 1)] hA (by cbv) ?_⟩
    repeat (first | exact hq0 | refine hq (by first | exact Tt | rfl) ?_)
   intro y20 h
   rw [h_K21] at h
   refine Run.seq ?_
   refine Run.seq ?_
   refine Run.draw hL hT hM [] (by cbv) (qA (by cbv) (by cbv) (qA (by cbv) (by cbv) (qA (by cbv) (by cbv) (qA (by cbv) (by cbv) (qA (by cbv) (by cbv) (qA (by cbv) (by cbv) (qA (by cbv) (by cbv) (qA (by cbv) (by cbv) (qA (by cbv) (by cbv) (qA (by cbv) (by cbv) ql)))))))))) (by cbv) (by cbv) (by cbv) ?_ ?_
   · exact (hq Tt (hq Tt (hq Tt hq0)))
   refine Run.cond (by cbv) (hq0) (fun c24 => ?_) (fun c24 => ?_)
   ·
    have h := if_t c24 h
    refine Run.seq ?_
    refine Run.region hL hT [] (by cbv) ?_ ?_
    · exact (hq Tt hq0)
    refine Run.exit ?_
    refine ⟨y20, false, z12, h, Weak.of _ [(0, 0), (1, 1)] hA (by cbv) ?_⟩
    repeat (first | exact hq0 | refine hq (by first | exact Tt | rfl) ?_)
   have h := if_f c24 h
   refine Run.skip ?_
   refine Run.seq ?_
   obtain ⟨u25, h_u25, h⟩ := bnd h
   obtain ⟨l26, h_l26, h⟩ := bnd h
   obtain ⟨l27, h_l27, h⟩ := bnd h
   refine Run.draw hL hT hM [] (by cbv) (qA (by cbv) (by cbv) (qA (by cbv) (by cbv) (qA (by cbv) (by cbv) (qA (by cbv) (by cbv) (qA (by cbv) (by cbv) (qA (by cbv) (by cbv) (qA (by cbv) (by cbv) (qA (by cbv) (by cbv) (qA (by cbv) (by cbv) (qA (by cbv) (by cbv) (qA (by cbv) (by cbv) (qA (by cbv) (by cbv) (qA (by cbv) (by cbv) ql))))))))))))) (by cbv) (by cbv) (by cbv) ?_ ?_
   · exact (hq Tt (hq Tt (hq (inS_0 h_u25) (hq (inS_1 h_u25) (hq (qiB (P := Tryz.prog) (f := u8_c) RLe.r (qU (f := u8_c) h_l26 (RLe.cons rfl LLe.r RLe.nil)) h_l27) hq0)))))
   refine Run.row (rows := (ap (eu8_c z12) ([[.s (.int .u8 (sx r1v_s y20))]]))) 104107 (eu8_c l27) (by cbv) (qdB (f := u8_c) RLe.r (qU (f := u8_c) h_l26 (RLe.cons rfl LLe.r RLe.nil)) h_l27) ?_
   refine Run.region hL hT [] (by cbv) ?_ ?_
   · exact (hq Tt (hq Tt (hq Tt hq0)))
   refine ⟨(ar .add .i64 y20 1), l27, h, Weak.of _ [(0, 0), (1, 104107)] hA (by cbv) ?_⟩
   repeat (first | exact hq0 | refine hq (by first | exact Tt | rfl) ?_)
  have h := if_f c19 h
  refine Run.exit ?_
  refine ⟨z11, qmO, z12, h, Weak.of _ [(0, 0), (1, 1)] hA (by cbv) ?_⟩
  repeat (first | exact hq0 | refine hq (by first | exact Tt | rfl) ?_)
 intro y2 y3 y4 h
 rw [h_K5] at h
 refine Run.seq ?_
 obtain ⟨⟨qcU, qmS, qCU, qHR⟩, h_r28, h⟩ := bnd h
 refine Run.region hL hT [(1, .call [true, false] [.v (.bx 50 [.s (.string qcU), .s (.int .i64 qmS), .s (.bool qCU), .s (.int .i64 qHR)]), .v (.jk)] [])] (by cbv) ?_ ?_
 · exact (hq (hC (qjB h_r28)) hq0)
 refine Run.seq ?_
 obtain ⟨s29, h_s29, h⟩ := bnd h
 refine Run.region hL hT [(1, .hd [1] (.t (.s (.string s29))) [])] (by cbv) ?_ ?_
 · exact (hq (qYG (ns := y4) hT (by rfl) (by rfl) (by rfl) (by rfl) (by rfl) (by rfl) (by rfl) (qbO h_s29)) hq0)
 refine Run.ret ?_
 cases h
 refine ⟨_, _, by cbv, ?_, ?_⟩
 · exact LLe.r
 exact (ALe.v LLe.r ALe.nil)
theorem qPJ (self : l2Cur → Int → Option (l2Cur × Json)) (hself : ∀ {a0v_s : ByteArray} {qw : Int} {qMB : Bool} {qe : Int} {a1 : Int} {r : l2Cur × Json} (h : self (l2Cur.mk a0v_s qw qMB qe) a1 = some r), AC Tryz.prog 28 [.v (.bx 50 [.s (.string a0v_s), .s (.int .i64 qw), .s (.bool qMB), .s (.int .i64 qe)]), .v (.s (.int .i64 a1))] [.v (.bx 50 [.s (.string r.1.s), .s (.int .i64 r.1.at_), .s (.bool r.1.ok), .s (.int .i64 r.1.left)]), .v (.jk)] [.ag [.s (.int .i64 r.2.Kind), .s (.int .i64 r.2.N), .s (.string r.2.S), .ow 27 (rowsOf qx r.2.List_), .ow 9 (rowsOf Str_c r.2.Names)]]) {a0v_s : ByteArray} {qw : Int} {qMB : Bool} {qe : Int} {a1 : Int} {r : l2Cur × Json} (h : qZ.f self (l2Cur.mk a0v_s qw qMB qe) a1 = some r) : AC Tryz.prog 53 [.v (.bx 50 [.s (.string a0v_s), .s (.int .i64 qw), .s (.bool qMB), .s (.int .i64 qe)]), .v (.s (.int .i64 a1))] [.v (.bx 50 [.s (.string r.1.s), .s (.int .i64 r.1.at_), .s (.bool r.1.ok), .s (.int .i64 r.1.left)]), .v (.jk)] [.ag [.s (.int .i64 r.2.Kind), .s (.int .i64 r.2.N), .s (.string r.2.S), .ow 27 (rowsOf qx r.2.List_), .ow 9 (rowsOf Str_c r.2.Names)]] := by
 unfold qZ.f at h
 let qh := rowsOf qx
 let qD := rowsOf Str_c
 let qV := @lenI Json
 show AC Tryz.prog 53 [.v (.bx 50 [.s (.string a0v_s), .s (.int .i64 qw), .s (.bool qMB), .s (.int .i64 qe)]), .v (.s (.int .i64 a1))] _ _
 refine run3 Tryz.func53 (by rfl) (by rfl) (by cbv) ⟨by decide, rfl⟩ ?_
 intro ar cm bo sc sa sx ss sl bs sb ln sr ap up rp fr ge le lt nz mm ma sm fl al ci hL F hP hA hT hM hC
 refine Run.seq ?_
 refine Run.region hL hT [] (by cbv) hq0 ?_
 refine Run.seq ?_
 refine Run.region hL hT [] (by cbv) ?_ ?_
 · exact (hq Tt hq0)
 refine Run.seq ?_
 refine Run.region hL hT [] (by cbv) hq0 ?_
 obtain ⟨K3, h_K3, h⟩ := joinE h
 refine Run.join2 K3 (r := r) (fun (y1 : Int) (y2 : ByteArray) => ⟨61, 100000, [(0, .pt 0 0 0), (1, .t (.s (.int .i64 a1))), (4, .pt 1 0 0), (5, .pt 2 0 0), (6, .t (.s (.string y2)))], [(0, .box 50 [.t (.s (.string a0v_s)), .t (.s (.int .i64 qw)), .t (.s (.bool qMB)), .t (.s (.int .i64 qe))]), (1, .box 27 [.t (.s (.int .i64 0)), .t (.s (.int .i64 0)), .t (.s (.string ByteArray.empty)), .t (.s (.slice none 0 0)), .t (.s (.slice none 0 0))]), (2, .box 27 [.t (.s (.int .i64 y1)), .t (.s (.int .i64 0)), .t (.s (.string ByteArray.empty)), .t (.s (.slice none 0 0)), .t (.s (.slice none 0 0))])]⟩) ?_ ?_
 ·
  skip
  refine Run.seq ?_
  obtain ⟨r4, h_r4, h⟩ := bnd h
  refine Run.region hL hT [(1, .call [false] [.v (.jk)] [.v (.s (.int .u8 r4))])] (by cbv) ?_ ?_
  · exact (hq (hC (qZB h_r4)) (hq Tt hq0))
  refine Run.cond (by cbv) (hq0) (fun c5 => ?_) (fun c5 => ?_)
  ·
   have h := if_t c5 h
   refine Run.seq ?_
   refine Run.region hL hT [] (by cbv) ?_ ?_
   · exact (hq Tt hq0)
   refine Run.region hL hT [] (by cbv) hq0 ?_
   refine ⟨5, (ByteArray.mk #[125]), h, Weak.of _ [(0, 0), (1, 1), (2, 4098)] hA (by cbv) ?_⟩
   repeat (first | exact hq0 | refine hq (by first | exact Tt | rfl) ?_)
  have h := if_f c5 h
  refine Run.skip ?_
  refine ⟨4, (ByteArray.mk #[93]), h, Weak.of _ [(0, 0), (1, 1), (2, 4098)] hA (by cbv) ?_⟩
  repeat (first | exact hq0 | refine hq (by first | exact Tt | rfl) ?_)
 intro y1 y2 h
 rw [h_K3] at h
 refine Run.seq ?_
 refine Run.region hL hT [] (by cbv) ?_ ?_
 · exact (hq Tt (hq Tt (hq Tt hq0)))
 obtain ⟨K12, h_K12, h⟩ := joinE h
 refine Run.join6 K12 (r := r) (fun (y6 : ByteArray) (y7 : Int) (y8 : Bool) (y9 : Int) (y10 : List Json) (y11 : List ByteArray) => ⟨61, 100000, [(0, .pt 0 0 0), (4, .pt 1 0 0), (5, .pt 2 0 0), (6, .t (.s (.string y2)))], [(0, .box 50 [.t (.s (.string y6)), .t (.s (.int .i64 y7)), .t (.s (.bool y8)), .t (.s (.int .i64 y9))]), (1, .box 27 [.t (.s (.int .i64 0)), .t (.s (.int .i64 0)), .t (.s (.string ByteArray.empty)), .t (.s (.slice none 0 0)), .t (.s (.slice none 0 0))]), (2, .box 27 [.t (.s (.int .i64 y1)), .t (.s (.int .i64 0)), .t (.s (.string ByteArray.empty)), .rf 3, .rf 4]), (3, .row 0 27 5 (qh y10)), (4, .row 0 9 1 (qD y11))]⟩) ?_ ?_
 ·
  skip
  refine Run.block ?_
  refine Run.loop6 (fun (z39 : ByteArray) (z40 : Int) (z41 : Bool) (z42 : Int) (z43 : List Json) (z44 : List ByteArray) => ⟨61, 100000, [(0, .pt 0 0 0), (1, .t (.s (.int .i64 a1))), (4, .pt 1 0 0), (5, .pt 2 0 0), (6, .t (.s (.string y2)))], [(0, .box 50 [.t (.s (.string z39)), .t (.s (.int .i64 z40)), .t (.s (.bool z41)), .t (.s (.int .i64 z42))]), (1, .box 27 [.t (.s (.int .i64 0)), .t (.s (.int .i64 0)), .t (.s (.string ByteArray.empty)), .t (.s (.slice none 0 0)), .t (.s (.slice none 0 0))]), (2, .box 27 [.t (.s (.int .i64 y1)), .t (.s (.int .i64 0)), .t (.s (.string ByteArray.empty)), .rf 3, .rf 4]), (3, .row 0 27 5 (qh z43)), (4, .row 0 9 1 (qD z44))]⟩) (x0 := a0v_s) (x1 := (ar .add .i64 qw 1)) (x2 := qMB) (x3 := qe) (x4 := []) (x5 := []) h ((Weak.nilB (l := [.t (.s (.int .i64 y1)), .t (.s (.int .i64 0)), .t (.s (.string ByteArray.empty))]) hT 2 3 105096 27 rfl (by cbv) (by cbv) (by cbv)).trans ((Weak.nilB (l := [.t (.s (.int .i64 y1)), .t (.s (.int .i64 0)), .t (.s (.string ByteArray.empty)), .rf 105096]) hT 2 4 105097 9 rfl (by cbv) (by cbv) (by cbv)).trans (Weak.of _ [(0, 0), (1, 1), (2, 2), (3, 105096), (4, 105097)] hA (by cbv) ?_))) (fun _ _ _ _ _ _ => rfl) ?_
  · repeat (first | exact hq0 | refine hq (by first | exact Tt | rfl) ?_)
  intro k z39 z40 z41 z42 z43 z44 h
  rw [qZ.l0] at h
  refine Run.seq ?_
  refine Run.seq ?_
  obtain ⟨r45, h_r45, h⟩ := bnd h
  obtain ⟨u46, h_u46, h⟩ := bnd h
  refine Run.draw hL hT hM [(6, .call [false] [.v (.jk)] [.v (.s (.int .u8 r45))])] (by cbv) (qA (by cbv) (by cbv) (qA (by cbv) (by cbv) (qA (by cbv) (by cbv) (qA (by cbv) (by cbv) (qA (by cbv) (by cbv) (qA (by cbv) (by cbv) (qA (by cbv) (by cbv) (qA (by cbv) (by cbv) (qA (by cbv) (by cbv) (qA (by cbv) (by cbv) (qA (by cbv) (by cbv) ql))))))))))) (by cbv) (by cbv) (by cbv) ?_ ?_
  · exact (hq Tt (hq (fun _ => hq0) (hq (fun g48 => (hq g48 (hq (hC (qZB (gd_t h_r45 g48))) hq0))) (hq (fun _ => hq0) (hq (fun g50 => (hq g50 (hq (inS_0 (gd_t h_u46 g50)) (hq (inS_1 (gd_t h_u46 g50)) hq0)))) (hq (fun g51 => (hq g51 (hq g51 (hq Tt hq0)))) (hq (fun q52 => (hq q52 hq0)) (hq (fun _ => hq0) hq0))))))))
  refine Run.cond (by cbv) (hq0) (fun c54 => ?_) (fun c54 => ?_)
  ·
   have h := if_t c54 h
   refine Run.skip ?_
   refine Run.block ?_
   obtain ⟨K59, h_K59, h⟩ := joinE h
   refine Run.join4 K59 (r := r) (fun (y55 : ByteArray) (y56 : Int) (y57 : Bool) (y58 : Int) => ⟨61, 100000, [(0, .pt 0 0 0), (1, .t (.s (.int .i64 a1))), (4, .pt 1 0 0), (5, .pt 2 0 0), (6, .t (.s (.string y2)))], [(0, .box 50 [.t (.s (.string y55)), .t (.s (.int .i64 y56)), .t (.s (.bool y57)), .t (.s (.int .i64 y58))]), (1, .box 27 [.t (.s (.int .i64 0)), .t (.s (.int .i64 0)), .t (.s (.string ByteArray.empty)), .t (.s (.slice none 0 0)), .t (.s (.slice none 0 0))]), (2, .box 27 [.t (.s (.int .i64 y1)), .t (.s (.int .i64 0)), .t (.s (.string ByteArray.empty)), .rf 3, .rf 4]), (3, .row 0 27 5 (qh z43)), (4, .row 0 9 1 (qD z44))]⟩) ?_ ?_
   ·
    skip
    refine Run.seq ?_
    refine Run.region hL hT [] (by cbv) ?_ ?_
    · exact (hq Tt (hq Tt hq0))
    rw [show ln (qh z43) = qV z43 from ln_eq qx _]
    refine Run.cond (by cbv) (hq0) (fun c60 => ?_) (fun c60 => ?_)
    ·
     have h := if_t c60 h
     obtain ⟨⟨qNT, qnO, qIR, qUM⟩, h_r61, h⟩ := bnd h
     refine Run.region hL hT [(1, .call [true, false] [.v (.bx 50 [.s (.string qNT), .s (.int .i64 qnO), .s (.bool qIR), .s (.int .i64 qUM)]), .v (.jk)] [])] (by cbv) ?_ ?_
     · exact (hq (hC (qjB h_r61)) hq0)
     refine ⟨qNT, qnO, qIR, qUM, h, Weak.of _ [(0, 0), (1, 1), (2, 2), (3, 3), (4, 4)] hA (by cbv) ?_⟩
     repeat (first | exact hq0 | refine hq (by first | exact Tt | rfl) ?_)
    have h := if_f c60 h
    refine Run.skip ?_
    refine ⟨z39, z40, z41, z42, h, Weak.of _ [(0, 0), (1, 1), (2, 2), (3, 3), (4, 4)] hA (by cbv) ?_⟩
    repeat (first | exact hq0 | refine hq (by first | exact Tt | rfl) ?_)
   intro y55 y56 y57 y58 h
   rw [h_K59] at h
   obtain ⟨K67, h_K67, h⟩ := joinE h
   refine Run.join5 K67 (r := r) (fun (y62 : ByteArray) (y63 : Int) (y64 : Bool) (y65 : Int) (y66 : List ByteArray) => ⟨61, 100000, [(0, .pt 0 0 0), (1, .t (.s (.int .i64 a1))), (4, .pt 1 0 0), (5, .pt 2 0 0), (6, .t (.s (.string y2)))], [(0, .box 50 [.t (.s (.string y62)), .t (.s (.int .i64 y63)), .t (.s (.bool y64)), .t (.s (.int .i64 y65))]), (1, .box 27 [.t (.s (.int .i64 0)), .t (.s (.int .i64 0)), .t (.s (.string ByteArray.empty)), .t (.s (.slice none 0 0)), .t (.s (.slice none 0 0))]), (2, .box 27 [.t (.s (.int .i64 y1)), .t (.s (.int .i64 0)), .t (.s (.string ByteArray.empty)), .rf 3, .rf 4]), (3, .row 0 27 5 (qh z43)), (4, .row 0 9 1 (qD y66))]⟩) ?_ ?_
   ·
    skip
    refine Run.seq ?_
    refine Run.region hL hT [] (by cbv) ?_ ?_
    · exact (hq Tt (hq Tt hq0))
    refine Run.cond (by cbv) (hq0) (fun c68 => ?_) (fun c68 => ?_)
    ·
     have h := if_t c68 h
     refine Run.seq ?_
     obtain ⟨⟨⟨qJR, qqN, qWP, qVM⟩, qOT⟩, h_r69, h⟩ := bnd h
     obtain ⟨l70, h_l70, h⟩ := bnd h
     obtain ⟨l71, h_l71, h⟩ := bnd h
     refine Run.draw hL hT hM [(3, .call [true] [.v (.bx 50 [.s (.string qJR), .s (.int .i64 qqN), .s (.bool qWP), .s (.int .i64 qVM)])] [.v (.s (.string qOT))])] (by cbv) (qA (by cbv) (by cbv) (qA (by cbv) (by cbv) (qA (by cbv) (by cbv) (qA (by cbv) (by cbv) (qA (by cbv) (by cbv) (qA (by cbv) (by cbv) (qA (by cbv) (by cbv) (qA (by cbv) (by cbv) ql)))))))) (by cbv) (by cbv) (by cbv) ?_ ?_
     · exact (hq Tt (hq (hC (qhE h_r69)) (hq (qiB (P := Tryz.prog) (f := Str_c) RLe.r (qU (f := Str_c) h_l70 (RLe.cons rfl LLe.r RLe.nil)) h_l71) (hq Tt hq0))))
     refine Run.row (rows := (ap (qD z44) ([[.s (.string qOT)]]))) 104101 (qD l71) (by cbv) (qdB (f := Str_c) RLe.r (qU (f := Str_c) h_l70 (RLe.cons rfl LLe.r RLe.nil)) h_l71) ?_
     obtain ⟨⟨qPT, qoO, qKR, qWM⟩, h_r72, h⟩ := bnd h
     refine Run.region hL hT [(1, .call [true, false] [.v (.bx 50 [.s (.string qPT), .s (.int .i64 qoO), .s (.bool qKR), .s (.int .i64 qWM)]), .v (.jk)] [])] (by cbv) ?_ ?_
     · exact (hq (hC (qjB h_r72)) hq0)
     refine ⟨qPT, qoO, qKR, qWM, l71, h, Weak.of _ [(0, 0), (1, 1), (2, 2), (3, 3), (4, 104101)] hA (by cbv) ?_⟩
     repeat (first | exact hq0 | refine hq (by first | exact Tt | rfl) ?_)
    have h := if_f c68 h
    refine Run.skip ?_
    refine ⟨y55, y56, y57, y58, z44, h, Weak.of _ [(0, 0), (1, 1), (2, 2), (3, 3), (4, 4)] hA (by cbv) ?_⟩
    repeat (first | exact hq0 | refine hq (by first | exact Tt | rfl) ?_)
   intro y62 y63 y64 y65 y66 h
   rw [h_K67] at h
   obtain ⟨⟨⟨qXM, qvI, qAK, qUH⟩, ⟨qVH, qYM, qZM, qjG, qkG⟩⟩, h_r73, h⟩ := bnd h
   obtain ⟨l74, h_l74, h⟩ := bnd h
   obtain ⟨l75, h_l75, h⟩ := bnd h
   refine Run.draw hL hT hM [(5, .call [true, false] [.v (.bx 50 [.s (.string qXM), .s (.int .i64 qvI), .s (.bool qAK), .s (.int .i64 qUH)]), .v (.jk)] [.ag [.s (.int .i64 qVH), .s (.int .i64 qYM), .s (.string qZM), .ow 27 (qh qjG), .ow 9 (qD qkG)]])] (by cbv) (qA (by cbv) (by cbv) (qA (by cbv) (by cbv) (qA (by cbv) (by cbv) (qA (by cbv) (by cbv) (qA (by cbv) (by cbv) (qA (by cbv) (by cbv) (qA (by cbv) (by cbv) (qA (by cbv) (by cbv) (qA (by cbv) (by cbv) (qA (by cbv) (by cbv) ql)))))))))) (by cbv) (by cbv) (by cbv) ?_ ?_
   · exact (hq Tt (hq Tt (hq (hC (hself h_r73)) (hq (qiB (P := Tryz.prog) (f := qx) RLe.r (qOB qYE h_l74 (RLe.cons rfl LLe.r RLe.nil)) h_l75) (hq Tt hq0)))))
   refine ⟨qXM, qvI, qAK, qUH, l75, y66, h, (Weak.row (rows := (ap (qh z43) ([[.s (.int .i64 qVH), .s (.int .i64 qYM), .s (.string qZM), .ow 27 (qh qjG), .ow 9 (qD qkG)]]))) 100007 (qh l75) (by cbv) (qdB (f := qx) RLe.r (qOB qYE h_l74 (RLe.cons rfl LLe.r RLe.nil)) h_l75)).trans (Weak.of _ [(0, 0), (1, 1), (2, 2), (3, 100007), (4, 4)] hA (by cbv) ?_)⟩
   repeat (first | exact hq0 | refine hq (by first | exact Tt | rfl) ?_)
  have h := if_f c54 h
  refine Run.exit ?_
  refine ⟨z39, z40, z41, z42, z43, z44, h, Weak.of _ [(0, 0), (1, 1), (2, 2), (3, 3), (4, 4)] hA (by cbv) ?_⟩
  repeat (first | exact hq0 | refine hq (by first | exact Tt | rfl) ?_)
 intro y6 y7 y8 y9 y10 y11 h
 rw [h_K12] at h
 refine Run.seq ?_
 obtain ⟨⟨qdU, qnS, qDU, qLR⟩, h_r76, h⟩ := bnd h
 refine Run.region hL hT [(2, .call [true, false] [.v (.bx 50 [.s (.string qdU), .s (.int .i64 qnS), .s (.bool qDU), .s (.int .i64 qLR)]), .v (.jk)] [])] (by cbv) ?_ ?_
 · exact (hq (hC (qjB h_r76)) hq0)
 refine Run.seq ?_
 refine Run.region hL hT [] (by cbv) ?_ ?_
 · exact (hq Tt (hq Tt hq0))
 refine Run.ret ?_
 cases h
 refine ⟨_, _, by cbv, ?_, ?_⟩
 · exact LLe.r
 exact (ALe.ag rfl LLe.r ALe.nil)
theorem qeH {a0v_s : ByteArray} {qw : Int} {qMB : Bool} {qe : Int} {r : l2Cur × Int} (h : qk.f (l2Cur.mk a0v_s qw qMB qe) = some r) : AC Tryz.prog 54 [.v (.bx 50 [.s (.string a0v_s), .s (.int .i64 qw), .s (.bool qMB), .s (.int .i64 qe)])] [.v (.bx 50 [.s (.string r.1.s), .s (.int .i64 r.1.at_), .s (.bool r.1.ok), .s (.int .i64 r.1.left)])] [.v (.s (.int .i64 r.2))] := by
 unfold qk.f at h
 show AC Tryz.prog 54 [.v (.bx 50 [.s (.string a0v_s), .s (.int .i64 qw), .s (.bool qMB), .s (.int .i64 qe)])] _ _
 refine run3 Tryz.func54 (by rfl) (by rfl) (by cbv) ⟨by decide, rfl⟩ ?_
 intro ar cm bo sc sa sx ss sl bs sb ln sr ap up rp fr ge le lt nz mm ma sm fl al ci hL F hP hA hT hM hC
 refine Run.seq ?_
 refine Run.region hL hT [] (by cbv) hq0 ?_
 refine Run.seq ?_
 obtain ⟨r1, h_r1, h⟩ := bnd h
 refine Run.region hL hT [(1, .call [false] [.v (.jk)] [.v (.s (.int .u8 r1))])] (by cbv) ?_ ?_
 · exact (hq (hC (qZB h_r1)) (hq Tt hq0))
 obtain ⟨K4, h_K4, h⟩ := joinE h
 refine Run.join2 K4 (r := r) (fun (y2 : Int) (y3 : Bool) => ⟨65, 100000, [(0, .pt 0 0 0), (3, .t (.s (.bool y3)))], [(0, .box 50 [.t (.s (.string a0v_s)), .t (.s (.int .i64 y2)), .t (.s (.bool qMB)), .t (.s (.int .i64 qe))])]⟩) ?_ ?_
 ·
  skip
  refine Run.seq ?_
  refine Run.region hL hT [] (by cbv) hq0 ?_
  refine Run.cond (by cbv) (hq0) (fun c5 => ?_) (fun c5 => ?_)
  ·
   have h := if_t c5 h
   refine Run.region hL hT [] (by cbv) ?_ ?_
   · exact (hq Tt (hq Tt (hq Tt hq0)))
   refine ⟨(ar .add .i64 qw 1), (cm .eql r1 45), h, Weak.of _ [(0, 0)] hA (by cbv) ?_⟩
   repeat (first | exact hq0 | refine hq (by first | exact Tt | rfl) ?_)
  have h := if_f c5 h
  refine Run.skip ?_
  refine ⟨qw, (cm .eql r1 45), h, Weak.of _ [(0, 0)] hA (by cbv) ?_⟩
  repeat (first | exact hq0 | refine hq (by first | exact Tt | rfl) ?_)
 intro y2 y3 h
 rw [h_K4] at h
 refine Run.seq ?_
 refine Run.region hL hT [] (by cbv) ?_ ?_
 · exact (hq Tt hq0)
 refine Run.seq ?_
 refine Run.region hL hT [] (by cbv) hq0 ?_
 obtain ⟨K8, h_K8, h⟩ := joinE h
 refine Run.join2 K8 (r := r) (fun (y6 : Int) (y7 : Int) => ⟨65, 100000, [(0, .pt 0 0 0), (3, .t (.s (.bool y3))), (4, .t (.s (.int .i64 y2))), (5, .t (.s (.int .i64 y7)))], [(0, .box 50 [.t (.s (.string a0v_s)), .t (.s (.int .i64 y6)), .t (.s (.bool qMB)), .t (.s (.int .i64 qe))])]⟩) ?_ ?_
 ·
  skip
  refine Run.block ?_
  refine Run.loop2 (fun (z16 : Int) (z17 : Int) => ⟨65, 100000, [(0, .pt 0 0 0), (3, .t (.s (.bool y3))), (4, .t (.s (.int .i64 y2))), (5, .t (.s (.int .i64 z17)))], [(0, .box 50 [.t (.s (.string a0v_s)), .t (.s (.int .i64 z16)), .t (.s (.bool qMB)), .t (.s (.int .i64 qe))])]⟩) (x0 := y2) (x1 := 0) h (Weak.of _ [(0, 0)] hA (by cbv) ?_) (fun _ _ => rfl) ?_
  · repeat (first | exact hq0 | refine hq (by first | exact Tt | rfl) ?_)
  intro k z16 z17 h
  rw [qk.l0] at h
  refine Run.seq ?_
  refine Run.seq ?_
  obtain ⟨r18, h_r18, h⟩ := bnd h
  obtain ⟨r19, h_r19, h⟩ := bnd h
  refine Run.region hL hT [(1, .call [false] [.v (.jk)] [.v (.s (.int .u8 r18))]), (5, .call [false] [.v (.jk)] [.v (.s (.int .u8 r19))])] (by cbv) ?_ ?_
  · exact (hq (hC (qZB h_r18)) (hq Tt (hq (fun _ => hq0) (hq (fun g21 => (hq g21 (hq (hC (qZB (gd_t h_r19 g21))) hq0))) (hq (fun g22 => (hq g22 (hq Tt hq0))) (hq (fun q23 => (hq q23 hq0)) (hq (fun _ => hq0) (hq (fun _ => hq0) (hq (fun g26 => (hq g26 hq0)) (hq (fun g27 => (hq g27 hq0)) (hq (fun g28 => (hq g28 (hq Tt hq0))) (hq (fun _ => hq0) (hq (fun g30 => (hq g30 (hq g30 (hq Tt hq0)))) (hq (fun g31 => (hq g31 (hq Tt hq0))) (hq (fun q32 => (hq q32 hq0)) (hq (fun _ => hq0) hq0))))))))))))))))
  refine Run.cond (by cbv) (hq0) (fun c34 => ?_) (fun c34 => ?_)
  ·
   have h := if_t c34 h
   refine Run.skip ?_
   refine Run.block ?_
   refine Run.seq ?_
   obtain ⟨r35, h_r35, h⟩ := bnd h
   refine Run.region hL hT [(3, .call [false] [.v (.jk)] [.v (.s (.int .u8 r35))])] (by cbv) ?_ ?_
   · exact (hq Tt (hq (hC (qZB h_r35)) (hq Tt (hq Tt hq0))))
   refine Run.region hL hT [] (by cbv) ?_ ?_
   · exact (hq Tt (hq Tt (hq Tt hq0)))
   refine ⟨(ar .add .i64 z16 1), (ar .sub .i64 (ar .add .i64 (ar .mul .i64 10 z17) (ar .or .i64 r35 0)) 48), h, Weak.of _ [(0, 0)] hA (by cbv) ?_⟩
   repeat (first | exact hq0 | refine hq (by first | exact Tt | rfl) ?_)
  have h := if_f c34 h
  refine Run.exit ?_
  refine ⟨z16, z17, h, Weak.of _ [(0, 0)] hA (by cbv) ?_⟩
  repeat (first | exact hq0 | refine hq (by first | exact Tt | rfl) ?_)
 intro y6 y7 h
 rw [h_K8] at h
 obtain ⟨K37, h_K37, h⟩ := joinE h
 refine Run.join1 K37 (r := r) (fun (y36 : Bool) => ⟨65, 100000, [(3, .t (.s (.bool y3))), (5, .t (.s (.int .i64 y7)))], [(0, .box 50 [.t (.s (.string a0v_s)), .t (.s (.int .i64 y6)), .t (.s (.bool y36)), .t (.s (.int .i64 qe))])]⟩) ?_ ?_
 ·
  skip
  refine Run.seq ?_
  refine Run.region hL hT [] (by cbv) ?_ ?_
  · exact (hq Tt (hq Tt hq0))
  refine Run.cond (by cbv) (hq0) (fun c38 => ?_) (fun c38 => ?_)
  ·
   have h := if_t c38 h
   refine Run.region hL hT [] (by cbv) ?_ ?_
   · exact (hq Tt hq0)
   refine ⟨false, h, Weak.of _ [(0, 0)] hA (by cbv) ?_⟩
   repeat (first | exact hq0 | refine hq (by first | exact Tt | rfl) ?_)
  have h := if_f c38 h
  refine Run.skip ?_
  refine ⟨qMB, h, Weak.of _ [(0, 0)] hA (by cbv) ?_⟩
  repeat (first | exact hq0 | refine hq (by first | exact Tt | rfl) ?_)
 intro y36 h
 rw [h_K37] at h
 refine Run.seq ?_
 refine Run.seq ?_
 refine Run.region hL hT [] (by cbv) hq0 ?_
 refine Run.cond (by cbv) (hq0) (fun c39 => ?_) (fun c39 => ?_)
 ·
  have h := if_t c39 h
  refine Run.seq ?_
  refine Run.region hL hT [] (by cbv) ?_ ?_
  · exact (hq Tt hq0)
  refine Run.ret ?_
  cases h
  refine ⟨_, _, by cbv, ?_, ?_⟩
  · exact LLe.r
  exact (ALe.v LLe.r ALe.nil)
 have h := if_f c39 h
 refine Run.skip ?_
 refine Run.seq ?_
 refine Run.region hL hT [] (by cbv) hq0 ?_
 refine Run.ret ?_
 cases h
 refine ⟨_, _, by cbv, ?_, ?_⟩
 · exact LLe.r
 exact (ALe.v LLe.r ALe.nil)
theorem qfH (self : l2Cur → Int → Option (l2Cur × Json)) (hself : ∀ {a0v_s : ByteArray} {qw : Int} {qMB : Bool} {qe : Int} {a1 : Int} {r : l2Cur × Json} (h : self (l2Cur.mk a0v_s qw qMB qe) a1 = some r), AC Tryz.prog 28 [.v (.bx 50 [.s (.string a0v_s), .s (.int .i64 qw), .s (.bool qMB), .s (.int .i64 qe)]), .v (.s (.int .i64 a1))] [.v (.bx 50 [.s (.string r.1.s), .s (.int .i64 r.1.at_), .s (.bool r.1.ok), .s (.int .i64 r.1.left)]), .v (.jk)] [.ag [.s (.int .i64 r.2.Kind), .s (.int .i64 r.2.N), .s (.string r.2.S), .ow 27 (rowsOf qx r.2.List_), .ow 9 (rowsOf Str_c r.2.Names)]]) {a0v_s : ByteArray} {qw : Int} {qMB : Bool} {qe : Int} {a1 : Int} {r : l2Cur × Json} (h : qQ.b self (l2Cur.mk a0v_s qw qMB qe) a1 = some r) : AC Tryz.prog 28 [.v (.bx 50 [.s (.string a0v_s), .s (.int .i64 qw), .s (.bool qMB), .s (.int .i64 qe)]), .v (.s (.int .i64 a1))] [.v (.bx 50 [.s (.string r.1.s), .s (.int .i64 r.1.at_), .s (.bool r.1.ok), .s (.int .i64 r.1.left)]), .v (.jk)] [.ag [.s (.int .i64 r.2.Kind), .s (.int .i64 r.2.N), .s (.string r.2.S), .ow 27 (rowsOf qx r.2.List_), .ow 9 (rowsOf Str_c r.2.Names)]] := by
 unfold qQ.b at h
 let qh := rowsOf qx
 let qD := rowsOf Str_c
 show AC Tryz.prog 28 [.v (.bx 50 [.s (.string a0v_s), .s (.int .i64 qw), .s (.bool qMB), .s (.int .i64 qe)]), .v (.s (.int .i64 a1))] _ _
 refine run3 Tryz.func28 (by rfl) (by rfl) (by cbv) ⟨by decide, rfl⟩ ?_
 intro ar cm bo sc sa sx ss sl bs sb ln sr ap up rp fr ge le lt nz mm ma sm fl al ci hL F hP hA hT hM hC
 refine Run.seq ?_
 refine Run.region hL hT [] (by cbv) hq0 ?_
 refine Run.seq ?_
 refine Run.region hL hT [] (by cbv) ?_ ?_
 · exact (hq Tt (hq Tt (hq Tt hq0)))
 obtain ⟨K3, h_K3, h⟩ := joinE h
 refine Run.join2 K3 (r := r) (fun (y1 : Bool) (y2 : Int) => ⟨61, 100000, [(0, .pt 0 0 0), (1, .t (.s (.int .i64 a1))), (4, .pt 1 0 0)], [(0, .box 50 [.t (.s (.string a0v_s)), .t (.s (.int .i64 qw)), .t (.s (.bool y1)), .t (.s (.int .i64 y2))]), (1, .box 27 [.t (.s (.int .i64 0)), .t (.s (.int .i64 0)), .t (.s (.string ByteArray.empty)), .t (.s (.slice none 0 0)), .t (.s (.slice none 0 0))])]⟩) ?_ ?_
 ·
  skip
  refine Run.seq ?_
  refine Run.region hL hT [] (by cbv) ?_ ?_
  · exact (hq Tt (hq (fun _ => hq0) (hq (fun g5 => (hq g5 hq0)) (hq (fun g6 => (hq g6 hq0)) (hq (fun g7 => (hq g7 (hq Tt hq0))) (hq (fun g8 => (hq g8 (hq Tt hq0))) (hq (fun _ => hq0) (hq (fun q10 => (hq (bo_m q10) hq0)) hq0))))))))
  refine Run.cond (by cbv) (hq0) (fun c11 => ?_) (fun c11 => ?_)
  ·
   have h := if_t c11 h
   refine Run.region hL hT [] (by cbv) ?_ ?_
   · exact (hq Tt hq0)
   refine ⟨false, (ar .sub .i64 qe 1), h, Weak.of _ [(0, 0), (1, 1)] hA (by cbv) ?_⟩
   repeat (first | exact hq0 | refine hq (by first | exact Tt | rfl) ?_)
  have h := if_f c11 h
  refine Run.skip ?_
  refine ⟨qMB, (ar .sub .i64 qe 1), h, Weak.of _ [(0, 0), (1, 1)] hA (by cbv) ?_⟩
  repeat (first | exact hq0 | refine hq (by first | exact Tt | rfl) ?_)
 intro y1 y2 h
 rw [h_K3] at h
 refine Run.seq ?_
 refine Run.seq ?_
 refine Run.region hL hT [] (by cbv) ?_ ?_
 · exact (hq Tt hq0)
 refine Run.cond (by cbv) (hq0) (fun c12 => ?_) (fun c12 => ?_)
 ·
  have h := if_t c12 h
  refine Run.seq ?_
  refine Run.region hL hT [] (by cbv) ?_ ?_
  · exact (hq Tt hq0)
  refine Run.ret ?_
  cases h
  refine ⟨_, _, by cbv, ?_, ?_⟩
  · exact LLe.r
  exact (ALe.ag rfl (LLe.c (LLe.c (LLe.c (LLe.cons LLe.nilO (LLe.cons LLe.nilO LLe.nil))))) ALe.nil)
 have h := if_f c12 h
 refine Run.skip ?_
 refine Run.seq ?_
 refine Run.seq ?_
 obtain ⟨r13, h_r13, h⟩ := bnd h
 refine Run.region hL hT [(1, .call [false] [.v (.jk)] [.v (.s (.int .u8 r13))])] (by cbv) ?_ ?_
 · exact (hq (hC (qZB h_r13)) hq0)
 refine Run.block ?_
 refine Run.seq ?_
 refine Run.region hL hT [] (by cbv) ?_ ?_
 · exact (hq Tt hq0)
 refine Run.cond (by cbv) (hq0) (fun c14 => ?_) (fun c14 => ?_)
 ·
  have h := if_t c14 h
  refine Run.seq ?_
  obtain ⟨⟨qeU, qoS, qEU, qMR⟩, h_r15, h⟩ := bnd h
  refine Run.region hL hT [(1, .call [true, false] [.v (.bx 50 [.s (.string qeU), .s (.int .i64 qoS), .s (.bool qEU), .s (.int .i64 qMR)]), .v (.jk)] [])] (by cbv) ?_ ?_
  · exact (hq (hC (qjB h_r15)) hq0)
  refine Run.seq ?_
  refine Run.region hL hT [] (by cbv) ?_ ?_
  · exact (hq Tt hq0)
  refine Run.ret ?_
  cases h
  refine ⟨_, _, by cbv, ?_, ?_⟩
  · exact LLe.r
  exact (ALe.ag rfl (LLe.c (LLe.c (LLe.c (LLe.cons LLe.nilO (LLe.cons LLe.nilO LLe.nil))))) ALe.nil)
 have h := if_f c14 h
 refine Run.seq ?_
 refine Run.region hL hT [] (by cbv) ?_ ?_
 · exact (hq Tt hq0)
 refine Run.cond (by cbv) (hq0) (fun c16 => ?_) (fun c16 => ?_)
 ·
  have h := if_t c16 h
  refine Run.seq ?_
  obtain ⟨⟨qfU, qpS, qFU, qNR⟩, h_r17, h⟩ := bnd h
  refine Run.region hL hT [(1, .call [true, false] [.v (.bx 50 [.s (.string qfU), .s (.int .i64 qpS), .s (.bool qFU), .s (.int .i64 qNR)]), .v (.jk)] [])] (by cbv) ?_ ?_
  · exact (hq (hC (qjB h_r17)) hq0)
  refine Run.seq ?_
  refine Run.region hL hT [] (by cbv) ?_ ?_
  · exact (hq Tt hq0)
  refine Run.ret ?_
  cases h
  refine ⟨_, _, by cbv, ?_, ?_⟩
  · exact LLe.r
  exact (ALe.ag rfl (LLe.c (LLe.c (LLe.c (LLe.cons LLe.nilO (LLe.cons LLe.nilO LLe.nil))))) ALe.nil)
 have h := if_f c16 h
 refine Run.seq ?_
 refine Run.region hL hT [] (by cbv) ?_ ?_
 · exact (hq Tt hq0)
 refine Run.cond (by cbv) (hq0) (fun c18 => ?_) (fun c18 => ?_)
 ·
  have h := if_t c18 h
  refine Run.seq ?_
  obtain ⟨⟨qgU, qqS, qGU, qOR⟩, h_r19, h⟩ := bnd h
  refine Run.region hL hT [(1, .call [true, false] [.v (.bx 50 [.s (.string qgU), .s (.int .i64 qqS), .s (.bool qGU), .s (.int .i64 qOR)]), .v (.jk)] [])] (by cbv) ?_ ?_
  · exact (hq (hC (qjB h_r19)) hq0)
  refine Run.seq ?_
  refine Run.region hL hT [] (by cbv) ?_ ?_
  · exact (hq Tt hq0)
  refine Run.ret ?_
  cases h
  refine ⟨_, _, by cbv, ?_, ?_⟩
  · exact LLe.r
  exact (ALe.ag rfl (LLe.c (LLe.c (LLe.c (LLe.cons LLe.nilO (LLe.cons LLe.nilO LLe.nil))))) ALe.nil)
 have h := if_f c18 h
 refine Run.seq ?_
 refine Run.region hL hT [] (by cbv) ?_ ?_
 · exact (hq Tt hq0)
 refine Run.cond (by cbv) (hq0) (fun c20 => ?_) (fun c20 => ?_)
 ·
  have h := if_t c20 h
  refine Run.seq ?_
  obtain ⟨⟨⟨qPR, qrN, qXP, qaM⟩, qmI⟩, h_r21, h⟩ := bnd h
  refine Run.region hL hT [(1, .call [true] [.v (.bx 50 [.s (.string qPR), .s (.int .i64 qrN), .s (.bool qXP), .s (.int .i64 qaM)])] [.v (.s (.string qmI))])] (by cbv) ?_ ?_
  · exact (hq (hC (qhE h_r21)) (hq Tt hq0))
  refine Run.ret ?_
  cases h
  refine ⟨_, _, by cbv, ?_, ?_⟩
  · exact LLe.r
  exact (ALe.ag rfl (LLe.c (LLe.c (LLe.c (LLe.cons LLe.nilO (LLe.cons LLe.nilO LLe.nil))))) ALe.nil)
 have h := if_f c20 h
 obtain ⟨K23, h_K23, h⟩ := joinE h
 refine Run.join1 K23 (r := r) (fun (y22 : Bool) => ⟨61, 100000, [(0, .pt 0 0 0), (1, .t (.s (.int .i64 a1))), (4, .pt 1 0 0), (52, .t (.s (.bool y22)))], [(0, .box 50 [.t (.s (.string a0v_s)), .t (.s (.int .i64 qw)), .t (.s (.bool y1)), .t (.s (.int .i64 y2))]), (1, .box 27 [.t (.s (.int .i64 0)), .t (.s (.int .i64 0)), .t (.s (.string ByteArray.empty)), .t (.s (.slice none 0 0)), .t (.s (.slice none 0 0))])]⟩) ?_ ?_
 ·
  skip
  refine Run.seq ?_
  refine Run.region hL hT [] (by cbv) ?_ ?_
  · exact (hq Tt hq0)
  refine Run.cond (by cbv) (hq0) (fun c24 => ?_) (fun c24 => ?_)
  ·
   have h := if_t c24 h
   refine Run.skip ?_
   refine ⟨(cm .eql r13 91), h, Weak.of _ [(0, 0), (1, 1)] hA (by cbv) ?_⟩
   repeat (first | exact hq0 | refine hq (by first | exact Tt | rfl) ?_)
  have h := if_f c24 h
  refine Run.region hL hT [] (by cbv) ?_ ?_
  · exact (hq Tt hq0)
  refine ⟨(cm .eql r13 123), h, Weak.of _ [(0, 0), (1, 1)] hA (by cbv) ?_⟩
  repeat (first | exact hq0 | refine hq (by first | exact Tt | rfl) ?_)
 intro y22 h
 rw [h_K23] at h
 refine Run.cond (by cbv) (hq0) (fun c25 => ?_) (fun c25 => ?_)
 ·
  have h := if_t c25 h
  refine Run.seq ?_
  obtain ⟨⟨⟨qQR, qsN, qYP, qbM⟩, ⟨qcM, qRR, qSR, qyK, qzK⟩⟩, h_r26, h⟩ := bnd h
  refine Run.region hL hT [(2, .call [true, false] [.v (.bx 50 [.s (.string qQR), .s (.int .i64 qsN), .s (.bool qYP), .s (.int .i64 qbM)]), .v (.jk)] [.ag [.s (.int .i64 qcM), .s (.int .i64 qRR), .s (.string qSR), .ow 27 (qh qyK), .ow 9 (qD qzK)]])] (by cbv) ?_ ?_
  · exact (hq (hC (qPJ self hself h_r26)) (hq Tt hq0))
  refine Run.ret ?_
  cases h
  refine ⟨_, _, by cbv, ?_, ?_⟩
  · exact LLe.r
  exact (ALe.ag rfl LLe.r ALe.nil)
 have h := if_f c25 h
 refine Run.skip ?_
 refine Run.seq ?_
 obtain ⟨⟨⟨qTR, qtN, qZP, qdM⟩, qhU⟩, h_r27, h⟩ := bnd h
 refine Run.region hL hT [(1, .call [true] [.v (.bx 50 [.s (.string qTR), .s (.int .i64 qtN), .s (.bool qZP), .s (.int .i64 qdM)])] [.v (.s (.int .i64 qhU))])] (by cbv) ?_ ?_
 · exact (hq (hC (qeH h_r27)) (hq Tt hq0))
 refine Run.ret ?_
 cases h
 refine ⟨_, _, by cbv, ?_, ?_⟩
 · exact LLe.r
 exact (ALe.ag rfl (LLe.c (LLe.c (LLe.c (LLe.cons LLe.nilO (LLe.cons LLe.nilO LLe.nil))))) ALe.nil)
theorem qiE : ∀ (k : Nat) {a0v_s : ByteArray} {qw : Int} {qMB : Bool} {qe : Int} {a1 : Int} {r : l2Cur × Json} (h : qQ.g k (l2Cur.mk a0v_s qw qMB qe) a1 = some r), AC Tryz.prog 28 [.v (.bx 50 [.s (.string a0v_s), .s (.int .i64 qw), .s (.bool qMB), .s (.int .i64 qe)]), .v (.s (.int .i64 a1))] [.v (.bx 50 [.s (.string r.1.s), .s (.int .i64 r.1.at_), .s (.bool r.1.ok), .s (.int .i64 r.1.left)]), .v (.jk)] [.ag [.s (.int .i64 r.2.Kind), .s (.int .i64 r.2.N), .s (.string r.2.S), .ow 27 (rowsOf qx r.2.List_), .ow 9 (rowsOf Str_c r.2.Names)]]
 | 0 => fun h => by cases h
 | k + 1 => fun h => qfH (qQ.g k) (qiE k) h
theorem qwI {a0v_s : ByteArray} {qw : Int} {qMB : Bool} {qe : Int} {a1 : Int} {r : l2Cur × Json} (h : qQ.f (l2Cur.mk a0v_s qw qMB qe) a1 = some r) : AC Tryz.prog 28 [.v (.bx 50 [.s (.string a0v_s), .s (.int .i64 qw), .s (.bool qMB), .s (.int .i64 qe)]), .v (.s (.int .i64 a1))] [.v (.bx 50 [.s (.string r.1.s), .s (.int .i64 r.1.at_), .s (.bool r.1.ok), .s (.int .i64 r.1.left)]), .v (.jk)] [.ag [.s (.int .i64 r.2.Kind), .s (.int .i64 r.2.N), .s (.string r.2.S), .ow 27 (rowsOf qx r.2.List_), .ow 9 (rowsOf Str_c r.2.Names)]] := qiE 20 h
theorem qQJ {a0 : ByteArray} {r : Json × Bool} (h : qBD.f a0 = some r) : AC Tryz.prog 11 [.v (.s (.string a0))] [.v (.jk)] [.ag [.s (.int .i64 r.1.Kind), .s (.int .i64 r.1.N), .s (.string r.1.S), .ow 27 (rowsOf qx r.1.List_), .ow 9 (rowsOf Str_c r.1.Names)], .v (.s (.bool r.2))] := by
 unfold qBD.f at h
 let qh := rowsOf qx
 let qD := rowsOf Str_c
 show AC Tryz.prog 11 [.v (.s (.string a0))] _ _
 refine run3 Tryz.func11 (by rfl) (by rfl) (by cbv) ⟨by decide, rfl⟩ ?_
 intro ar cm bo sc sa sx ss sl bs sb ln sr ap up rp fr ge le lt nz mm ma sm fl al ci hL F hP hA hT hM hC
 refine Run.seq ?_
 refine Run.region hL hT [] (by cbv) hq0 ?_
 refine Run.seq ?_
 refine Run.seq ?_
 refine Run.region hL hT [] (by cbv) ?_ ?_
 · exact (hq (fun _ => hq0) (hq (fun g2 => (hq g2 hq0)) (hq (fun g3 => (hq g3 (hq Tt hq0))) (hq (fun _ => hq0) (hq (fun q5 => (hq (bo_m q5) hq0)) hq0)))))
 refine Run.cond (by cbv) (hq0) (fun c6 => ?_) (fun c6 => ?_)
 ·
  have h := if_t c6 h
  refine Run.seq ?_
  refine Run.region hL hT [] (by cbv) ?_ ?_
  · exact (hq Tt hq0)
  refine Run.ret ?_
  cases h
  refine ⟨_, _, by cbv, ?_, ?_⟩
  · exact LLe.r
  exact (ALe.ag rfl (LLe.c (LLe.c (LLe.c (LLe.cons LLe.nilO (LLe.cons LLe.nilO LLe.nil))))) (ALe.v LLe.r ALe.nil))
 have h := if_f c6 h
 refine Run.skip ?_
 refine Run.seq ?_
 refine Run.region hL hT [] (by cbv) hq0 ?_
 refine Run.seq ?_
 obtain ⟨⟨⟨qrS, qaP, qUR, quN⟩, ⟨qvN, qsS, qtS, qeM, qfM⟩⟩, h_r7, h⟩ := bnd h
 refine Run.region hL hT [(1, .call [true, false] [.v (.bx 50 [.s (.string qrS), .s (.int .i64 qaP), .s (.bool qUR), .s (.int .i64 quN)]), .v (.jk)] [.ag [.s (.int .i64 qvN), .s (.int .i64 qsS), .s (.string qtS), .ow 27 (qh qeM), .ow 9 (qD qfM)]])] (by cbv) ?_ ?_
 · exact (hq (hC (qwI h_r7)) (hq Tt hq0))
 refine Run.seq ?_
 refine Run.seq ?_
 obtain ⟨r8, h_r8, h⟩ := bnd h
 refine Run.region hL hT [(16, .call [false] [.ag [.jk, .jk, .jk, .jk, .jk]] [.v (.s (.string r8))])] (by cbv) ?_ ?_
 · exact (hq Tt (hq (fun _ => hq0) (hq (fun g10 => (hq g10 hq0)) (hq (fun g11 => (hq g11 hq0)) (hq (fun g12 => (hq g12 (hq Tt hq0))) (hq (fun _ => hq0) (hq (fun g14 => (hq g14 hq0)) (hq (fun g15 => (hq g15 (hq g15 (hq Tt hq0)))) (hq (fun _ => hq0) (hq (fun q17 => (hq (bo_m q17) hq0)) (hq (fun g18 => (hq Tt hq0)) (hq (fun g19 => (hq g19 (hq (hC (AC.args (qHD (gd_t h_r8 g19)) (ALe.ag rfl (LLe.c (LLe.c (LLe.c (LLe.cons (LLe.im (RLe.eq (qxB qxD _))) (LLe.cons (LLe.im (RLe.eq (qxB qwB _))) LLe.nil))))) ALe.nil))) hq0))) (hq (fun _ => hq0) (hq (fun g21 => (hq g21 (hq g21 hq0))) (hq (fun _ => hq0) (hq (fun q23 => (hq (bo_m q23) hq0)) hq0))))))))))))))))
 refine Run.cond (by cbv) (hq0) (fun c24 => ?_) (fun c24 => ?_)
 ·
  have h := if_t c24 h
  refine Run.seq ?_
  refine Run.region hL hT [] (by cbv) ?_ ?_
  · exact (hq Tt hq0)
  refine Run.ret ?_
  cases h
  refine ⟨_, _, by cbv, ?_, ?_⟩
  · exact LLe.r
  exact (ALe.ag rfl (LLe.c (LLe.c (LLe.c (LLe.cons LLe.nilO (LLe.cons LLe.nilO LLe.nil))))) (ALe.v LLe.r ALe.nil))
 have h := if_f c24 h
 refine Run.skip ?_
 refine Run.seq ?_
 refine Run.region hL hT [] (by cbv) ?_ ?_
 · exact (hq Tt (hq Tt hq0))
 refine Run.ret ?_
 cases h
 refine ⟨_, _, by cbv, ?_, ?_⟩
 · exact LLe.r
 exact (ALe.ag rfl LLe.r (ALe.v LLe.r ALe.nil))
theorem qlG {a0 : List Int} {r : ByteArray} (h : qRC.f a0 = some r) : AC Tryz.prog 29 [.v (.im true (rowsOf u8_c a0))] [.v (.jk)] [.v (.s (.string r))] := by
 unfold qRC.f at h
 let qD := rowsOf Str_c
 let eu8_c := rowsOf u8_c
 show AC Tryz.prog 29 [.v (.im true (eu8_c a0))] _ _
 refine run3 Tryz.func29 (by rfl) (by rfl) (by cbv) ⟨by decide, rfl⟩ ?_
 intro ar cm bo sc sa sx ss sl bs sb ln sr ap up rp fr ge le lt nz mm ma sm fl al ci hL F hP hA hT hM hC
 refine Run.seq ?_
 refine Run.region hL hT [] (by cbv) hq0 ?_
 refine Run.seq ?_
 obtain ⟨⟨r1v_b, r1v_i, r1v_h⟩, h_r1, h⟩ := bnd h
 obtain ⟨l2, h_l2, h⟩ := bnd h
 obtain ⟨⟨⟨qgS, qqK, qrK⟩, r3v_2⟩, h_r3, h⟩ := bnd h
 refine Run.region hL hT [(1, .call [true] [.v (.jk)] [.v (.bx 53 [.im true (eu8_c r1v_b), .s (.int .i64 r1v_i), .s (.int .i64 r1v_h)])]), (3, .call [true, false] [.v (.bx 53 [.im true (eu8_c r1v_b), .s (.int .i64 qqK), .s (.int .i64 qrK)]), .v (.jk)] [.v (.s (.string r3v_2))])] (by cbv) ?_ ?_
 · exact (hq (hC (qZE h_r1)) (hq (hC (AC.args (qLC h_r3) (ALe.v LLe.r (ALe.v (qXG rfl (qU (f := Str_c) h_l2 (RLe.cons rfl LLe.r (RLe.cons rfl LLe.r (RLe.cons rfl LLe.r (RLe.cons rfl LLe.r (RLe.cons rfl LLe.r (RLe.cons rfl LLe.r (RLe.cons rfl LLe.r RLe.nil))))))))) ALe.nil)))) hq0))
 refine Run.row (rows := [[.s (.string (ByteArray.mk #[]))], [.s (.string (ByteArray.mk #[97]))], [.s (.string (ByteArray.mk #[10]))], [.s (.string (ByteArray.mk #[127]))], [.s (.string (ByteArray.mk #[97, 34, 98]))], [.s (.string (ByteArray.mk #[48, 49, 50, 51, 52, 53, 54, 55, 56, 57, 48, 49, 50, 51, 52, 53, 54, 55, 56, 57, 48, 49, 50, 51, 52, 53, 54, 55, 56, 57, 48, 49, 50, 51, 52, 53, 54, 55, 56, 57, 48, 49, 50, 51, 52, 53, 54, 55, 56, 57, 48, 49, 50, 51, 52, 53, 54, 55, 56, 57]))], [.s (.string (ByteArray.mk #[48, 49, 50, 51, 52, 53, 54, 55, 56, 57, 48, 49, 50, 51, 52, 53, 54, 55, 56, 57, 48, 49, 50, 51, 52, 53, 54, 55, 56, 57, 48, 49, 50, 51, 52, 53, 54, 55, 56, 57, 48, 49, 50, 51, 52, 53, 54, 55, 56, 57, 48, 49, 50, 51, 52, 53, 54, 55, 56, 57, 48]))]]) 4098 (qD l2) (by cbv) (qU (f := Str_c) h_l2 (RLe.cons rfl LLe.r (RLe.cons rfl LLe.r (RLe.cons rfl LLe.r (RLe.cons rfl LLe.r (RLe.cons rfl LLe.r (RLe.cons rfl LLe.r (RLe.cons rfl LLe.r RLe.nil)))))))) ?_
 refine Run.ret ?_
 cases h
 refine ⟨_, _, by cbv, ?_, ?_⟩
 · exact LLe.r
 exact (ALe.v LLe.r ALe.nil)
theorem qEH {a0 : List Int} {r : ByteArray} (h : qKC.f a0 = some r) : AC Tryz.prog 12 [.v (.im true (rowsOf u8_c a0))] [.v (.jk)] [.v (.s (.string r))] := by
 unfold qKC.f at h
 let eu8_c := rowsOf u8_c
 show AC Tryz.prog 12 [.v (.im true (eu8_c a0))] _ _
 refine run3 Tryz.func12 (by rfl) (by rfl) (by cbv) ⟨by decide, rfl⟩ ?_
 intro ar cm bo sc sa sx ss sl bs sb ln sr ap up rp fr ge le lt nz mm ma sm fl al ci hL F hP hA hT hM hC
 refine Run.seq ?_
 refine Run.region hL hT [] (by cbv) hq0 ?_
 refine Run.seq ?_
 obtain ⟨r1, h_r1, h⟩ := bnd h
 refine Run.region hL hT [(1, .call [true] [.v (.jk)] [.v (.s (.string r1))])] (by cbv) ?_ ?_
 · exact (hq (hC (qlG h_r1)) hq0)
 refine Run.seq ?_
 refine Run.region hL hT [] (by cbv) hq0 ?_
 refine Run.ret ?_
 cases h
 refine ⟨_, _, by cbv, ?_, ?_⟩
 · exact LLe.r
 exact (ALe.v LLe.r ALe.nil)
theorem qID {a0 : Int} {a1 : Int} {a2 : Int} {r : Bool} (h : qSC.f a0 a1 a2 = some r) : AC Tryz.prog 67 [.v (.s (.int .i64 a0)), .v (.s (.int .i64 a1)), .v (.s (.int .i64 a2))] [.v (.jk), .v (.jk), .v (.jk)] [.v (.s (.bool r))] := by
 unfold qSC.f at h
 show AC Tryz.prog 67 [.v (.s (.int .i64 a0)), .v (.s (.int .i64 a1)), .v (.s (.int .i64 a2))] _ _
 refine run3 Tryz.func67 (by rfl) (by rfl) (by cbv) ⟨by decide, rfl⟩ ?_
 intro ar cm bo sc sa sx ss sl bs sb ln sr ap up rp fr ge le lt nz mm ma sm fl al ci hL F hP hA hT hM hC
 refine Run.seq ?_
 refine Run.region hL hT [] (by cbv) hq0 ?_
 refine Run.seq ?_
 refine Run.region hL hT [] (by cbv) ?_ ?_
 · exact (hq Tt (hq (fun _ => hq0) (hq (fun _ => hq0) (hq (fun g3 => (hq g3 (hq g3 (hq Tt hq0)))) (hq (fun q4 => (hq q4 hq0)) (hq (fun _ => hq0) hq0))))))
 refine Run.ret ?_
 cases h
 refine ⟨_, _, by cbv, ?_, ?_⟩
 · exact LLe.r
 exact (ALe.v LLe.r ALe.nil)
theorem qAL {a0 : Int} {r : Bool} (h : qGE.f a0 = some r) : AC Tryz.prog 69 [.v (.s (.int .i64 a0))] [.v (.jk)] [.v (.s (.bool r))] := by
 unfold qGE.f at h
 show AC Tryz.prog 69 [.v (.s (.int .i64 a0))] _ _
 refine run3 Tryz.func69 (by rfl) (by rfl) (by cbv) ⟨by decide, rfl⟩ ?_
 intro ar cm bo sc sa sx ss sl bs sb ln sr ap up rp fr ge le lt nz mm ma sm fl al ci hL F hP hA hT hM hC
 refine Run.seq ?_
 refine Run.region hL hT [] (by cbv) hq0 ?_
 refine Run.seq ?_
 obtain ⟨r1, h_r1, h⟩ := bnd h
 refine Run.region hL hT [(1, .call [false, false, false] [.v (.jk), .v (.jk), .v (.jk)] [.v (.s (.bool r1))])] (by cbv) ?_ ?_
 · exact (hq (hC (qID h_r1)) hq0)
 refine Run.ret ?_
 cases h
 refine ⟨_, _, by cbv, ?_, ?_⟩
 · exact LLe.r
 exact (ALe.v LLe.r ALe.nil)
theorem qBG {a0 : ByteArray} {r : Bool} (h : qgB.f a0 = some r) : AC Tryz.prog 70 [.v (.s (.string a0))] [.v (.jk)] [.v (.s (.bool r))] := by
 unfold qgB.f at h
 show AC Tryz.prog 70 [.v (.s (.string a0))] _ _
 refine run3 Tryz.func70 (by rfl) (by rfl) (by cbv) ⟨by decide, rfl⟩ ?_
 intro ar cm bo sc sa sx ss sl bs sb ln sr ap up rp fr ge le lt nz mm ma sm fl al ci hL F hP hA hT hM hC
 refine Run.seq ?_
 refine Run.region hL hT [] (by cbv) hq0 ?_
 refine Run.seq ?_
 refine Run.seq ?_
 refine Run.region hL hT [] (by cbv) hq0 ?_
 refine Run.block ?_
 refine Run.loop2 (fun (z4 : Int) (z5 : Int) => ⟨19, 100000, [(0, .t (.s (.string a0))), (5, .t (.s (.int .i64 z4))), (6, .t (.s (.int .i64 z5)))], []⟩) (x0 := (sl a0)) (x1 := 0) h (Weak.of _ [] hA (by cbv) ?_) (fun _ _ => rfl) ?_
 · repeat (first | exact hq0 | refine hq (by first | exact Tt | rfl) ?_)
 intro k z4 z5 h
 rw [qgB.l0] at h
 refine Run.seq ?_
 refine Run.region hL hT [] (by cbv) ?_ ?_
 · exact (hq Tt hq0)
 refine Run.seq ?_
 refine Run.cond (by cbv) (hq0) (fun c6 => ?_) (fun c6 => ?_)
 ·
  have h := if_t c6 h
  refine Run.skip ?_
  refine Run.seq ?_
  refine Run.block ?_
  refine Run.seq ?_
  refine Run.region hL hT [] (by cbv) hq0 ?_
  refine Run.seq ?_
  obtain ⟨u7, h_u7, h⟩ := bnd h
  obtain ⟨r8, h_r8, h⟩ := bnd h
  refine Run.region hL hT [(4, .call [false, false, false] [.v (.jk), .v (.jk), .v (.jk)] [.v (.s (.bool r8))])] (by cbv) ?_ ?_
  · exact (hq (inS_0 h_u7) (hq (inS_1 h_u7) (hq (hC (qID h_r8)) hq0)))
  refine Run.cond (by cbv) (hq0) (fun c9 => ?_) (fun c9 => ?_)
  ·
   have h := if_t c9 h
   refine Run.seq ?_
   refine Run.region hL hT [] (by cbv) hq0 ?_
   refine Run.ret ?_
   cases h
   refine ⟨_, _, by cbv, ?_, ?_⟩
   · exact LLe.r
   exact (ALe.v LLe.r ALe.nil)
  have h := if_f c9 h
  refine Run.skip ?_
  refine Run.region hL hT [] (by cbv) ?_ ?_
  · exact (hq Tt hq0)
  refine ⟨z4, (ar .add .i64 z5 1), h, Weak.of _ [] hA (by cbv) ?_⟩
  repeat (first | exact hq0 | refine hq (by first | exact Tt | rfl) ?_)
 have h := if_f c6 h
 refine Run.exit ?_
 refine Run.seq ?_
 refine Run.region hL hT [] (by cbv) ?_ ?_
 · exact (hq Tt hq0)
 refine Run.ret ?_
 cases h
 refine ⟨_, _, by cbv, ?_, ?_⟩
 · exact LLe.r
 exact (ALe.v LLe.r ALe.nil)
theorem qxI {a0 : List ByteArray} {r : Bool} (h : qTB.f a0 = some r) : AC Tryz.prog 71 [.v (.im false (rowsOf Str_c a0))] [.v (.jk)] [.v (.s (.bool r))] := by
 unfold qTB.f at h
 let qD := rowsOf Str_c
 let qDB := @lenI ByteArray
 show AC Tryz.prog 71 [.v (.im false (qD a0))] _ _
 refine run3 Tryz.func71 (by rfl) (by rfl) (by cbv) ⟨by decide, rfl⟩ ?_
 intro ar cm bo sc sa sx ss sl bs sb ln sr ap up rp fr ge le lt nz mm ma sm fl al ci hL F hP hA hT hM hC
 refine Run.seq ?_
 refine Run.region hL hT [] (by cbv) hq0 ?_
 refine Run.seq ?_
 refine Run.seq ?_
 refine Run.region hL hT [] (by cbv) hq0 ?_
 rw [show ln (qD a0) = qDB a0 from ln_eq Str_c _]
 refine Run.block ?_
 refine Run.loop1 (fun (z5 : Int) => ⟨29, 100000, [(0, .t (.im false (qD a0))), (5, .t (.im false (qD a0))), (6, .t (.s (.int .i64 (qDB a0)))), (7, .t (.s (.int .i64 z5)))], []⟩) (x0 := 0) h (Weak.of _ [] hA (by cbv) ?_) (fun _ => rfl) ?_
 · repeat (first | exact hq0 | refine hq (by first | exact Tt | rfl) ?_)
 intro k z5 h
 rw [qTB.l0] at h
 refine Run.seq ?_
 refine Run.region hL hT [] (by cbv) ?_ ?_
 · exact (hq Tt hq0)
 refine Run.seq ?_
 refine Run.cond (by cbv) (hq0) (fun c6 => ?_) (fun c6 => ?_)
 ·
  have h := if_t c6 h
  refine Run.skip ?_
  refine Run.seq ?_
  refine Run.block ?_
  refine Run.seq ?_
  obtain ⟨x7, h_x7, h⟩ := bnd h
  refine Run.region hL hT [(1, .el [.s (.string x7)])] (by cbv) ?_ ?_
  · exact (hq (qoB h_x7) (hq (qqB (f := Str_c) h_x7) (hq (qdC (f := Str_c) h_x7) hq0)))
  refine Run.seq ?_
  obtain ⟨r8, h_r8, h⟩ := bnd h
  obtain ⟨x9, h_x9, h⟩ := bnd h
  refine Run.region hL hT [(1, .call [false] [.v (.jk)] [.v (.s (.bool r8))]), (10, .el [.s (.string x9)])] (by cbv) ?_ ?_
  · exact (hq (hC (qBG h_r8)) (hq (fun _ => hq0) (hq (fun g11 => (hq g11 (hq Tt hq0))) (hq (fun g12 => (hq g12 hq0)) (hq (fun _ => hq0) (hq (fun _ => hq0) (hq (fun g15 => (hq g15 (hq Tt hq0))) (hq (fun g16 => (hq g16 (hq g16 (hq (qoB (gd_t h_x9 g16)) (hq (qqB (f := Str_c) (gd_t h_x9 g16)) (hq (qdC (f := Str_c) (gd_t h_x9 g16)) hq0)))))) (hq (fun g17 => (hq g17 hq0)) (hq (fun _ => hq0) (hq (fun g19 => (hq g19 (hq g19 hq0))) (hq (fun g20 => (hq g20 (hq (fun q21 => (hq (bo_a g20 q21) hq0)) (hq (fun _ => hq0) hq0)))) (hq (fun _ => hq0) (hq (fun q24 => (hq (bo_m q24) hq0)) hq0))))))))))))))
  refine Run.cond (by cbv) (hq0) (fun c25 => ?_) (fun c25 => ?_)
  ·
   have h := if_t c25 h
   refine Run.seq ?_
   refine Run.region hL hT [] (by cbv) hq0 ?_
   refine Run.ret ?_
   cases h
   refine ⟨_, _, by cbv, ?_, ?_⟩
   · exact LLe.r
   exact (ALe.v LLe.r ALe.nil)
  have h := if_f c25 h
  refine Run.skip ?_
  refine Run.region hL hT [] (by cbv) ?_ ?_
  · exact (hq Tt hq0)
  refine ⟨(ar .add .i64 z5 1), h, Weak.of _ [] hA (by cbv) ?_⟩
  repeat (first | exact hq0 | refine hq (by first | exact Tt | rfl) ?_)
 have h := if_f c6 h
 refine Run.exit ?_
 refine Run.seq ?_
 refine Run.region hL hT [] (by cbv) hq0 ?_
 refine Run.ret ?_
 cases h
 refine ⟨_, _, by cbv, ?_, ?_⟩
 · exact LLe.r
 exact (ALe.v LLe.r ALe.nil)
theorem qBL {qE : Int} {a0v_N : Int} {a0v_S : ByteArray} {qB : List Json} {qC : List ByteArray} {r : Bool} (h : qHE.f (Json.mk qE a0v_N a0v_S qB qC) = some r) : AC Tryz.prog 56 [.ag [.s (.int .i64 qE), .s (.int .i64 a0v_N), .s (.string a0v_S), .im false (rowsOf qN qB), .im false (rowsOf Str_c qC)]] [.ag [.jk, .jk, .jk, .jk, .jk]] [.v (.s (.bool r))] := by
 unfold qHE.f at h
 let qM := rowsOf qN
 let qD := rowsOf Str_c
 let qV := @lenI Json
 let qDB := @lenI ByteArray
 show AC Tryz.prog 56 [.ag [.s (.int .i64 qE), .s (.int .i64 a0v_N), .s (.string a0v_S), .im false (qM qB), .im false (qD qC)]] _ _
 refine run3 Tryz.func56 (by rfl) (by rfl) (by cbv) ⟨by decide, rfl⟩ ?_
 intro ar cm bo sc sa sx ss sl bs sb ln sr ap up rp fr ge le lt nz mm ma sm fl al ci hL F hP hA hT hM hC
 refine Run.seq ?_
 refine Run.region hL hT [] (by cbv) hq0 ?_
 refine Run.seq ?_
 refine Run.seq ?_
 refine Run.region hL hT [] (by cbv) ?_ ?_
 · exact (hq Tt (hq Tt (hq (fun _ => hq0) (hq (fun g2 => (by have g2C := g2; rw [show ln (qM qB) = qV qB from ln_eq qN _] at g2C; exact (hq g2 (hq Tt hq0)))) (hq (fun g3 => (by have g3C := g3; rw [show ln (qM qB) = qV qB from ln_eq qN _] at g3C; exact (hq g3 (hq Tt hq0)))) (hq (fun q4 => (by have q4C := q4; rw [show ln (qM qB) = qV qB from ln_eq qN _] at q4C; exact (hq q4 hq0))) (hq (fun _ => hq0) (hq (fun _ => hq0) (hq (fun g7 => (by have g7C := g7; rw [show ln (qM qB) = qV qB from ln_eq qN _] at g7C; exact (hq g7 (hq Tt hq0)))) (hq (fun g8 => (by have g8C := g8; rw [show ln (qM qB) = qV qB from ln_eq qN _] at g8C; exact (hq g8 (hq Tt hq0)))) (hq (fun q9 => (by have q9C := q9; rw [show ln (qM qB) = qV qB from ln_eq qN _] at q9C; exact (hq q9 hq0))) (hq (fun _ => hq0) (hq (fun _ => hq0) (hq (fun g12 => (by have g12C := g12; rw [show ln (qM qB) = qV qB from ln_eq qN _] at g12C; exact (hq g12 (hq Tt hq0)))) (hq (fun g13 => (by have g13C := g13; rw [show ln (qM qB) = qV qB from ln_eq qN _] at g13C; exact (hq g13 hq0))) (hq (fun g14 => (by have g14C := g14; rw [show ln (qM qB) = qV qB from ln_eq qN _] at g14C; exact (hq g14 (hq Tt hq0)))) (hq (fun g15 => (by have g15C := g15; rw [show ln (qM qB) = qV qB from ln_eq qN _] at g15C; exact (hq g15 hq0))) (hq (fun _ => hq0) (hq (fun g17 => (by have g17C := g17; rw [show ln (qM qB) = qV qB from ln_eq qN _, show ln (qD qC) = qDB qC from ln_eq Str_c _] at g17C; exact (hq g17 (hq Tt hq0)))) (hq (fun g18 => (by have g18C := g18; rw [show ln (qM qB) = qV qB from ln_eq qN _, show ln (qD qC) = qDB qC from ln_eq Str_c _] at g18C; exact (hq g18 (hq Tt hq0)))) (hq (fun g19 => (by have g19C := g19; rw [show ln (qM qB) = qV qB from ln_eq qN _] at g19C; exact (hq g19 (hq (fun q20 => (by have q20C := q20; rw [show ln (qD qC) = qDB qC from ln_eq Str_c _] at q20C; exact (hq (bo_a g19 q20) hq0))) (hq (fun _ => hq0) hq0))))) (hq (fun _ => hq0) (hq (fun q23 => (by have q23C := q23; rw [show ln (qM qB) = qV qB from ln_eq qN _] at q23C; exact (hq (bo_m q23) hq0))) hq0)))))))))))))))))))))))
 rw [show ln (qM qB) = qV qB from ln_eq qN _]
 rw [show ln (qD qC) = qDB qC from ln_eq Str_c _]
 refine Run.cond (by cbv) (hq0) (fun c24 => ?_) (fun c24 => ?_)
 ·
  have h := if_t c24 h
  refine Run.seq ?_
  refine Run.region hL hT [] (by cbv) hq0 ?_
  refine Run.ret ?_
  cases h
  refine ⟨_, _, by cbv, ?_, ?_⟩
  · exact LLe.r
  exact (ALe.v LLe.r ALe.nil)
 have h := if_f c24 h
 refine Run.skip ?_
 refine Run.seq ?_
 refine Run.seq ?_
 refine Run.region hL hT [] (by cbv) ?_ ?_
 · exact (hq Tt (hq Tt (hq (fun _ => hq0) (hq (fun g26 => (hq g26 (hq Tt hq0))) (hq (fun g27 => (hq g27 (hq Tt hq0))) (hq (fun q28 => (hq q28 hq0)) (hq (fun _ => hq0) (hq (fun _ => hq0) (hq (fun g31 => (hq g31 (hq Tt hq0))) (hq (fun g32 => (hq g32 (hq Tt hq0))) (hq (fun q33 => (hq q33 hq0)) (hq (fun _ => hq0) (hq (fun _ => hq0) (hq (fun g36 => (hq g36 (hq Tt hq0))) (hq (fun g37 => (hq g37 hq0)) (hq (fun g38 => (hq g38 hq0)) (hq (fun _ => hq0) (hq (fun g40 => (hq g40 (hq Tt hq0))) (hq (fun g41 => (hq g41 (hq Tt hq0))) (hq (fun g42 => (hq g42 (hq (fun q43 => (hq (bo_a g42 q43) hq0)) (hq (fun _ => hq0) hq0)))) (hq (fun _ => hq0) (hq (fun q46 => (hq (bo_m q46) hq0)) hq0))))))))))))))))))))))
 refine Run.cond (by cbv) (hq0) (fun c47 => ?_) (fun c47 => ?_)
 ·
  have h := if_t c47 h
  refine Run.seq ?_
  refine Run.region hL hT [] (by cbv) hq0 ?_
  refine Run.ret ?_
  cases h
  refine ⟨_, _, by cbv, ?_, ?_⟩
  · exact LLe.r
  exact (ALe.v LLe.r ALe.nil)
 have h := if_f c47 h
 refine Run.skip ?_
 refine Run.seq ?_
 refine Run.seq ?_
 refine Run.region hL hT [] (by cbv) ?_ ?_
 · exact (hq Tt hq0)
 refine Run.block ?_
 refine Run.seq ?_
 refine Run.region hL hT [] (by cbv) ?_ ?_
 · exact (hq Tt hq0)
 refine Run.cond (by cbv) (hq0) (fun c48 => ?_) (fun c48 => ?_)
 ·
  have h := if_t c48 h
  refine Run.seq ?_
  obtain ⟨r49, h_r49, h⟩ := bnd h
  refine Run.region hL hT [(2, .call [false, false, false] [.v (.jk), .v (.jk), .v (.jk)] [.v (.s (.bool r49))])] (by cbv) ?_ ?_
  · exact (hq Tt (hq (hC (qID h_r49)) hq0))
  refine Run.ret ?_
  cases h
  refine ⟨_, _, by cbv, ?_, ?_⟩
  · exact LLe.r
  exact (ALe.v LLe.r ALe.nil)
 have h := if_f c48 h
 refine Run.seq ?_
 refine Run.region hL hT [] (by cbv) ?_ ?_
 · exact (hq Tt hq0)
 refine Run.cond (by cbv) (hq0) (fun c50 => ?_) (fun c50 => ?_)
 ·
  have h := if_t c50 h
  refine Run.seq ?_
  obtain ⟨r51, h_r51, h⟩ := bnd h
  refine Run.region hL hT [(2, .call [false] [.v (.jk)] [.v (.s (.bool r51))])] (by cbv) ?_ ?_
  · exact (hq Tt (hq (hC (qAL h_r51)) hq0))
  refine Run.ret ?_
  cases h
  refine ⟨_, _, by cbv, ?_, ?_⟩
  · exact LLe.r
  exact (ALe.v LLe.r ALe.nil)
 have h := if_f c50 h
 refine Run.seq ?_
 refine Run.region hL hT [] (by cbv) ?_ ?_
 · exact (hq Tt hq0)
 refine Run.cond (by cbv) (hq0) (fun c52 => ?_) (fun c52 => ?_)
 ·
  have h := if_t c52 h
  refine Run.seq ?_
  obtain ⟨r53, h_r53, h⟩ := bnd h
  refine Run.region hL hT [(2, .call [false] [.v (.jk)] [.v (.s (.bool r53))])] (by cbv) ?_ ?_
  · exact (hq Tt (hq (hC (qBG h_r53)) hq0))
  refine Run.ret ?_
  cases h
  refine ⟨_, _, by cbv, ?_, ?_⟩
  · exact LLe.r
  exact (ALe.v LLe.r ALe.nil)
 have h := if_f c52 h
 refine Run.seq ?_
 refine Run.region hL hT [] (by cbv) ?_ ?_
 · exact (hq Tt hq0)
 refine Run.cond (by cbv) (hq0) (fun c54 => ?_) (fun c54 => ?_)
 ·
  have h := if_t c54 h
  refine Run.seq ?_
  obtain ⟨r55, h_r55, h⟩ := bnd h
  refine Run.region hL hT [(10, .call [false] [.v (.jk)] [.v (.s (.bool r55))])] (by cbv) ?_ ?_
  · exact (hq Tt (hq Tt (hq Tt (hq (fun _ => hq0) (hq (fun g57 => (by have g57C := g57; rw [show ln (qM qB) = qV qB from ln_eq qN _, show ln (qD qC) = qDB qC from ln_eq Str_c _] at g57C; exact (hq g57 (hq Tt hq0)))) (hq (fun g58 => (by have g58C := g58; rw [show ln (qM qB) = qV qB from ln_eq qN _, show ln (qD qC) = qDB qC from ln_eq Str_c _] at g58C; exact (hq g58 (hq (hC (qxI (gd_t h_r55 g58C))) hq0)))) (hq (fun q59 => (by have q59C := q59; rw [show ln (qM qB) = qV qB from ln_eq qN _, show ln (qD qC) = qDB qC from ln_eq Str_c _] at q59C; exact (hq q59 hq0))) (hq (fun _ => hq0) hq0))))))))
  rw [show ln (qM qB) = qV qB from ln_eq qN _]
  rw [show ln (qD qC) = qDB qC from ln_eq Str_c _]
  refine Run.ret ?_
  cases h
  refine ⟨_, _, by cbv, ?_, ?_⟩
  · exact LLe.r
  exact (ALe.v LLe.r ALe.nil)
 have h := if_f c54 h
 refine Run.skip ?_
 refine Run.seq ?_
 refine Run.region hL hT [] (by cbv) ?_ ?_
 · exact (hq Tt (hq Tt (hq (fun _ => hq0) (hq (fun g62 => (hq g62 (hq Tt hq0))) (hq (fun g63 => (hq g63 (hq Tt hq0))) (hq (fun _ => hq0) (hq (fun q65 => (hq (bo_m q65) hq0)) hq0)))))))
 refine Run.ret ?_
 cases h
 refine ⟨_, _, by cbv, ?_, ?_⟩
 · exact LLe.r
 exact (ALe.v LLe.r ALe.nil)
theorem qyI (self : Json → Int → Option Int) (hself : ∀ {qE : Int} {a0v_N : Int} {a0v_S : ByteArray} {qB : List Json} {qC : List ByteArray} {a1 : Int} {r : Int} (h : self (Json.mk qE a0v_N a0v_S qB qC) a1 = some r), AC Tryz.prog 32 [.ag [.s (.int .i64 qE), .s (.int .i64 a0v_N), .s (.string a0v_S), .im false (rowsOf qN qB), .im false (rowsOf Str_c qC)], .v (.s (.int .i64 a1))] [.ag [.jk, .jk, .jk, .jk, .jk], .v (.jk)] [.v (.s (.int .i64 r))]) {qE : Int} {a0v_N : Int} {a0v_S : ByteArray} {qB : List Json} {qC : List ByteArray} {a1 : Int} {r : Int} (h : qp.b self (Json.mk qE a0v_N a0v_S qB qC) a1 = some r) : AC Tryz.prog 32 [.ag [.s (.int .i64 qE), .s (.int .i64 a0v_N), .s (.string a0v_S), .im false (rowsOf qN qB), .im false (rowsOf Str_c qC)], .v (.s (.int .i64 a1))] [.ag [.jk, .jk, .jk, .jk, .jk], .v (.jk)] [.v (.s (.int .i64 r))] := by
 unfold qp.b at h
 let qM := rowsOf qN
 let qD := rowsOf Str_c
 let qV := @lenI Json
 show AC Tryz.prog 32 [.ag [.s (.int .i64 qE), .s (.int .i64 a0v_N), .s (.string a0v_S), .im false (qM qB), .im false (qD qC)], .v (.s (.int .i64 a1))] _ _
 refine run3 Tryz.func32 (by rfl) (by rfl) (by cbv) ⟨by decide, rfl⟩ ?_
 intro ar cm bo sc sa sx ss sl bs sb ln sr ap up rp fr ge le lt nz mm ma sm fl al ci hL F hP hA hT hM hC
 refine Run.seq ?_
 refine Run.region hL hT [] (by cbv) hq0 ?_
 refine Run.seq ?_
 refine Run.seq ?_
 obtain ⟨r1, h_r1, h⟩ := bnd h
 refine Run.region hL hT [(4, .call [false] [.ag [.jk, .jk, .jk, .jk, .jk]] [.v (.s (.bool r1))])] (by cbv) ?_ ?_
 · exact (hq Tt (hq (fun g2 => (hq Tt hq0)) (hq (fun g3 => (hq g3 (hq (hC (qBL (gd_t h_r1 g3))) hq0))) (hq (fun g4 => (hq g4 hq0)) (hq (fun _ => hq0) (hq (fun q6 => (hq (bo_m q6) hq0)) hq0))))))
 refine Run.cond (by cbv) (hq0) (fun c7 => ?_) (fun c7 => ?_)
 ·
  have h := if_t c7 h
  refine Run.seq ?_
  refine Run.region hL hT [] (by cbv) hq0 ?_
  refine Run.ret ?_
  cases h
  refine ⟨_, _, by cbv, ?_, ?_⟩
  · exact LLe.r
  exact (ALe.v LLe.r ALe.nil)
 have h := if_f c7 h
 refine Run.skip ?_
 refine Run.seq ?_
 refine Run.region hL hT [] (by cbv) hq0 ?_
 refine Run.seq ?_
 refine Run.seq ?_
 refine Run.region hL hT [] (by cbv) ?_ ?_
 · exact (hq Tt hq0)
 rw [show ln (qM qB) = qV qB from ln_eq qN _]
 refine Run.block ?_
 refine Run.loop2 (fun (z13 : Int) (z14 : Int) => ⟨32, 100000, [(1, .t (.s (.int .i64 a1))), (5, .t (.s (.int .i64 z13))), (16, .t (.im false (qM qB))), (17, .t (.s (.int .i64 (qV qB)))), (18, .t (.s (.int .i64 z14)))], []⟩) (x0 := 1) (x1 := 0) h (Weak.of _ [] hA (by cbv) ?_) (fun _ _ => rfl) ?_
 · repeat (first | exact hq0 | refine hq (by first | exact Tt | rfl) ?_)
 intro k z13 z14 h
 rw [qp.l0] at h
 refine Run.seq ?_
 refine Run.region hL hT [] (by cbv) ?_ ?_
 · exact (hq Tt hq0)
 refine Run.seq ?_
 refine Run.cond (by cbv) (hq0) (fun c15 => ?_) (fun c15 => ?_)
 ·
  have h := if_t c15 h
  refine Run.skip ?_
  refine Run.seq ?_
  refine Run.block ?_
  refine Run.seq ?_
  obtain ⟨⟨qVR, qiU, qjU, qbP, qcP⟩, h_x16, h⟩ := bnd h
  refine Run.region hL hT [(0, .el [.s (.int .i64 qVR), .s (.int .i64 qiU), .s (.string qjU), .im false (qM qbP), .im false (qD qcP)])] (by cbv) ?_ ?_
  · exact (hq (qoB h_x16) (hq (qqB (f := qN) h_x16) (hq (qxE quC h_x16) (hq Tt hq0))))
  refine Run.seq ?_
  obtain ⟨r17, h_r17, h⟩ := bnd h
  refine Run.region hL hT [(4, .call [false, false] [.ag [.jk, .jk, .jk, .jk, .jk], .v (.jk)] [.v (.s (.int .i64 r17))])] (by cbv) ?_ ?_
  · exact (hq Tt (hq Tt (hq (hC (hself h_r17)) (hq Tt hq0))))
  refine Run.seq ?_
  refine Run.region hL hT [] (by cbv) ?_ ?_
  · exact (hq Tt hq0)
  refine Run.cond (by cbv) (hq0) (fun c18 => ?_) (fun c18 => ?_)
  ·
   have h := if_t c18 h
   refine Run.seq ?_
   refine Run.region hL hT [] (by cbv) hq0 ?_
   refine Run.ret ?_
   cases h
   refine ⟨_, _, by cbv, ?_, ?_⟩
   · exact LLe.r
   exact (ALe.v LLe.r ALe.nil)
  have h := if_f c18 h
  refine Run.skip ?_
  refine Run.region hL hT [] (by cbv) ?_ ?_
  · exact (hq Tt hq0)
  refine ⟨(ar .add .i64 z13 r17), (ar .add .i64 z14 1), h, Weak.of _ [] hA (by cbv) ?_⟩
  repeat (first | exact hq0 | refine hq (by first | exact Tt | rfl) ?_)
 have h := if_f c15 h
 refine Run.exit ?_
 refine Run.seq ?_
 refine Run.region hL hT [] (by cbv) hq0 ?_
 refine Run.ret ?_
 cases h
 refine ⟨_, _, by cbv, ?_, ?_⟩
 · exact LLe.r
 exact (ALe.v LLe.r ALe.nil)
theorem qQF : ∀ (k : Nat) {qE : Int} {a0v_N : Int} {a0v_S : ByteArray} {qB : List Json} {qC : List ByteArray} {a1 : Int} {r : Int} (h : qp.g k (Json.mk qE a0v_N a0v_S qB qC) a1 = some r), AC Tryz.prog 32 [.ag [.s (.int .i64 qE), .s (.int .i64 a0v_N), .s (.string a0v_S), .im false (rowsOf qN qB), .im false (rowsOf Str_c qC)], .v (.s (.int .i64 a1))] [.ag [.jk, .jk, .jk, .jk, .jk], .v (.jk)] [.v (.s (.int .i64 r))]
 | 0 => fun h => by cases h
 | k + 1 => fun h => qyI (qp.g k) (qQF k) h
theorem qRJ {qE : Int} {a0v_N : Int} {a0v_S : ByteArray} {qB : List Json} {qC : List ByteArray} {a1 : Int} {r : Int} (h : qp.f (Json.mk qE a0v_N a0v_S qB qC) a1 = some r) : AC Tryz.prog 32 [.ag [.s (.int .i64 qE), .s (.int .i64 a0v_N), .s (.string a0v_S), .im false (rowsOf qN qB), .im false (rowsOf Str_c qC)], .v (.s (.int .i64 a1))] [.ag [.jk, .jk, .jk, .jk, .jk], .v (.jk)] [.v (.s (.int .i64 r))] := qQF 20 h
theorem qJD {qE : Int} {a0v_N : Int} {a0v_S : ByteArray} {qB : List Json} {qC : List ByteArray} {r : Bool} (h : qTC.f (Json.mk qE a0v_N a0v_S qB qC) = some r) : AC Tryz.prog 19 [.ag [.s (.int .i64 qE), .s (.int .i64 a0v_N), .s (.string a0v_S), .im false (rowsOf qN qB), .im false (rowsOf Str_c qC)]] [.ag [.jk, .jk, .jk, .jk, .jk]] [.v (.s (.bool r))] := by
 unfold qTC.f at h
 let qM := rowsOf qN
 let qD := rowsOf Str_c
 show AC Tryz.prog 19 [.ag [.s (.int .i64 qE), .s (.int .i64 a0v_N), .s (.string a0v_S), .im false (qM qB), .im false (qD qC)]] _ _
 refine run3 Tryz.func19 (by rfl) (by rfl) (by cbv) ⟨by decide, rfl⟩ ?_
 intro ar cm bo sc sa sx ss sl bs sb ln sr ap up rp fr ge le lt nz mm ma sm fl al ci hL F hP hA hT hM hC
 refine Run.seq ?_
 refine Run.region hL hT [] (by cbv) hq0 ?_
 refine Run.seq ?_
 obtain ⟨r1, h_r1, h⟩ := bnd h
 refine Run.region hL hT [(1, .call [false, false] [.ag [.jk, .jk, .jk, .jk, .jk], .v (.jk)] [.v (.s (.int .i64 r1))])] (by cbv) ?_ ?_
 · exact (hq Tt (hq (hC (qRJ h_r1)) (hq Tt hq0)))
 refine Run.ret ?_
 cases h
 refine ⟨_, _, by cbv, ?_, ?_⟩
 · exact LLe.r
 exact (ALe.v LLe.r ALe.nil)
theorem qSJ {qE : Int} {a0v_N : Int} {a0v_S : ByteArray} {qB : List Json} {qC : List ByteArray} {r : Json} (h : qmD.f (Json.mk qE a0v_N a0v_S qB qC) = some r) : AC Tryz.prog 55 [.ag [.s (.int .i64 qE), .s (.int .i64 a0v_N), .s (.string a0v_S), .ow 27 (rowsOf qx qB), .ow 9 (rowsOf Str_c qC)]] [.ag [.jk, .jk, .jk, .jk, .jk]] [.ag [.s (.int .i64 r.Kind), .s (.int .i64 r.N), .s (.string r.S), .ow 27 (rowsOf qx r.List_), .ow 9 (rowsOf Str_c r.Names)]] := by
 unfold qmD.f at h
 let qh := rowsOf qx
 let qD := rowsOf Str_c
 show AC Tryz.prog 55 [.ag [.s (.int .i64 qE), .s (.int .i64 a0v_N), .s (.string a0v_S), .ow 27 (qh qB), .ow 9 (qD qC)]] _ _
 refine run3 Tryz.func55 (by rfl) (by rfl) (by cbv) ⟨by decide, rfl⟩ ?_
 intro ar cm bo sc sa sx ss sl bs sb ln sr ap up rp fr ge le lt nz mm ma sm fl al ci hL F hP hA hT hM hC
 refine Run.seq ?_
 refine Run.region hL hT [] (by cbv) hq0 ?_
 refine Run.seq ?_
 refine Run.seq ?_
 obtain ⟨r1, h_r1, h⟩ := bnd h
 refine Run.region hL hT [(1, .call [false] [.ag [.jk, .jk, .jk, .jk, .jk]] [.v (.s (.bool r1))])] (by cbv) ?_ ?_
 · exact (hq Tt (hq (hC (AC.args (qJD h_r1) (ALe.ag rfl (LLe.c (LLe.c (LLe.c (LLe.cons (LLe.im (RLe.eq (qxB qxD _))) (LLe.cons (LLe.im (RLe.eq (qxB qwB _))) LLe.nil))))) ALe.nil))) hq0))
 refine Run.cond (by cbv) (hq0) (fun c2 => ?_) (fun c2 => ?_)
 ·
  have h := if_t c2 h
  refine Run.seq ?_
  refine Run.region hL hT [] (by cbv) ?_ ?_
  · exact (hq Tt hq0)
  refine Run.ret ?_
  cases h
  refine ⟨_, _, by cbv, ?_, ?_⟩
  · exact (LLe.c (LLe.c (LLe.c (LLe.cons LLe.jk (LLe.cons LLe.jk LLe.nil)))))
  exact (ALe.ag rfl (LLe.c (LLe.c (LLe.c (LLe.cons LLe.nilO (LLe.cons LLe.nilO LLe.nil))))) ALe.nil)
 have h := if_f c2 h
 refine Run.skip ?_
 refine Run.seq ?_
 refine Run.region hL hT [] (by cbv) ?_ ?_
 · exact (hq Tt (hq Tt hq0))
 refine Run.weak ?_ (Weak.mvB 0 14290 3 (by cbv) (by cbv) (by cbv))
 refine Run.weak ?_ (Weak.mvB 1 14291 3 (by cbv) (by cbv) (by cbv))
 refine Run.ret ?_
 cases h
 refine ⟨_, _, by cbv, ?_, ?_⟩
 · exact LLe.r
 exact (ALe.ag rfl LLe.r ALe.nil)
theorem qTJ {a0 : ByteArray} {r : Json} (h : qnD.f a0 = some r) : AC Tryz.prog 30 [.v (.s (.string a0))] [.v (.jk)] [.ag [.s (.int .i64 r.Kind), .s (.int .i64 r.N), .s (.string r.S), .ow 27 (rowsOf qx r.List_), .ow 9 (rowsOf Str_c r.Names)]] := by
 unfold qnD.f at h
 let qh := rowsOf qx
 let qD := rowsOf Str_c
 show AC Tryz.prog 30 [.v (.s (.string a0))] _ _
 refine run3 Tryz.func30 (by rfl) (by rfl) (by cbv) ⟨by decide, rfl⟩ ?_
 intro ar cm bo sc sa sx ss sl bs sb ln sr ap up rp fr ge le lt nz mm ma sm fl al ci hL F hP hA hT hM hC
 refine Run.seq ?_
 refine Run.region hL hT [] (by cbv) hq0 ?_
 refine Run.seq ?_
 obtain ⟨⟨qmG, r1v_N, r1v_S, qRF, qSF⟩, h_r1, h⟩ := bnd h
 refine Run.region hL hT [(2, .call [true] [.ag [.jk, .jk, .jk, .jk, .jk]] [.ag [.s (.int .i64 qmG), .s (.int .i64 r1v_N), .s (.string r1v_S), .ow 27 (qh qRF), .ow 9 (qD qSF)]])] (by cbv) ?_ ?_
 · exact (hq (hC (AC.args (qSJ h_r1) (ALe.ag rfl (LLe.c (LLe.c (LLe.c (LLe.cons LLe.nilO (LLe.cons LLe.nilO LLe.nil))))) ALe.nil))) (hq Tt hq0))
 refine Run.ret ?_
 cases h
 refine ⟨_, _, by cbv, ?_, ?_⟩
 · exact LLe.r
 exact (ALe.ag rfl LLe.r ALe.nil)
theorem qCG {a0 : ByteArray} {r : ByteArray} (h : qPB.f a0 = some r) : AC Tryz.prog 33 [.v (.s (.string a0))] [.v (.jk)] [.v (.s (.string r))] := by
 unfold qPB.f at h
 let eu8_c := rowsOf u8_c
 show AC Tryz.prog 33 [.v (.s (.string a0))] _ _
 refine run3 Tryz.func33 (by rfl) (by rfl) (by cbv) ⟨by decide, rfl⟩ ?_
 intro ar cm bo sc sa sx ss sl bs sb ln sr ap up rp fr ge le lt nz mm ma sm fl al ci hL F hP hA hT hM hC
 refine Run.seq ?_
 refine Run.region hL hT [] (by cbv) hq0 ?_
 refine Run.seq ?_
 obtain ⟨l1, h_l1, h⟩ := bnd h
 refine Run.region hL hT [] (by cbv) hq0 ?_
 refine Run.row (rows := [[.s (.int .u8 34)]]) 4096 (eu8_c l1) (by cbv) (qU (f := u8_c) h_l1 (RLe.cons rfl LLe.r RLe.nil)) ?_
 refine Run.seq ?_
 refine Run.seq ?_
 refine Run.region hL hT [] (by cbv) hq0 ?_
 refine Run.block ?_
 refine Run.loop3 (fun (z6 : List Int) (z7 : Int) (z8 : Int) => ⟨35, 100000, [(0, .t (.s (.string a0))), (3, .rf 1), (7, .t (.s (.int .i64 z7))), (8, .t (.s (.int .i64 z8)))], [(1, .row 0 5 1 (eu8_c z6))]⟩) (x0 := l1) (x1 := (sl a0)) (x2 := 0) h (Weak.of _ [(1, 4096)] hA (by cbv) ?_) (fun _ _ _ => rfl) ?_
 · repeat (first | exact hq0 | refine hq (by first | exact Tt | rfl) ?_)
 intro k z6 z7 z8 h
 rw [qPB.l0] at h
 refine Run.seq ?_
 refine Run.region hL hT [] (by cbv) ?_ ?_
 · exact (hq Tt hq0)
 refine Run.seq ?_
 refine Run.cond (by cbv) (hq0) (fun c9 => ?_) (fun c9 => ?_)
 ·
  have h := if_t c9 h
  refine Run.skip ?_
  refine Run.seq ?_
  refine Run.block ?_
  refine Run.seq ?_
  refine Run.region hL hT [] (by cbv) hq0 ?_
  refine Run.seq ?_
  refine Run.seq ?_
  obtain ⟨u10, h_u10, h⟩ := bnd h
  obtain ⟨u11, h_u11, h⟩ := bnd h
  refine Run.region hL hT [] (by cbv) ?_ ?_
  · exact (hq (inS_0 h_u10) (hq (inS_1 h_u10) (hq Tt (hq (fun _ => hq0) (hq (fun _ => hq0) (hq (fun g14 => (hq g14 (hq g14 (hq (inS_0 (gd_t h_u11 g14)) (hq (inS_1 (gd_t h_u11 g14)) hq0))))) (hq (fun g15 => (hq g15 (hq Tt hq0))) (hq (fun _ => hq0) (hq (fun q17 => (hq (bo_m q17) hq0)) hq0)))))))))
  refine Run.cond (by cbv) (hq0) (fun c18 => ?_) (fun c18 => ?_)
  ·
   have h := if_t c18 h
   obtain ⟨l19, h_l19, h⟩ := bnd h
   obtain ⟨l20, h_l20, h⟩ := bnd h
   refine Run.region hL hT [] (by cbv) ?_ ?_
   · exact (hq (qiB (P := Tryz.prog) (f := u8_c) RLe.r (qU (f := u8_c) h_l19 (RLe.cons rfl LLe.r RLe.nil)) h_l20) hq0)
   refine Run.row (rows := (ap (eu8_c z6) ([[.s (.int .u8 92)]]))) 112290 (eu8_c l20) (by cbv) (qdB (f := u8_c) RLe.r (qU (f := u8_c) h_l19 (RLe.cons rfl LLe.r RLe.nil)) h_l20) ?_
   obtain ⟨u21, h_u21, h⟩ := bnd h
   obtain ⟨l22, h_l22, h⟩ := bnd h
   obtain ⟨l23, h_l23, h⟩ := bnd h
   refine Run.region hL hT [] (by cbv) ?_ ?_
   · exact (hq (inS_0 h_u21) (hq (inS_1 h_u21) (hq (qiB (P := Tryz.prog) (f := u8_c) RLe.r (qU (f := u8_c) h_l22 (RLe.cons rfl LLe.r RLe.nil)) h_l23) hq0)))
   refine Run.row (rows := (ap (eu8_c l20) ([[.s (.int .u8 (sx a0 z8))]]))) 116389 (eu8_c l23) (by cbv) (qdB (f := u8_c) RLe.r (qU (f := u8_c) h_l22 (RLe.cons rfl LLe.r RLe.nil)) h_l23) ?_
   refine Run.region hL hT [] (by cbv) ?_ ?_
   · exact (hq Tt hq0)
   refine ⟨l23, z7, (ar .add .i64 z8 1), h, Weak.of _ [(1, 116389)] hA (by cbv) ?_⟩
   repeat (first | exact hq0 | refine hq (by first | exact Tt | rfl) ?_)
  have h := if_f c18 h
  refine Run.skip ?_
  obtain ⟨u24, h_u24, h⟩ := bnd h
  obtain ⟨l25, h_l25, h⟩ := bnd h
  obtain ⟨l26, h_l26, h⟩ := bnd h
  refine Run.region hL hT [] (by cbv) ?_ ?_
  · exact (hq (inS_0 h_u24) (hq (inS_1 h_u24) (hq (qiB (P := Tryz.prog) (f := u8_c) RLe.r (qU (f := u8_c) h_l25 (RLe.cons rfl LLe.r RLe.nil)) h_l26) hq0)))
  refine Run.row (rows := (ap (eu8_c z6) ([[.s (.int .u8 (sx a0 z8))]]))) 112293 (eu8_c l26) (by cbv) (qdB (f := u8_c) RLe.r (qU (f := u8_c) h_l25 (RLe.cons rfl LLe.r RLe.nil)) h_l26) ?_
  refine Run.region hL hT [] (by cbv) ?_ ?_
  · exact (hq Tt hq0)
  refine ⟨l26, z7, (ar .add .i64 z8 1), h, Weak.of _ [(1, 112293)] hA (by cbv) ?_⟩
  repeat (first | exact hq0 | refine hq (by first | exact Tt | rfl) ?_)
 have h := if_f c9 h
 refine Run.exit ?_
 refine Run.seq ?_
 obtain ⟨l27, h_l27, h⟩ := bnd h
 obtain ⟨l28, h_l28, h⟩ := bnd h
 obtain ⟨s29, h_s29, h⟩ := bnd h
 refine Run.region hL hT [(3, .hd [104098] (.t (.s (.string s29))) [])] (by cbv) ?_ ?_
 · exact (hq (qiB (P := Tryz.prog) (f := u8_c) RLe.r (qU (f := u8_c) h_l27 (RLe.cons rfl LLe.r RLe.nil)) h_l28) (hq (qrJ (ns := l28) hT (by rfl) (by rfl) (by rfl) (by rfl) (by rfl) (by rfl) (qdB (f := u8_c) RLe.r (qU (f := u8_c) h_l27 (RLe.cons rfl LLe.r RLe.nil)) h_l28) h_s29) hq0))
 refine Run.row (rows := (ap (eu8_c z6) ([[.s (.int .u8 34)]]))) 104098 (eu8_c l28) (by cbv) (qdB (f := u8_c) RLe.r (qU (f := u8_c) h_l27 (RLe.cons rfl LLe.r RLe.nil)) h_l28) ?_
 refine Run.ret ?_
 cases h
 refine ⟨_, _, by cbv, ?_, ?_⟩
 · exact LLe.r
 exact (ALe.v LLe.r ALe.nil)
def qgM : Go.Shelf.Ren := ⟨fun | 171 => 34 | 243 => 57 | 246 => 72 | 283 => 78 | 284 => 79 | 285 => 80 | 286 => 81 | 129 => 90 | 317 => 89 | 318 => 91 | 319 => 92 | 320 => 93 | 337 => 97 | 338 => 98 | n => n, fun | 3 => 3 | 9 => 9 | 2 => 2 | 4 => 4 | 171 => 93 | 0 => 0 | 53 => 94 | 37 => 22 | 5 => 5 | 173 => 97 | 212 => 110 | 51 => 111 | 20 => 20 | 213 => 112 | 46 => 87 | 232 => 124 | 233 => 125 | n => n, fun | 17 => 0 | 18 => 4 | 19 => 5 | n => n⟩
theorem laysItoa : Go.Proofs.LaysM.n171 Tryz.prog qgM := {
 mixed := by kernel_rfl
 f129 := Tryz.func90.trans (congrArg some (by kernel_rfl))
 f171 := Tryz.func34.trans (congrArg some (by kernel_rfl))
 f243 := Tryz.func57.trans (congrArg some (by kernel_rfl))
 f246 := Tryz.func72.trans (congrArg some (by kernel_rfl))
 f283 := Tryz.func78.trans (congrArg some (by kernel_rfl))
 f284 := Tryz.func79.trans (congrArg some (by kernel_rfl))
 f285 := Tryz.func80.trans (congrArg some (by kernel_rfl))
 f286 := Tryz.func81.trans (congrArg some (by kernel_rfl))
 f317 := Tryz.func89.trans (congrArg some (by kernel_rfl))
 f318 := Tryz.func91.trans (congrArg some (by kernel_rfl))
 f319 := Tryz.func92.trans (congrArg some (by kernel_rfl))
 f320 := Tryz.func93.trans (congrArg some (by kernel_rfl))
 f337 := Tryz.func97.trans (congrArg some (by kernel_rfl))
 f338 := Tryz.func98.trans (congrArg some (by kernel_rfl))
 t0 := Tryz.underlying0
 a0 := Tryz.isAgg0
 z0 := Tryz.sizeOf0
 v0 := Tryz.zeroValue0
 t2 := Tryz.underlying2
 a2 := Tryz.isAgg2
 z2 := Tryz.sizeOf2
 v2 := Tryz.zeroValue2
 t3 := Tryz.underlying3
 a3 := Tryz.isAgg3
 z3 := Tryz.sizeOf3
 v3 := Tryz.zeroValue3
 t4 := Tryz.underlying4
 a4 := Tryz.isAgg4
 z4 := Tryz.sizeOf4
 v4 := Tryz.zeroValue4
 t5 := Tryz.underlying5
 a5 := Tryz.isAgg5
 z5 := Tryz.sizeOf5
 v5 := Tryz.zeroValue5
 t9 := Tryz.underlying9
 a9 := Tryz.isAgg9
 z9 := Tryz.sizeOf9
 v9 := Tryz.zeroValue9
 t20 := Tryz.underlying20
 a20 := Tryz.isAgg20
 z20 := Tryz.sizeOf20
 v20 := Tryz.zeroValue20
 t37 := Tryz.underlying22
 a37 := Tryz.isAgg22
 z37 := Tryz.sizeOf22
 v37 := Tryz.zeroValue22
 t46 := Tryz.underlying87
 a46 := Tryz.isAgg87
 z46 := Tryz.sizeOf87
 v46 := Tryz.zeroValue87
 t51 := Tryz.underlying111
 a51 := Tryz.isAgg111
 z51 := Tryz.sizeOf111
 v51 := Tryz.zeroValue111
 t53 := Tryz.underlying94
 a53 := Tryz.isAgg94
 z53 := Tryz.sizeOf94
 v53 := Tryz.zeroValue94
 t171 := Tryz.underlying93
 a171 := Tryz.isAgg93
 z171 := Tryz.sizeOf93
 v171 := Tryz.zeroValue93
 t173 := Tryz.underlying97
 a173 := Tryz.isAgg97
 z173 := Tryz.sizeOf97
 v173 := Tryz.zeroValue97
 t212 := Tryz.underlying110
 a212 := Tryz.isAgg110
 z212 := Tryz.sizeOf110
 v212 := Tryz.zeroValue110
 t213 := Tryz.underlying112
 a213 := Tryz.isAgg112
 z213 := Tryz.sizeOf112
 t232 := Tryz.underlying124
 a232 := Tryz.isAgg124
 z232 := Tryz.sizeOf124
 v232 := Tryz.zeroValue124
 t233 := Tryz.underlying125
 a233 := Tryz.isAgg125
 z233 := Tryz.sizeOf125
 v233 := Tryz.zeroValue125
 g17 := by kernel_rfl
 g18 := by kernel_rfl
 g19 := by kernel_rfl
 i0 := by kernel_rfl
 i2 := by kernel_rfl
 i3 := by kernel_rfl
 i4 := by kernel_rfl
 i5 := by kernel_rfl
 i9 := by kernel_rfl
 i20 := by kernel_rfl
 i37 := by kernel_rfl
 i46 := by kernel_rfl
 i51 := by kernel_rfl
 i53 := by kernel_rfl
 i171 := by kernel_rfl
 i173 := by kernel_rfl
 i212 := by kernel_rfl
 i232 := by kernel_rfl
 i233 := by kernel_rfl
 m17 := by kernel_rfl
 m18 := by kernel_rfl
 m19 := by kernel_rfl }
theorem qzI {a0 : Int} {r : ByteArray} (h : strconv_Itoa.f a0 = some r) : AC Tryz.prog 34 [.v (.s (.int .i64 a0))] [.v .jk] [.v (.s (.string r))] := AC.of_itoa ⟨_, Tryz.func34, by rfl, by rfl⟩ (g := 0) (by kernel_rfl) (fun n h0 h1 w htab => Go.Proofs.Any.strconv_Itoa laysItoa n h0 h1 w htab) h
def qWH : Go.Shelf.Ren := ⟨fun | 156 => 35 | 165 => 58 | 166 => 59 | 169 => 60 | 240 => 73 | 241 => 74 | 276 => 82 | 277 => 83 | n => n, fun | 31 => 25 | 9 => 9 | 3 => 3 | 4 => 4 | 0 => 0 | 20 => 20 | 72 => 77 | 76 => 81 | 70 => 75 | 37 => 22 | 75 => 80 | 127 => 91 | 164 => 99 | 5 => 5 | 80 => 61 | n => n, fun | n => n⟩
theorem laysJoin : Go.Proofs.Lays.n156 Tryz.prog qWH := {
 mixed := by kernel_rfl
 f156 := Tryz.func35.trans (congrArg some (by kernel_rfl))
 f165 := Tryz.func58.trans (congrArg some (by kernel_rfl))
 f166 := Tryz.func59.trans (congrArg some (by kernel_rfl))
 f169 := Tryz.func60.trans (congrArg some (by kernel_rfl))
 f240 := Tryz.func73.trans (congrArg some (by kernel_rfl))
 f241 := Tryz.func74.trans (congrArg some (by kernel_rfl))
 f276 := Tryz.func82.trans (congrArg some (by kernel_rfl))
 f277 := Tryz.func83.trans (congrArg some (by kernel_rfl))
 t0 := Tryz.underlying0
 a0 := Tryz.isAgg0
 z0 := Tryz.sizeOf0
 v0 := Tryz.zeroValue0
 t3 := Tryz.underlying3
 a3 := Tryz.isAgg3
 z3 := Tryz.sizeOf3
 v3 := Tryz.zeroValue3
 t4 := Tryz.underlying4
 a4 := Tryz.isAgg4
 z4 := Tryz.sizeOf4
 v4 := Tryz.zeroValue4
 t9 := Tryz.underlying9
 a9 := Tryz.isAgg9
 z9 := Tryz.sizeOf9
 v9 := Tryz.zeroValue9
 t20 := Tryz.underlying20
 a20 := Tryz.isAgg20
 z20 := Tryz.sizeOf20
 v20 := Tryz.zeroValue20
 t31 := Tryz.underlying25
 a31 := Tryz.isAgg25
 z31 := Tryz.sizeOf25
 v31 := Tryz.zeroValue25
 t37 := Tryz.underlying22
 a37 := Tryz.isAgg22
 z37 := Tryz.sizeOf22
 v37 := Tryz.zeroValue22
 t70 := Tryz.underlying75
 a70 := Tryz.isAgg75
 z70 := Tryz.sizeOf75
 v70 := Tryz.zeroValue75
 t72 := Tryz.underlying77
 a72 := Tryz.isAgg77
 z72 := Tryz.sizeOf77
 v72 := Tryz.zeroValue77
 t75 := Tryz.underlying80
 a75 := Tryz.isAgg80
 z75 := Tryz.sizeOf80
 v75 := Tryz.zeroValue80
 t76 := Tryz.underlying81
 a76 := Tryz.isAgg81
 z76 := Tryz.sizeOf81
 v76 := Tryz.zeroValue81
 t127 := Tryz.underlying91
 a127 := Tryz.isAgg91
 z127 := Tryz.sizeOf91
 v127 := Tryz.zeroValue91
 t164 := Tryz.underlying99
 a164 := Tryz.isAgg99
 z164 := Tryz.sizeOf99
 v164 := Tryz.zeroValue99 }
theorem joinExtra : Builder.Extra Tryz.prog qWH := { sizeBuilder := by kernel_rfl, liesBuilder := by kernel_rfl, t5 := Tryz.underlying5, a5 := Tryz.isAgg5, z5 := Tryz.sizeOf5, v5 := Tryz.zeroValue5, infoByte := by kernel_rfl, cellsByte := by kernel_rfl, sizeByte := by kernel_rfl, neB5 := by decide }
theorem qTF {a0 : List ByteArray} {a1 r : ByteArray} (h : strings_Join.f a0 a1 = some r) : AC Tryz.prog 35 [.v (.im false (rowsOf Str_c a0)), .v (.s (.string a1))] [.v .jk, .v .jk] [.v (.s (.string r))] := AC.of_join (fun _ => rfl) ⟨_, Tryz.func35, by rfl, by rfl⟩ (fun a c sep w => Go.Proofs.Any.strings_Join_none laysJoin joinExtra a c sep w) (fun bk o c xs sep w h1 h2 h3 h4 h5 => Go.Proofs.Any.strings_Join laysJoin joinExtra bk o c xs sep w h1 h2 h3 h4 h5) h
theorem qgH (self : Json → Option ByteArray) (hself : ∀ {qE : Int} {a0v_N : Int} {a0v_S : ByteArray} {qB : List Json} {qC : List ByteArray} {r : ByteArray} (h : self (Json.mk qE a0v_N a0v_S qB qC) = some r), AC Tryz.prog 20 [.ag [.s (.int .i64 qE), .s (.int .i64 a0v_N), .s (.string a0v_S), .im false (rowsOf qN qB), .im false (rowsOf Str_c qC)]] [.ag [.jk, .jk, .jk, .jk, .jk]] [.v (.s (.string r))]) {qE : Int} {a0v_N : Int} {a0v_S : ByteArray} {qB : List Json} {qC : List ByteArray} {r : ByteArray} (h : qg.b self (Json.mk qE a0v_N a0v_S qB qC) = some r) : AC Tryz.prog 20 [.ag [.s (.int .i64 qE), .s (.int .i64 a0v_N), .s (.string a0v_S), .im false (rowsOf qN qB), .im false (rowsOf Str_c qC)]] [.ag [.jk, .jk, .jk, .jk, .jk]] [.v (.s (.string r))] := by
 unfold qg.b at h
 let qM := rowsOf qN
 let qD := rowsOf Str_c
 let qV := @lenI Json
 show AC Tryz.prog 20 [.ag [.s (.int .i64 qE), .s (.int .i64 a0v_N), .s (.string a0v_S), .im false (qM qB), .im false (qD qC)]] _ _
 refine run3 Tryz.func20 (by rfl) (by rfl) (by cbv) ⟨by decide, rfl⟩ ?_
 intro ar cm bo sc sa sx ss sl bs sb ln sr ap up rp fr ge le lt nz mm ma sm fl al ci hL F hP hA hT hM hC
 refine Run.seq ?_
 refine Run.region hL hT [] (by cbv) hq0 ?_
 refine Run.seq ?_
 refine Run.region hL hT [] (by cbv) hq0 ?_
 obtain ⟨K2, h_K2, h⟩ := joinE h
 refine Run.join1 K2 (r := r) (fun (y1 : List ByteArray) => ⟨66, 100000, [(1, .pt 1 0 0), (3, .rf 2)], [(1, .box 27 [.t (.s (.int .i64 qE)), .t (.s (.int .i64 a0v_N)), .t (.s (.string a0v_S)), .t (.im false (qM qB)), .t (.im false (qD qC))]), (2, .row 0 9 1 (qD y1))]⟩) ?_ ?_
 ·
  skip
  refine Run.seq ?_
  refine Run.region hL hT [] (by cbv) ?_ ?_
  · exact (hq Tt hq0)
  rw [show ln (qM qB) = qV qB from ln_eq qN _]
  refine Run.block ?_
  refine Run.loop2 (fun (z12 : List ByteArray) (z13 : Int) => ⟨66, 100000, [(1, .pt 1 0 0), (3, .rf 2), (9, .t (.im false (qM qB))), (10, .t (.s (.int .i64 (qV qB)))), (11, .t (.s (.int .i64 z13)))], [(1, .box 27 [.t (.s (.int .i64 qE)), .t (.s (.int .i64 a0v_N)), .t (.s (.string a0v_S)), .t (.im false (qM qB)), .t (.im false (qD qC))]), (2, .row 0 9 1 (qD z12))]⟩) (x0 := []) (x1 := 0) h (Weak.of _ [(1, 0), (2, 4096)] hA (by cbv) ?_) (fun _ _ => rfl) ?_
  · repeat (first | exact hq0 | refine hq (by first | exact Tt | rfl) ?_)
  intro k z12 z13 h
  rw [qg.l0] at h
  refine Run.seq ?_
  refine Run.region hL hT [] (by cbv) ?_ ?_
  · exact (hq Tt hq0)
  refine Run.seq ?_
  refine Run.cond (by cbv) (hq0) (fun c14 => ?_) (fun c14 => ?_)
  ·
   have h := if_t c14 h
   refine Run.skip ?_
   refine Run.seq ?_
   refine Run.block ?_
   refine Run.seq ?_
   obtain ⟨⟨qWR, qkU, qlU, qdP, qeP⟩, h_x15, h⟩ := bnd h
   refine Run.region hL hT [(1, .el [.s (.int .i64 qWR), .s (.int .i64 qkU), .s (.string qlU), .im false (qM qdP), .im false (qD qeP)])] (by cbv) ?_ ?_
   · exact (hq (qoB h_x15) (hq (qqB (f := qN) h_x15) (hq (qxE quC h_x15) (hq Tt hq0))))
   refine Run.seq ?_
   obtain ⟨r16, h_r16, h⟩ := bnd h
   refine Run.region hL hT [(1, .call [false] [.ag [.jk, .jk, .jk, .jk, .jk]] [.v (.s (.string r16))])] (by cbv) ?_ ?_
   · exact (hq Tt (hq (hC (hself h_r16)) hq0))
   refine Run.seq ?_
   refine Run.seq ?_
   refine Run.region hL hT [] (by cbv) ?_ ?_
   · exact (hq Tt (hq Tt hq0))
   refine Run.cond (by cbv) (hq0) (fun c17 => ?_) (fun c17 => ?_)
   ·
    have h := if_t c17 h
    obtain ⟨x18, h_x18, h⟩ := bnd h
    obtain ⟨r19, h_r19, h⟩ := bnd h
    obtain ⟨s20, h_s20, h⟩ := bnd h
    obtain ⟨s21, h_s21, h⟩ := bnd h
    refine Run.region hL hT [(3, .el [.s (.string x18)]), (5, .call [false] [.v (.jk)] [.v (.s (.string r19))]), (6, .hd [] (.t (.s (.string s20))) []), (8, .hd [] (.t (.s (.string s21))) [])] (by cbv) ?_ ?_
    · exact (hq Tt (hq (qoB h_x18) (hq (qqB (f := Str_c) h_x18) (hq (qdC (f := Str_c) h_x18) (hq (hC (qCG h_r19)) (hq (qyB h_s20) (hq (qyB h_s21) hq0)))))))
    obtain ⟨l22, h_l22, h⟩ := bnd h
    obtain ⟨l23, h_l23, h⟩ := bnd h
    refine Run.region hL hT [] (by cbv) ?_ ?_
    · exact (hq (qiB (P := Tryz.prog) (f := Str_c) RLe.r (qU (f := Str_c) h_l22 (RLe.cons rfl LLe.r RLe.nil)) h_l23) hq0)
    refine Run.row (rows := (ap (qD z12) ([[.s (.string s21)]]))) 120483 (qD l23) (by cbv) (qdB (f := Str_c) RLe.r (qU (f := Str_c) h_l22 (RLe.cons rfl LLe.r RLe.nil)) h_l23) ?_
    refine Run.region hL hT [] (by cbv) ?_ ?_
    · exact (hq Tt hq0)
    refine ⟨l23, (ar .add .i64 z13 1), h, Weak.of _ [(1, 1), (2, 120483)] hA (by cbv) ?_⟩
    repeat (first | exact hq0 | refine hq (by first | exact Tt | rfl) ?_)
   have h := if_f c17 h
   refine Run.skip ?_
   obtain ⟨l24, h_l24, h⟩ := bnd h
   obtain ⟨l25, h_l25, h⟩ := bnd h
   refine Run.region hL hT [] (by cbv) ?_ ?_
   · exact (hq (qiB (P := Tryz.prog) (f := Str_c) RLe.r (qU (f := Str_c) h_l24 (RLe.cons rfl LLe.r RLe.nil)) h_l25) hq0)
   refine Run.row (rows := (ap (qD z12) ([[.s (.string r16)]]))) 116387 (qD l25) (by cbv) (qdB (f := Str_c) RLe.r (qU (f := Str_c) h_l24 (RLe.cons rfl LLe.r RLe.nil)) h_l25) ?_
   refine Run.region hL hT [] (by cbv) ?_ ?_
   · exact (hq Tt hq0)
   refine ⟨l25, (ar .add .i64 z13 1), h, Weak.of _ [(1, 1), (2, 116387)] hA (by cbv) ?_⟩
   repeat (first | exact hq0 | refine hq (by first | exact Tt | rfl) ?_)
  have h := if_f c14 h
  refine Run.exit ?_
  refine ⟨z12, h, Weak.of _ [(1, 1), (2, 2)] hA (by cbv) ?_⟩
  repeat (first | exact hq0 | refine hq (by first | exact Tt | rfl) ?_)
 intro y1 h
 rw [h_K2] at h
 refine Run.seq ?_
 refine Run.seq ?_
 refine Run.region hL hT [] (by cbv) ?_ ?_
 · exact (hq Tt hq0)
 refine Run.block ?_
 refine Run.seq ?_
 refine Run.region hL hT [] (by cbv) ?_ ?_
 · exact (hq Tt hq0)
 refine Run.cond (by cbv) (hq0) (fun c26 => ?_) (fun c26 => ?_)
 ·
  have h := if_t c26 h
  refine Run.seq ?_
  refine Run.region hL hT [] (by cbv) hq0 ?_
  refine Run.ret ?_
  cases h
  refine ⟨_, _, by cbv, ?_, ?_⟩
  · exact LLe.r
  exact (ALe.v LLe.r ALe.nil)
 have h := if_f c26 h
 refine Run.seq ?_
 refine Run.region hL hT [] (by cbv) ?_ ?_
 · exact (hq Tt hq0)
 refine Run.cond (by cbv) (hq0) (fun c27 => ?_) (fun c27 => ?_)
 ·
  have h := if_t c27 h
  refine Run.seq ?_
  obtain ⟨l28, h_l28, h⟩ := bnd h
  obtain ⟨x29, h_x29, h⟩ := bnd h
  refine Run.region hL hT [(4, .el [.s (.string x29)])] (by cbv) ?_ ?_
  · exact (hq Tt (hq (qoB h_x29) (hq (qzS (f := Str_c) h_l28 h_x29) (hq (qoB h_x29) (hq (qzS (f := Str_c) h_l28 h_x29) (hq (qOU (f := Str_c) h_l28 h_x29) hq0))))))
  refine Run.row (rows := [[.s (.string (ByteArray.mk #[102, 97, 108, 115, 101]))], [.s (.string (ByteArray.mk #[116, 114, 117, 101]))]]) 112288 (qD l28) (by cbv) (qU (f := Str_c) h_l28 (RLe.cons rfl LLe.r (RLe.cons rfl LLe.r RLe.nil))) ?_
  refine Run.ret ?_
  cases h
  refine ⟨_, _, by cbv, ?_, ?_⟩
  · exact LLe.r
  exact (ALe.v LLe.r ALe.nil)
 have h := if_f c27 h
 refine Run.seq ?_
 refine Run.region hL hT [] (by cbv) ?_ ?_
 · exact (hq Tt hq0)
 refine Run.cond (by cbv) (hq0) (fun c30 => ?_) (fun c30 => ?_)
 ·
  have h := if_t c30 h
  refine Run.seq ?_
  obtain ⟨r31, h_r31, h⟩ := bnd h
  refine Run.region hL hT [(2, .call [false] [.v (.jk)] [.v (.s (.string r31))])] (by cbv) ?_ ?_
  · exact (hq Tt (hq (hC (qzI h_r31)) hq0))
  refine Run.ret ?_
  cases h
  refine ⟨_, _, by cbv, ?_, ?_⟩
  · exact LLe.r
  exact (ALe.v LLe.r ALe.nil)
 have h := if_f c30 h
 refine Run.seq ?_
 refine Run.region hL hT [] (by cbv) ?_ ?_
 · exact (hq Tt hq0)
 refine Run.cond (by cbv) (hq0) (fun c32 => ?_) (fun c32 => ?_)
 ·
  have h := if_t c32 h
  refine Run.seq ?_
  obtain ⟨r33, h_r33, h⟩ := bnd h
  refine Run.region hL hT [(2, .call [false] [.v (.jk)] [.v (.s (.string r33))])] (by cbv) ?_ ?_
  · exact (hq Tt (hq (hC (qCG h_r33)) hq0))
  refine Run.ret ?_
  cases h
  refine ⟨_, _, by cbv, ?_, ?_⟩
  · exact LLe.r
  exact (ALe.v LLe.r ALe.nil)
 have h := if_f c32 h
 refine Run.seq ?_
 refine Run.region hL hT [] (by cbv) ?_ ?_
 · exact (hq Tt hq0)
 refine Run.cond (by cbv) (hq0) (fun c34 => ?_) (fun c34 => ?_)
 ·
  have h := if_t c34 h
  refine Run.seq ?_
  obtain ⟨r35, h_r35, h⟩ := bnd h
  obtain ⟨s36, h_s36, h⟩ := bnd h
  obtain ⟨s37, h_s37, h⟩ := bnd h
  refine Run.region hL hT [(1, .call [false, false] [.v (.jk), .v (.jk)] [.v (.s (.string r35))]), (2, .hd [] (.t (.s (.string s36))) []), (3, .hd [] (.t (.s (.string s37))) [])] (by cbv) ?_ ?_
  · exact (hq (hC (AC.args (qTF h_r35) (ALe.v (LLe.im (RLe.eq (qxB qwB _))) (ALe.v LLe.r ALe.nil)))) (hq (qyB h_s36) (hq (qyB h_s37) hq0)))
  refine Run.ret ?_
  cases h
  refine ⟨_, _, by cbv, ?_, ?_⟩
  · exact LLe.r
  exact (ALe.v LLe.r ALe.nil)
 have h := if_f c34 h
 refine Run.skip ?_
 refine Run.seq ?_
 obtain ⟨r38, h_r38, h⟩ := bnd h
 obtain ⟨s39, h_s39, h⟩ := bnd h
 obtain ⟨s40, h_s40, h⟩ := bnd h
 refine Run.region hL hT [(1, .call [false, false] [.v (.jk), .v (.jk)] [.v (.s (.string r38))]), (2, .hd [] (.t (.s (.string s39))) []), (3, .hd [] (.t (.s (.string s40))) [])] (by cbv) ?_ ?_
 · exact (hq (hC (AC.args (qTF h_r38) (ALe.v (LLe.im (RLe.eq (qxB qwB _))) (ALe.v LLe.r ALe.nil)))) (hq (qyB h_s39) (hq (qyB h_s40) hq0)))
 refine Run.ret ?_
 cases h
 refine ⟨_, _, by cbv, ?_, ?_⟩
 · exact LLe.r
 exact (ALe.v LLe.r ALe.nil)
theorem qjE : ∀ (k : Nat) {qE : Int} {a0v_N : Int} {a0v_S : ByteArray} {qB : List Json} {qC : List ByteArray} {r : ByteArray} (h : qg.g k (Json.mk qE a0v_N a0v_S qB qC) = some r), AC Tryz.prog 20 [.ag [.s (.int .i64 qE), .s (.int .i64 a0v_N), .s (.string a0v_S), .im false (rowsOf qN qB), .im false (rowsOf Str_c qC)]] [.ag [.jk, .jk, .jk, .jk, .jk]] [.v (.s (.string r))]
 | 0 => fun h => by cases h
 | k + 1 => fun h => qgH (qg.g k) (qjE k) h
theorem qAJ {qE : Int} {a0v_N : Int} {a0v_S : ByteArray} {qB : List Json} {qC : List ByteArray} {r : ByteArray} (h : qg.f (Json.mk qE a0v_N a0v_S qB qC) = some r) : AC Tryz.prog 20 [.ag [.s (.int .i64 qE), .s (.int .i64 a0v_N), .s (.string a0v_S), .im false (rowsOf qN qB), .im false (rowsOf Str_c qC)]] [.ag [.jk, .jk, .jk, .jk, .jk]] [.v (.s (.string r))] := qjE 20 h
theorem qKD {qE : Int} {a0v_N : Int} {a0v_S : ByteArray} {qB : List Json} {qC : List ByteArray} {r : ByteArray} (h : qHC.f (Json.mk qE a0v_N a0v_S qB qC) = some r) : AC Tryz.prog 6 [.ag [.s (.int .i64 qE), .s (.int .i64 a0v_N), .s (.string a0v_S), .im false (rowsOf qN qB), .im false (rowsOf Str_c qC)]] [.ag [.jk, .jk, .jk, .jk, .jk]] [.v (.s (.string r))] := by
 unfold qHC.f at h
 let qM := rowsOf qN
 let qD := rowsOf Str_c
 show AC Tryz.prog 6 [.ag [.s (.int .i64 qE), .s (.int .i64 a0v_N), .s (.string a0v_S), .im false (qM qB), .im false (qD qC)]] _ _
 refine run3 Tryz.func6 (by rfl) (by rfl) (by cbv) ⟨by decide, rfl⟩ ?_
 intro ar cm bo sc sa sx ss sl bs sb ln sr ap up rp fr ge le lt nz mm ma sm fl al ci hL F hP hA hT hM hC
 refine Run.seq ?_
 refine Run.region hL hT [] (by cbv) hq0 ?_
 refine Run.seq ?_
 refine Run.seq ?_
 obtain ⟨r1, h_r1, h⟩ := bnd h
 refine Run.region hL hT [(1, .call [false] [.ag [.jk, .jk, .jk, .jk, .jk]] [.v (.s (.bool r1))])] (by cbv) ?_ ?_
 · exact (hq Tt (hq (hC (qJD h_r1)) hq0))
 refine Run.cond (by cbv) (hq0) (fun c2 => ?_) (fun c2 => ?_)
 ·
  have h := if_t c2 h
  refine Run.seq ?_
  refine Run.region hL hT [] (by cbv) hq0 ?_
  refine Run.ret ?_
  cases h
  refine ⟨_, _, by cbv, ?_, ?_⟩
  · exact LLe.r
  exact (ALe.v LLe.r ALe.nil)
 have h := if_f c2 h
 refine Run.skip ?_
 refine Run.seq ?_
 obtain ⟨r3, h_r3, h⟩ := bnd h
 refine Run.region hL hT [(1, .call [false] [.ag [.jk, .jk, .jk, .jk, .jk]] [.v (.s (.string r3))])] (by cbv) ?_ ?_
 · exact (hq Tt (hq (hC (qAJ h_r3)) hq0))
 refine Run.seq ?_
 refine Run.seq ?_
 refine Run.region hL hT [] (by cbv) ?_ ?_
 · exact (hq Tt hq0)
 refine Run.cond (by cbv) (hq0) (fun c4 => ?_) (fun c4 => ?_)
 ·
  have h := if_t c4 h
  refine Run.seq ?_
  refine Run.region hL hT [] (by cbv) hq0 ?_
  refine Run.ret ?_
  cases h
  refine ⟨_, _, by cbv, ?_, ?_⟩
  · exact LLe.r
  exact (ALe.v LLe.r ALe.nil)
 have h := if_f c4 h
 refine Run.skip ?_
 refine Run.seq ?_
 refine Run.region hL hT [] (by cbv) hq0 ?_
 refine Run.ret ?_
 cases h
 refine ⟨_, _, by cbv, ?_, ?_⟩
 · exact LLe.r
 exact (ALe.v LLe.r ALe.nil)
theorem qCL {a0 : ByteArray} {r : ByteArray} (h : qfD.f a0 = some r) : AC Tryz.prog 13 [.v (.s (.string a0))] [.v (.jk)] [.v (.s (.string r))] := by
 unfold qfD.f at h
 let qh := rowsOf qx
 let qD := rowsOf Str_c
 show AC Tryz.prog 13 [.v (.s (.string a0))] _ _
 refine run3 Tryz.func13 (by rfl) (by rfl) (by cbv) ⟨by decide, rfl⟩ ?_
 intro ar cm bo sc sa sx ss sl bs sb ln sr ap up rp fr ge le lt nz mm ma sm fl al ci hL F hP hA hT hM hC
 refine Run.seq ?_
 refine Run.region hL hT [] (by cbv) hq0 ?_
 refine Run.seq ?_
 obtain ⟨⟨qmG, r1v_N, r1v_S, qRF, qSF⟩, h_r1, h⟩ := bnd h
 obtain ⟨r2, h_r2, h⟩ := bnd h
 refine Run.region hL hT [(1, .call [false] [.v (.jk)] [.ag [.s (.int .i64 qmG), .s (.int .i64 r1v_N), .s (.string r1v_S), .ow 27 (qh qRF), .ow 9 (qD qSF)]]), (2, .call [false] [.ag [.jk, .jk, .jk, .jk, .jk]] [.v (.s (.string r2))])] (by cbv) ?_ ?_
 · exact (hq (hC (qTJ h_r1)) (hq (hC (AC.args (qKD h_r2) (ALe.ag rfl (LLe.c (LLe.c (LLe.c (LLe.cons (LLe.im (RLe.eq (qxB qxD _))) (LLe.cons (LLe.im (RLe.eq (qxB qwB _))) LLe.nil))))) ALe.nil))) hq0))
 refine Run.ret ?_
 cases h
 refine ⟨_, _, by cbv, ?_, ?_⟩
 · exact LLe.r
 exact (ALe.v LLe.r ALe.nil)
theorem qDG {a0 : ByteArray} {r : Json} (h : qCD.f a0 = some r) : AC Tryz.prog 17 [.v (.s (.string a0))] [.v (.jk)] [.ag [.s (.int .i64 r.Kind), .s (.int .i64 r.N), .s (.string r.S), .ow 27 (rowsOf qx r.List_), .ow 9 (rowsOf Str_c r.Names)]] := by
 unfold qCD.f at h
 show AC Tryz.prog 17 [.v (.s (.string a0))] _ _
 refine run3 Tryz.func17 (by rfl) (by rfl) (by cbv) ⟨by decide, rfl⟩ ?_
 intro ar cm bo sc sa sx ss sl bs sb ln sr ap up rp fr ge le lt nz mm ma sm fl al ci hL F hP hA hT hM hC
 refine Run.seq ?_
 refine Run.region hL hT [] (by cbv) hq0 ?_
 refine Run.seq ?_
 refine Run.region hL hT [] (by cbv) ?_ ?_
 · exact (hq Tt hq0)
 refine Run.seq ?_
 refine Run.seq ?_
 obtain ⟨r1, h_r1, h⟩ := bnd h
 refine Run.region hL hT [(1, .call [false] [.ag [.jk, .jk, .jk, .jk, .jk]] [.v (.s (.bool r1))])] (by cbv) ?_ ?_
 · exact (hq Tt (hq (hC (AC.args (qAG h_r1) (ALe.ag rfl (LLe.c (LLe.c (LLe.c (LLe.cons LLe.nilI (LLe.cons LLe.nilI LLe.nil))))) ALe.nil))) hq0))
 refine Run.cond (by cbv) (hq0) (fun c2 => ?_) (fun c2 => ?_)
 ·
  have h := if_t c2 h
  refine Run.seq ?_
  refine Run.region hL hT [] (by cbv) ?_ ?_
  · exact (hq Tt hq0)
  refine Run.ret ?_
  cases h
  refine ⟨_, _, by cbv, ?_, ?_⟩
  · exact LLe.r
  exact (ALe.ag rfl (LLe.c (LLe.c (LLe.c (LLe.cons LLe.nilO (LLe.cons LLe.nilO LLe.nil))))) ALe.nil)
 have h := if_f c2 h
 refine Run.skip ?_
 refine Run.seq ?_
 refine Run.region hL hT [] (by cbv) ?_ ?_
 · exact (hq Tt (hq Tt hq0))
 refine Run.ret ?_
 cases h
 refine ⟨_, _, by cbv, ?_, ?_⟩
 · exact LLe.r
 exact (ALe.ag rfl (LLe.c (LLe.c (LLe.c (LLe.cons LLe.nilO (LLe.cons LLe.nilO LLe.nil))))) ALe.nil)
theorem qDL {a0 : ByteArray} {r : ByteArray} (h : qgD.f a0 = some r) : AC Tryz.prog 14 [.v (.s (.string a0))] [.v (.jk)] [.v (.s (.string r))] := by
 unfold qgD.f at h
 let qh := rowsOf qx
 let qD := rowsOf Str_c
 show AC Tryz.prog 14 [.v (.s (.string a0))] _ _
 refine run3 Tryz.func14 (by rfl) (by rfl) (by cbv) ⟨by decide, rfl⟩ ?_
 intro ar cm bo sc sa sx ss sl bs sb ln sr ap up rp fr ge le lt nz mm ma sm fl al ci hL F hP hA hT hM hC
 refine Run.seq ?_
 refine Run.region hL hT [] (by cbv) hq0 ?_
 refine Run.seq ?_
 obtain ⟨⟨qmG, r1v_N, r1v_S, qRF, qSF⟩, h_r1, h⟩ := bnd h
 obtain ⟨r2, h_r2, h⟩ := bnd h
 refine Run.region hL hT [(1, .call [false] [.v (.jk)] [.ag [.s (.int .i64 qmG), .s (.int .i64 r1v_N), .s (.string r1v_S), .ow 27 (qh qRF), .ow 9 (qD qSF)]]), (2, .call [false] [.ag [.jk, .jk, .jk, .jk, .jk]] [.v (.s (.string r2))])] (by cbv) ?_ ?_
 · exact (hq (hC (qDG h_r1)) (hq (hC (AC.args (qHD h_r2) (ALe.ag rfl (LLe.c (LLe.c (LLe.c (LLe.cons (LLe.im (RLe.eq (qxB qxD _))) (LLe.cons (LLe.im (RLe.eq (qxB qwB _))) LLe.nil))))) ALe.nil))) hq0))
 refine Run.ret ?_
 cases h
 refine ⟨_, _, by cbv, ?_, ?_⟩
 · exact LLe.r
 exact (ALe.v LLe.r ALe.nil)
theorem qwN {a0 : List Int} {r : Bool} (h : qaG.f a0 = some r) : AC Tryz.prog 4 [.v (.im false (rowsOf u8_c a0))] [.v (.jk)] [.v (.s (.bool r))] := by
 unfold qaG.f at h
 let eu8_c := rowsOf u8_c
 let qaE := @lenI Int
 show AC Tryz.prog 4 [.v (.im false (eu8_c a0))] _ _
 refine run3 Tryz.func4 (by rfl) (by rfl) (by cbv) ⟨by decide, rfl⟩ ?_
 intro ar cm bo sc sa sx ss sl bs sb ln sr ap up rp fr ge le lt nz mm ma sm fl al ci hL F hP hA hT hM hC
 refine Run.seq ?_
 refine Run.region hL hT [] (by cbv) hq0 ?_
 refine Run.seq ?_
 refine Run.region hL hT [] (by cbv) ?_ ?_
 · exact (hq Tt hq0)
 rw [show ln (eu8_c a0) = qaE a0 from ln_eq u8_c _]
 refine Run.ret ?_
 cases h
 refine ⟨_, _, by cbv, ?_, ?_⟩
 · exact LLe.r
 exact (ALe.v LLe.r ALe.nil)
theorem qUJ {a0v_b : List Int} {a0v_i : Int} {a0v_h : Int} {a1 : Int} {r : l1Cur × Bool} (h : qoD.f (l1Cur.mk a0v_b a0v_i a0v_h) a1 = some r) : AC Tryz.prog 16 [.v (.bx 53 [.im true (rowsOf u8_c a0v_b), .s (.int .i64 a0v_i), .s (.int .i64 a0v_h)]), .v (.s (.int .i64 a1))] [.v (.bx 53 [.im true (rowsOf u8_c a0v_b), .s (.int .i64 r.1.i), .s (.int .i64 r.1.h)]), .v (.jk)] [.v (.s (.bool r.2))] := by
 unfold qoD.f at h
 let eu8_c := rowsOf u8_c
 show AC Tryz.prog 16 [.v (.bx 53 [.im true (eu8_c a0v_b), .s (.int .i64 a0v_i), .s (.int .i64 a0v_h)]), .v (.s (.int .i64 a1))] _ _
 refine run3 Tryz.func16 (by rfl) (by rfl) (by cbv) ⟨by decide, rfl⟩ ?_
 intro ar cm bo sc sa sx ss sl bs sb ln sr ap up rp fr ge le lt nz mm ma sm fl al ci hL F hP hA hT hM hC
 refine Run.seq ?_
 refine Run.region hL hT [] (by cbv) hq0 ?_
 refine Run.seq ?_
 obtain ⟨⟨⟨qgG, qbC, qcC⟩, r1v_2⟩, h_r1, h⟩ := bnd h
 refine Run.region hL hT [(2, .call [true, false] [.v (.bx 53 [.im true (eu8_c a0v_b), .s (.int .i64 qbC), .s (.int .i64 qcC)]), .v (.jk)] [.v (.s (.int .i64 r1v_2))])] (by cbv) ?_ ?_
 · exact (hq (hC (qa h_r1)) (hq Tt hq0))
 refine Run.ret ?_
 cases h
 refine ⟨_, _, by cbv, ?_, ?_⟩
 · exact LLe.r
 exact (ALe.v LLe.r ALe.nil)
end Go.Proofs.YtcpekllcbimpmaaGreatDoor.L