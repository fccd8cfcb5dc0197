/- The contracts of the program's functions. -/
import Derived.Test.YtbhleignjmcdiaaGreatDoorProg
import Derived.Test.YtbhleignjmcdiaaGreatDoorFnViewsU
import Derived.KernelRfl
namespace Go.Proofs.YtbhleignjmcdiaaGreatDoor.L
open Go Go.Proofs
theorem Tt : True := True.intro
theorem zn {p : Prop} : p → AllP [] := fun _ => hq0
theorem zt : AllP [True] := ⟨Tt, hq0⟩
set_option linter.unusedVariables false
set_option linter.unusedSimpArgs false
set_option maxRecDepth 8000
def u8_c (x : Int) : List T := [.s (.int .u8 x)]
def Int_c (x : Int) : List T := [.s (.int .i64 x)]
theorem qqe : ∀ x, (Int_c x).length = 1 := fun _ => rfl
theorem qsT : ∀ x, (Int_c x).length = 1 ∧ ∀ c ∈ Int_c x, ∃ v, c = T.s v := fun x => ⟨rfl, by simp [Int_c]⟩
theorem qJC : ∀ x, fzL (Int_c x) = Int_c x := fun _ => rfl
def Row_i (x : Row) : List T := [.s (.int .i64 x.Id), .im false (rowsOf Int_c x.Cells)]
theorem qre : ∀ x, (Row_i x).length = 2 := fun _ => rfl
def quC (x : (List Row)) : List T := [.im false (rowsOf Row_i x)]
def qR (x : Cond) : List T := [.s (.int .i64 x.Col), .s (.int .i64 x.Op), .s (.int .i64 x.V)]
theorem qDY : ∀ x, (qR x).length = 3 ∧ ∀ c ∈ qR x, ∃ v, c = T.s v := fun x => ⟨rfl, by simp [qR]⟩
theorem qLE : ∀ x, fzL (qR x) = qR x := fun _ => rfl
def Row_o (x : Row) : List T := [.s (.int .i64 x.Id), .ow 3 (rowsOf Int_c x.Cells)]
theorem qgN : ∀ x, (Row_o x).length = 2 := fun _ => rfl
theorem qFF : ∀ x, fzL (Row_o x) = Row_i x := by
 intro x; simp only [Row_o, Row_i, fzL, T.fz, qIT qJC]
def Kid_c (x : Kid) : List T := [.s (.int .i64 x.Id), .s (.int .i64 x.N)]
theorem qAb : ∀ x, (Kid_c x).length = 2 ∧ ∀ c ∈ Kid_c x, ∃ v, c = T.s v := fun x => ⟨rfl, by simp [Kid_c]⟩
theorem qGF : ∀ x, fzL (Kid_c x) = Kid_c x := fun _ => rfl
def Str_c (x : ByteArray) : List T := [.s (.string x)]
theorem qhN : ∀ x, fzL (Str_c x) = Str_c x := fun _ => rfl
mutual
def qiB : Json → List T
 | ⟨x_Kind, x_N, x_S, x_List_, x_Names⟩ => [.s (.int .i64 x_Kind), .s (.int .i64 x_N), .s (.string x_S), .im false (qtT x_List_), .im false (rowsOf Str_c x_Names)]
def qtT : List Json → Rws
 | [] => []
 | x :: l => qiB x :: qtT l
end
theorem qhV : ∀ l, qtT l = rowsOf qiB l
 | [] => rfl
 | x :: l => by rw [qtT, qhV l]; rfl
def qBb (x : Json) : List T := [.s (.int .i64 x.Kind), .s (.int .i64 x.N), .s (.string x.S), .im false (rowsOf qiB x.List_), .im false (rowsOf Str_c x.Names)]
theorem qlI : ∀ x, qiB x = qBb x
 | ⟨x_Kind, x_N, x_S, x_List_, x_Names⟩ => by rw [qiB, qhV]; rfl
theorem qEY : ∀ x, (qiB x).length = 5 := fun x => by rw [qlI]; rfl
mutual
def qWL : Json → List T
 | ⟨x_Kind, x_N, x_S, x_List_, x_Names⟩ => [.s (.int .i64 x_Kind), .s (.int .i64 x_N), .s (.string x_S), .im true (quT x_List_), .im true (rowsOf Str_c x_Names)]
def quT : List Json → Rws
 | [] => []
 | x :: l => qWL x :: quT l
end
theorem qiV : ∀ l, quT l = rowsOf qWL l
 | [] => rfl
 | x :: l => by rw [quT, qiV l]; rfl
def qse (x : Json) : List T := [.s (.int .i64 x.Kind), .s (.int .i64 x.N), .s (.string x.S), .im true (rowsOf qWL x.List_), .im true (rowsOf Str_c x.Names)]
theorem qvT : ∀ x, qWL x = qse x
 | ⟨x_Kind, x_N, x_S, x_List_, x_Names⟩ => by rw [qWL, qiV]; rfl
theorem qFY : ∀ x, (qWL x).length = 5 := fun x => by rw [qvT]; rfl
mutual
theorem qzY {P : Program} : ∀ x, KLL P (qiB x) (qWL x)
 | ⟨x_Kind, x_N, x_S, x_List_, x_Names⟩ => by
  rw [qlI, qvT]; exact (KLL.c (KLL.c (KLL.c (KLL.cons (KLL.im (qbS x_List_)) (KLL.cons (KLL.im KRe.r) KLL.r)))))
theorem qbS {P : Program} : ∀ l, KRe P (rowsOf qiB l) (rowsOf qWL l)
 | [] => KRe.nil
 | x :: l => KRe.cons (by rw [qEY, qFY]) (qzY x) (qbS l)
end
mutual
theorem qAZ {P : Program} : ∀ x, LLe P (qWL x) (qiB x)
 | ⟨x_Kind, x_N, x_S, x_List_, x_Names⟩ => by
  rw [qlI, qvT]; exact (LLe.c (LLe.c (LLe.c (LLe.cons (zu (qjV x_List_)) (LLe.cons (zu RLe.r) LLe.nil)))))
theorem qjV {P : Program} : ∀ l, RLe P (rowsOf qWL l) (rowsOf qiB l)
 | [] => RLe.nil
 | x :: l => RLe.cons (by rw [qEY, qFY]) (qAZ x) (qjV l)
end
mutual
def qYD : Json → List T
 | ⟨x_Kind, x_N, x_S, x_List_, x_Names⟩ => [.s (.int .i64 x_Kind), .s (.int .i64 x_N), .s (.string x_S), .ow 46 (qwT x_List_), .ow 9 (rowsOf Str_c x_Names)]
def qwT : List Json → Rws
 | [] => []
 | x :: l => qYD x :: qwT l
end
theorem qkV : ∀ l, qwT l = rowsOf qYD l
 | [] => rfl
 | x :: l => by rw [qwT, qkV l]; rfl
def qCb (x : Json) : List T := [.s (.int .i64 x.Kind), .s (.int .i64 x.N), .s (.string x.S), .ow 46 (rowsOf qYD x.List_), .ow 9 (rowsOf Str_c x.Names)]
theorem qfM : ∀ x, qYD x = qCb x
 | ⟨x_Kind, x_N, x_S, x_List_, x_Names⟩ => by rw [qYD, qkV]; rfl
mutual
theorem qgM : ∀ x, fzL (qYD x) = qiB x
 | ⟨x_Kind, x_N, x_S, x_List_, x_Names⟩ => by
  rw [qfM, qlI]; simp only [qCb, qBb, fzL, T.fz, qIT qhN, qlV x_List_]
theorem qlV : ∀ l, fzR (rowsOf qYD l) = rowsOf qiB l
 | [] => rfl
 | x :: l => by
  show fzR (qYD x :: rowsOf qYD l) = qiB x :: rowsOf qiB l
  rw [fzR, qgM x, qlV l]
end
def qYE (x : (List Row)) : List T := [.ow 56 (rowsOf Row_o x)]
theorem qCd : ∀ x, (qYE x).length = 1 := fun _ => rfl
theorem qFL : ∀ x, fzL (qYE x) = quC x := by
 intro x; simp only [qYE, quC, fzL, T.fz, qIT qFF]
def Row_k (x : Row) : List T := [.s (.int .i64 x.Id), .im true (rowsOf Int_c x.Cells)]
theorem qte : ∀ x, fzL (Row_k x) = Row_i x := fun _ => rfl
theorem qDd : ∀ x, kpL (Row_o x) = Row_k x := by
 intro x; simp only [Row_o, Row_k, kpL, List.map_cons, List.map_nil, kpT, qIT qJC]
def tab : List (Nat × Ty) := [(3, Ty.mk false 1 8 0 [] [.int .i64 0] (some .i64) false false false false none),
 (4, Ty.mk false 1 1 0 [] [.bool false] (none) true false false false none),
 (5, Ty.mk false 1 1 0 [] [.int .u8 0] (some .u8) false false false false none),
 (9, Ty.mk false 1 16 0 [] [.string ByteArray.empty] (none) false false false true none),
 (22, Ty.mk false 1 24 5 [] [.slice none 0 0] (none) false false true false none),
 (24, Ty.mk false 1 24 3 [] [.slice none 0 0] (none) false false true false none),
 (26, Ty.mk true 1 24 0 [(0, 1)] [.slice none 0 0] (none) false false false false none),
 (27, Ty.mk false 1 24 50 [] [.slice none 0 0] (none) false false true false none),
 (29, Ty.mk true 3 56 0 [(0, 1), (1, 1), (2, 1)] [.slice none 0 0, .int .i64 0, .slice none 0 0] (none) false false false false none),
 (30, Ty.mk false 1 24 98 [] [.slice none 0 0] (none) false false true false none),
 (32, Ty.mk true 9 104 0 [(0, 1), (1, 1), (2, 1), (3, 1), (4, 1), (5, 1), (6, 1), (7, 1), (8, 1)] [.int .i64 0, .slice none 0 0, .int .i64 0, .bool false, .int .i64 0, .slice none 0 0, .bool false, .int .i64 0, .int .i64 0] (none) false false false false none),
 (43, Ty.mk false 1 24 46 [] [.slice none 0 0] (none) false false true false none),
 (44, Ty.mk false 1 24 9 [] [.slice none 0 0] (none) false false true false none),
 (46, Ty.mk true 5 80 0 [(0, 1), (1, 1), (2, 1), (3, 1), (4, 1)] [.int .i64 0, .int .i64 0, .string ByteArray.empty, .slice none 0 0, .slice none 0 0] (none) false false false false none),
 (50, Ty.mk false 1 24 56 [] [.slice none 0 0] (none) false false true false none),
 (56, Ty.mk true 2 32 0 [(0, 1), (1, 1)] [.int .i64 0, .slice none 0 0] (none) false false false false none),
 (61, Ty.mk false 1 24 109 [] [.slice none 0 0] (none) false false true false none),
 (63, Ty.mk true 11 152 0 [(0, 9), (9, 1), (10, 1)] [.int .i64 0, .slice none 0 0, .int .i64 0, .bool false, .int .i64 0, .slice none 0 0, .bool false, .int .i64 0, .int .i64 0, .slice none 0 0, .slice none 0 0] (none) false false false false none),
 (73, Ty.mk false 1 8 0 [] [.pointer none] (none) false false false false none),
 (98, Ty.mk true 3 24 0 [(0, 1), (1, 1), (2, 1)] [.int .i64 0, .int .i64 0, .int .i64 0] (none) false false false false (some [.i64, .i64, .i64])),
 (109, Ty.mk true 2 16 0 [(0, 1), (1, 1)] [.int .i64 0, .int .i64 0] (none) false false false false (some [.i64, .i64])),
 (119, Ty.mk true 3 40 0 [(0, 1), (1, 1), (2, 1)] [.slice none 0 0, .int .i64 0, .int .i64 0] (none) false false false false none),
 (152, Ty.mk false 1 8 0 [] [.int .u64 0] (some .u64) false false false false none)]
theorem qUF : TabOk Tryz.prog tab := TabOk.of (l := [(3, false), (4, false), (5, false), (9, false), (22, false), (24, false), (26, false), (27, false), (29, false), (30, false), (32, false), (43, false), (44, false), (46, false), (50, false), (56, false), (61, false), (63, false), (73, false), (98, true), (109, true), (119, false), (152, false)]) (by kernel_rfl)
theorem mixed : Tryz.prog.follows .mixedOrders = true := by rfl
theorem run3 {f : FuncId} {fn : Func} {c : Code} {args outs res : List A} {σ : St} {ds : List (Option Nat)} (hf : Tryz.prog.funcs[f]? = some fn) (hnm : (fn.name == "runtime.NumGoroutine") = false) (hb : fn.body = some c) (he : entry tab fn.ntmps args = some (σ, ds)) (hds : (idsOf ds).Nodup ∧ ds.length = (acells args).length)
  (h : let ar := Ls.ar; let cm := Ls.cm; let bo := Ls.bo; let sc := Ls.sc; let sa := Ls.sa; let sx := Ls.sx; let ss := Ls.ss; let sl := Ls.sl; let bs := Ls.bs; let sb := Ls.sb; let ln := Ls.ln; let sr := Ls.sr; let ap := Ls.ap; let up := Ls.up; let rp := Ls.rp; let fr := Ls.fr; let ge := Ls.ge; let le := Ls.le; let lt := Ls.lt; let nz := Ls.nz; let mm := Ls.mm; let ma := Ls.ma; let sm := Ls.sm; let fl := Ls.fl; let al := Ls.al; let ci := Ls.ci; (⟨ar, cm, bo, sc, sa, sx, ss, sl, bs, sb, ln, sr, ap, up, rp, fr, ge, le, lt, nz, mm, ma, sm, fl, al, ci⟩ : Lf) = Ls → ∀ F : Fr, F.P = Tryz.prog → (∀ i v, F.anc i = some v → i ∈ idsOf ds) → TabOk F.P tab → F.P.follows .mixedOrders = true → (∀ {f a o r}, AC Tryz.prog f a o r → AC F.P f a o r) → Run F σ c (endQ (EndL Tryz.prog tab fn.results.toList ds outs res))) : AC Tryz.prog f args outs res :=
 zY qUF hf hnm hb he hds fun F hP hA => h rfl F hP hA (hP ▸ qUF) (hP ▸ mixed) fun h => hP ▸ h
theorem qHC {a0 a1 a2 : Int} {r : Bool} (h : qXC.f a0 a1 a2 = some r) : AC Tryz.prog 43 [.v (.s (.int .i64 a0)), .v (.s (.int .i64 a1)), .v (.s (.int .i64 a2))] [.v (.jk), .v (.jk), .v (.jk)] [.v (.s (.bool r))] := by
 unfold qXC.f at h
 show AC _ _ [.v (.s (.int .i64 a0)), .v (.s (.int .i64 a1)), .v (.s (.int .i64 a2))] _ _
 refine run3 Tryz.func43 (by rfl) (by rfl) (by cbv) ⟨by decide, rfl⟩ ?_; intro ar cm bo sc sa sx ss sl bs sb ln sr ap up rp fr ge le lt nz mm ma sm fl al ci hL F hP hA hT hM hC; refine zB ?_; refine zA hL hT [] (by cbv) hq0 ?_; refine zB ?_; refine zA hL hT [] (by cbv) ?_ ?_; exact hq Tt (hq zn (hq zn (hq (fun g3 => (hq g3 (hq g3 zt))) (hq (fun q4 => (hq q4 hq0)) (hq zn hq0))))); refine zD ?_
 cases h
 refine ⟨_, _, by cbv, ?_, ?_⟩; exact LLe.r; exact ALe.v LLe.r ALe.nil
theorem qnJ {a0 : Int} {r : Bool} (h : qSG.f a0 = some r) : AC Tryz.prog 112 [.v (.s (.int .i64 a0))] [.v (.jk)] [.v (.s (.bool r))] := by
 unfold qSG.f at h
 show AC _ _ [.v (.s (.int .i64 a0))] _ _
 refine run3 Tryz.func112 (by rfl) (by rfl) (by cbv) ⟨by decide, rfl⟩ ?_; intro ar cm bo sc sa sx ss sl bs sb ln sr ap up rp fr ge le lt nz mm ma sm fl al ci hL F hP hA hT hM hC; refine zB ?_; refine zA hL hT [] (by cbv) hq0 ?_; refine zB ?_; obtain ⟨r1, h_r1, h⟩ := bnd h; refine zA hL hT [(1, .call [false, false, false] [.v (.jk), .v (.jk), .v (.jk)] [.v (.s (.bool r1))])] (by cbv) ?_ ?_; exact hq (hC (qHC h_r1)) hq0
 refine zD ?_
 cases h
 refine ⟨_, _, by cbv, ?_, ?_⟩; exact LLe.r; exact ALe.v LLe.r ALe.nil
theorem qXL {a0 : ByteArray} {r : Bool} (h : qcD.f a0 = some r) : AC Tryz.prog 156 [.v (.s (.string a0))] [.v (.jk)] [.v (.s (.bool r))] := by
 unfold qcD.f at h
 show AC _ _ [.v (.s (.string a0))] _ _
 refine run3 Tryz.func156 (by rfl) (by rfl) (by cbv) ⟨by decide, rfl⟩ ?_; intro ar cm bo sc sa sx ss sl bs sb ln sr ap up rp fr ge le lt nz mm ma sm fl al ci hL F hP hA hT hM hC; refine zB ?_; refine zA hL hT [] (by cbv) hq0 ?_; refine zB (zB ?_); refine zA hL hT [] (by cbv) hq0 ?_; refine Run.block ?_; refine zJ (fun (z4 : Int) (z5 : Int) => ⟨19, 100000, [(0, .t (.s (.string a0))), (5, .t (.s (.int .i64 z4))), (6, .t (.s (.int .i64 z5)))], []⟩) (x0 := (sl a0)) (x1 := 0) h (Weak.of _ [] hA (by cbv) ?_) (fun _ _ => rfl) ?_
 · repeat first|exact hq0|refine hq (by first|exact Tt|rfl) ?_
 intro k z4 z5 h; rw [qcD.l0] at h; refine zB ?_; refine zA hL hT [] (by cbv) ?_ ?_; exact zt; refine zB ?_; refine zC (by cbv) hq0 (fun c6 => ?_) (fun c6 => ?_)
 ·
  have h := if_t c6 h; refine zE (zB ?_); refine Run.block ?_; refine zB ?_; refine zA hL hT [] (by cbv) hq0 ?_; refine zB ?_; obtain ⟨u7, h_u7, h⟩ := bnd h; obtain ⟨r8, h_r8, h⟩ := bnd h; refine zA hL hT [(4, .call [false, false, false] [.v (.jk), .v (.jk), .v (.jk)] [.v (.s (.bool r8))])] (by cbv) ?_ ?_; exact hq (inS_0 h_u7) (hq (inS_1 h_u7) (hq (hC (qHC h_r8)) hq0)); refine zC (by cbv) hq0 (fun c9 => ?_) (fun c9 => ?_)
  ·
   have h := if_t c9 h; refine zB ?_; refine zA hL hT [] (by cbv) hq0 ?_; refine zD ?_
   cases h
   refine ⟨_, _, by cbv, ?_, ?_⟩; exact LLe.r; exact ALe.v LLe.r ALe.nil
  have h := if_f c9 h; refine zE ?_; refine zA hL hT [] (by cbv) ?_ ?_; exact zt; refine ⟨z4, (ar .add .i64 z5 1), h, Weak.of _ [] hA (by cbv) ?_⟩
  repeat first|exact hq0|refine hq (by first|exact Tt|rfl) ?_
 have h := if_f c6 h; refine zG (zB ?_); refine zA hL hT [] (by cbv) ?_ ?_; exact zt; refine zD ?_
 cases h
 refine ⟨_, _, by cbv, ?_, ?_⟩; exact LLe.r; exact ALe.v LLe.r ALe.nil
theorem qAQ {a0 : List ByteArray} {r : Bool} (h : qKD.f a0 = some r) : AC Tryz.prog 157 [.v (.im false (rowsOf Str_c a0))] [.v (.jk)] [.v (.s (.bool r))] := by
 unfold qKD.f at h; let qhB := rowsOf Str_c; let qDD := @lenI ByteArray
 show AC _ _ [.v (.im false (qhB a0))] _ _
 refine run3 Tryz.func157 (by rfl) (by rfl) (by cbv) ⟨by decide, rfl⟩ ?_; intro ar cm bo sc sa sx ss sl bs sb ln sr ap up rp fr ge le lt nz mm ma sm fl al ci hL F hP hA hT hM hC; refine zB ?_; refine zA hL hT [] (by cbv) hq0 ?_; refine zB (zB ?_); refine zA hL hT [] (by cbv) hq0 ?_; rw [show ln (qhB a0) = qDD a0 from ln_eq Str_c _]; refine Run.block ?_; refine zH (fun (z5 : Int) => ⟨29, 100000, [(0, .t (.im false (qhB a0))), (5, .t (.im false (qhB a0))), (6, .t (.s (.int .i64 (qDD a0)))), (7, .t (.s (.int .i64 z5)))], []⟩) (x0 := 0) h (Weak.of _ [] hA (by cbv) ?_) (fun _ => rfl) ?_
 · repeat first|exact hq0|refine hq (by first|exact Tt|rfl) ?_
 intro k z5 h; rw [qKD.l0] at h; refine zB ?_; refine zA hL hT [] (by cbv) ?_ ?_; exact zt; refine zB ?_; refine zC (by cbv) hq0 (fun c6 => ?_) (fun c6 => ?_)
 ·
  have h := if_t c6 h; refine zE (zB ?_); refine Run.block ?_; refine zB ?_; obtain ⟨x7, h_x7, h⟩ := bnd h; refine zA hL hT [(1, .el [.s (.string x7)])] (by cbv) ?_ ?_; exact hq (qJ h_x7) (hq (qa (f := Str_c) h_x7) (hq (qk (f := Str_c) h_x7) hq0)); refine zB ?_; obtain ⟨r8, h_r8, h⟩ := bnd h; obtain ⟨x9, h_x9, h⟩ := bnd h; refine zA hL hT [(1, .call [false] [.v (.jk)] [.v (.s (.bool r8))]), (10, .el [.s (.string x9)])] (by cbv) ?_ ?_
  exact hq (hC (qXL h_r8)) (hq zn (hq (fun g11 => (hq g11 zt)) (hq (fun g12 => (hq g12 hq0)) (hq zn (hq zn (hq (fun g15 => (hq g15 zt)) (hq (fun g16 => (hq g16 (hq g16 (hq (qJ (gd_t h_x9 g16)) (hq (qa (f := Str_c) (gd_t h_x9 g16)) (hq (qk (f := Str_c) (gd_t h_x9 g16)) hq0)))))) (hq (fun g17 => (hq g17 hq0)) (hq zn (hq (fun g19 => (hq g19 (hq g19 hq0))) (hq (fun g20 => (hq g20 (hq (fun q21 => (hq (bo_a g20 q21) hq0)) (hq zn hq0)))) (hq zn (hq (fun q24 => (hq (bo_m q24) hq0)) hq0)))))))))))))
  refine zC (by cbv) hq0 (fun c25 => ?_) (fun c25 => ?_)
  ·
   have h := if_t c25 h; refine zB ?_; refine zA hL hT [] (by cbv) hq0 ?_; refine zD ?_
   cases h
   refine ⟨_, _, by cbv, ?_, ?_⟩; exact LLe.r; exact ALe.v LLe.r ALe.nil
  have h := if_f c25 h; refine zE ?_; refine zA hL hT [] (by cbv) ?_ ?_; exact zt; refine ⟨(ar .add .i64 z5 1), h, Weak.of _ [] hA (by cbv) ?_⟩
  repeat first|exact hq0|refine hq (by first|exact Tt|rfl) ?_
 have h := if_f c6 h; refine zG (zB ?_); refine zA hL hT [] (by cbv) hq0 ?_; refine zD ?_
 cases h
 refine ⟨_, _, by cbv, ?_, ?_⟩; exact LLe.r; exact ALe.v LLe.r ALe.nil
theorem qxT {qcB a0v_N : Int} {a0v_S : ByteArray} {qK : List Json} {qj : List ByteArray} {r : Bool} (h : qNJ.f (Json.mk qcB a0v_N a0v_S qK qj) = some r) : AC Tryz.prog 130 [.ag [.s (.int .i64 qcB), .s (.int .i64 a0v_N), .s (.string a0v_S), .im false (rowsOf qiB qK), .im false (rowsOf Str_c qj)]] [.ag [.jk, .jk, .jk, .jk, .jk]] [.v (.s (.bool r))] := by
 unfold qNJ.f at h; let qvB := rowsOf qiB; let qhB := rowsOf Str_c; let qOC := @lenI Json; let qDD := @lenI ByteArray
 show AC _ _ [.ag [.s (.int .i64 qcB), .s (.int .i64 a0v_N), .s (.string a0v_S), .im false (qvB qK), .im false (qhB qj)]] _ _
 refine run3 Tryz.func130 (by rfl) (by rfl) (by cbv) ⟨by decide, rfl⟩ ?_; intro ar cm bo sc sa sx ss sl bs sb ln sr ap up rp fr ge le lt nz mm ma sm fl al ci hL F hP hA hT hM hC; refine zB ?_; refine zA hL hT [] (by cbv) hq0 ?_; refine zB (zB ?_); refine zA hL hT [] (by cbv) ?_ ?_; exact hq Tt (hq Tt (hq zn (hq (fun g2 => (by have g2C := g2; rw [show ln (qvB qK) = qOC qK from ln_eq qiB _] at g2C; exact (hq g2 zt))) (hq (fun g3 => (by have g3C := g3; rw [show ln (qvB qK) = qOC qK from ln_eq qiB _] at g3C; exact (hq g3 zt))) (hq (fun q4 => (by have q4C := q4; rw [show ln (qvB qK) = qOC qK from ln_eq qiB _] at q4C; exact (hq q4 hq0))) (hq zn (hq zn (hq (fun g7 => (by have g7C := g7; rw [show ln (qvB qK) = qOC qK from ln_eq qiB _] at g7C; exact (hq g7 zt))) (hq (fun g8 => (by have g8C := g8; rw [show ln (qvB qK) = qOC qK from ln_eq qiB _] at g8C; exact (hq g8 zt))) (hq (fun q9 => (by have q9C := q9; rw [show ln (qvB qK) = qOC qK from ln_eq qiB _] at q9C; exact (hq q9 hq0))) (hq zn (hq zn (hq (fun g12 => (by have g12C := g12; rw [show ln (qvB qK) = qOC qK from ln_eq qiB _] at g12C; exact (hq g12 zt))) (hq (fun g13 => (by have g13C := g13; rw [show ln (qvB qK) = qOC qK from ln_eq qiB _] at g13C; exact (hq g13 hq0))) (hq (fun g14 => (by have g14C := g14; rw [show ln (qvB qK) = qOC qK from ln_eq qiB _] at g14C; exact (hq g14 zt))) (hq (fun g15 => (by have g15C := g15; rw [show ln (qvB qK) = qOC qK from ln_eq qiB _] at g15C; exact (hq g15 hq0))) (hq zn (hq (fun g17 => (by have g17C := g17; rw [show ln (qvB qK) = qOC qK from ln_eq qiB _, show ln (qhB qj) = qDD qj from ln_eq Str_c _] at g17C; exact (hq g17 zt))) (hq (fun g18 => (by have g18C := g18; rw [show ln (qvB qK) = qOC qK from ln_eq qiB _, show ln (qhB qj) = qDD qj from ln_eq Str_c _] at g18C; exact (hq g18 zt))) (hq (fun g19 => (by have g19C := g19; rw [show ln (qvB qK) = qOC qK from ln_eq qiB _] at g19C; exact (hq g19 (hq (fun q20 => (by have q20C := q20; rw [show ln (qhB qj) = qDD qj from ln_eq Str_c _] at q20C; exact (hq (bo_a g19 q20) hq0))) (hq zn hq0))))) (hq zn (hq (fun q23 => (by have q23C := q23; rw [show ln (qvB qK) = qOC qK from ln_eq qiB _] at q23C; exact (hq (bo_m q23) hq0))) hq0))))))))))))))))))))))
 rw [show ln (qvB qK) = qOC qK from ln_eq qiB _]; rw [show ln (qhB qj) = qDD qj from ln_eq Str_c _]; refine zC (by cbv) hq0 (fun c24 => ?_) (fun c24 => ?_)
 ·
  have h := if_t c24 h; refine zB ?_; refine zA hL hT [] (by cbv) hq0 ?_; refine zD ?_
  cases h
  refine ⟨_, _, by cbv, ?_, ?_⟩; exact LLe.r; exact ALe.v LLe.r ALe.nil
 have h := if_f c24 h; refine zE (zB ?_); refine zB ?_; refine zA hL hT [] (by cbv) ?_ ?_; exact hq Tt (hq Tt (hq zn (hq (fun g26 => (hq g26 zt)) (hq (fun g27 => (hq g27 zt)) (hq (fun q28 => (hq q28 hq0)) (hq zn (hq zn (hq (fun g31 => (hq g31 zt)) (hq (fun g32 => (hq g32 zt)) (hq (fun q33 => (hq q33 hq0)) (hq zn (hq zn (hq (fun g36 => (hq g36 zt)) (hq (fun g37 => (hq g37 hq0)) (hq (fun g38 => (hq g38 hq0)) (hq zn (hq (fun g40 => (hq g40 zt)) (hq (fun g41 => (hq g41 zt)) (hq (fun g42 => (hq g42 (hq (fun q43 => (hq (bo_a g42 q43) hq0)) (hq zn hq0)))) (hq zn (hq (fun q46 => (hq (bo_m q46) hq0)) hq0)))))))))))))))))))))
 refine zC (by cbv) hq0 (fun c47 => ?_) (fun c47 => ?_)
 ·
  have h := if_t c47 h; refine zB ?_; refine zA hL hT [] (by cbv) hq0 ?_; refine zD ?_
  cases h
  refine ⟨_, _, by cbv, ?_, ?_⟩; exact LLe.r; exact ALe.v LLe.r ALe.nil
 have h := if_f c47 h; refine zE (zB ?_); refine zB ?_; refine zA hL hT [] (by cbv) ?_ ?_; exact zt; refine Run.block ?_; refine zB ?_; refine zA hL hT [] (by cbv) ?_ ?_; exact zt; refine zC (by cbv) hq0 (fun c48 => ?_) (fun c48 => ?_)
 ·
  have h := if_t c48 h; refine zB ?_; obtain ⟨r49, h_r49, h⟩ := bnd h; refine zA hL hT [(2, .call [false, false, false] [.v (.jk), .v (.jk), .v (.jk)] [.v (.s (.bool r49))])] (by cbv) ?_ ?_; exact hq Tt (hq (hC (qHC h_r49)) hq0); refine zD ?_
  cases h
  refine ⟨_, _, by cbv, ?_, ?_⟩; exact LLe.r; exact ALe.v LLe.r ALe.nil
 have h := if_f c48 h; refine zB ?_; refine zA hL hT [] (by cbv) ?_ ?_; exact zt; refine zC (by cbv) hq0 (fun c50 => ?_) (fun c50 => ?_)
 ·
  have h := if_t c50 h; refine zB ?_; obtain ⟨r51, h_r51, h⟩ := bnd h; refine zA hL hT [(2, .call [false] [.v (.jk)] [.v (.s (.bool r51))])] (by cbv) ?_ ?_; exact hq Tt (hq (hC (qnJ h_r51)) hq0); refine zD ?_
  cases h
  refine ⟨_, _, by cbv, ?_, ?_⟩; exact LLe.r; exact ALe.v LLe.r ALe.nil
 have h := if_f c50 h; refine zB ?_; refine zA hL hT [] (by cbv) ?_ ?_; exact zt; refine zC (by cbv) hq0 (fun c52 => ?_) (fun c52 => ?_)
 ·
  have h := if_t c52 h; refine zB ?_; obtain ⟨r53, h_r53, h⟩ := bnd h; refine zA hL hT [(2, .call [false] [.v (.jk)] [.v (.s (.bool r53))])] (by cbv) ?_ ?_; exact hq Tt (hq (hC (qXL h_r53)) hq0); refine zD ?_
  cases h
  refine ⟨_, _, by cbv, ?_, ?_⟩; exact LLe.r; exact ALe.v LLe.r ALe.nil
 have h := if_f c52 h; refine zB ?_; refine zA hL hT [] (by cbv) ?_ ?_; exact zt; refine zC (by cbv) hq0 (fun c54 => ?_) (fun c54 => ?_)
 ·
  have h := if_t c54 h; refine zB ?_; obtain ⟨r55, h_r55, h⟩ := bnd h; refine zA hL hT [(10, .call [false] [.v (.jk)] [.v (.s (.bool r55))])] (by cbv) ?_ ?_; exact hq Tt (hq Tt (hq Tt (hq zn (hq (fun g57 => (by have g57C := g57; rw [show ln (qvB qK) = qOC qK from ln_eq qiB _, show ln (qhB qj) = qDD qj from ln_eq Str_c _] at g57C; exact (hq g57 zt))) (hq (fun g58 => (by have g58C := g58; rw [show ln (qvB qK) = qOC qK from ln_eq qiB _, show ln (qhB qj) = qDD qj from ln_eq Str_c _] at g58C; exact (hq g58 (hq (hC (qAQ (gd_t h_r55 g58C))) hq0)))) (hq (fun q59 => (by have q59C := q59; rw [show ln (qvB qK) = qOC qK from ln_eq qiB _, show ln (qhB qj) = qDD qj from ln_eq Str_c _] at q59C; exact (hq q59 hq0))) (hq zn hq0)))))))
  rw [show ln (qvB qK) = qOC qK from ln_eq qiB _]; rw [show ln (qhB qj) = qDD qj from ln_eq Str_c _]; refine zD ?_
  cases h
  refine ⟨_, _, by cbv, ?_, ?_⟩; exact LLe.r; exact ALe.v LLe.r ALe.nil
 have h := if_f c54 h; refine zE (zB ?_); refine zA hL hT [] (by cbv) ?_ ?_; exact hq Tt (hq Tt (hq zn (hq (fun g62 => (hq g62 zt)) (hq (fun g63 => (hq g63 zt)) (hq zn (hq (fun q65 => (hq (bo_m q65) hq0)) hq0)))))); refine zD ?_
 cases h
 refine ⟨_, _, by cbv, ?_, ?_⟩; exact LLe.r; exact ALe.v LLe.r ALe.nil
theorem qBQ (self : Json → Int → Option Int) (hself : ∀ {qcB : Int} {a0v_N : Int} {a0v_S : ByteArray} {qK : List Json} {qj : List ByteArray} {a1 : Int} {r : Int} (h : self (Json.mk qcB a0v_N a0v_S qK qj) a1 = some r), AC Tryz.prog 70 [.ag [.s (.int .i64 qcB), .s (.int .i64 a0v_N), .s (.string a0v_S), .im false (rowsOf qiB qK), .im false (rowsOf Str_c qj)], .v (.s (.int .i64 a1))] [.ag [.jk, .jk, .jk, .jk, .jk], .v (.jk)] [.v (.s (.int .i64 r))]) {qcB a0v_N : Int} {a0v_S : ByteArray} {qK : List Json} {qj : List ByteArray} {a1 r : Int} (h : qPC.b self (Json.mk qcB a0v_N a0v_S qK qj) a1 = some r) : AC Tryz.prog 70 [.ag [.s (.int .i64 qcB), .s (.int .i64 a0v_N), .s (.string a0v_S), .im false (rowsOf qiB qK), .im false (rowsOf Str_c qj)], .v (.s (.int .i64 a1))] [.ag [.jk, .jk, .jk, .jk, .jk], .v (.jk)] [.v (.s (.int .i64 r))] := by
 unfold qPC.b at h; let qvB := rowsOf qiB; let qhB := rowsOf Str_c; let qOC := @lenI Json
 show AC _ _ [.ag [.s (.int .i64 qcB), .s (.int .i64 a0v_N), .s (.string a0v_S), .im false (qvB qK), .im false (qhB qj)], .v (.s (.int .i64 a1))] _ _
 refine run3 Tryz.func70 (by rfl) (by rfl) (by cbv) ⟨by decide, rfl⟩ ?_; intro ar cm bo sc sa sx ss sl bs sb ln sr ap up rp fr ge le lt nz mm ma sm fl al ci hL F hP hA hT hM hC; refine zB ?_; refine zA hL hT [] (by cbv) hq0 ?_; refine zB (zB ?_); obtain ⟨r1, h_r1, h⟩ := bnd h; refine zA hL hT [(4, .call [false] [.ag [.jk, .jk, .jk, .jk, .jk]] [.v (.s (.bool r1))])] (by cbv) ?_ ?_; exact hq Tt (hq (fun g2 => zt) (hq (fun g3 => (hq g3 (hq (hC (qxT (gd_t h_r1 g3))) hq0))) (hq (fun g4 => (hq g4 hq0)) (hq zn (hq (fun q6 => (hq (bo_m q6) hq0)) hq0)))))
 refine zC (by cbv) hq0 (fun c7 => ?_) (fun c7 => ?_)
 ·
  have h := if_t c7 h; refine zB ?_; refine zA hL hT [] (by cbv) hq0 ?_; refine zD ?_
  cases h
  refine ⟨_, _, by cbv, ?_, ?_⟩; exact LLe.r; exact ALe.v LLe.r ALe.nil
 have h := if_f c7 h; refine zE (zB ?_); refine zA hL hT [] (by cbv) hq0 ?_; refine zB (zB ?_); refine zA hL hT [] (by cbv) ?_ ?_; exact zt; rw [show ln (qvB qK) = qOC qK from ln_eq qiB _]; refine Run.block ?_; refine zJ (fun (z13 : Int) (z14 : Int) => ⟨32, 100000, [(1, .t (.s (.int .i64 a1))), (5, .t (.s (.int .i64 z13))), (16, .t (.im false (qvB qK))), (17, .t (.s (.int .i64 (qOC qK)))), (18, .t (.s (.int .i64 z14)))], []⟩) (x0 := 1) (x1 := 0) h (Weak.of _ [] hA (by cbv) ?_) (fun _ _ => rfl) ?_
 · repeat first|exact hq0|refine hq (by first|exact Tt|rfl) ?_
 intro k z13 z14 h; rw [qPC.l0] at h; refine zB ?_; refine zA hL hT [] (by cbv) ?_ ?_; exact zt; refine zB ?_; refine zC (by cbv) hq0 (fun c15 => ?_) (fun c15 => ?_)
 ·
  have h := if_t c15 h; refine zE (zB ?_); refine Run.block ?_; refine zB ?_; obtain ⟨⟨qDb, qwf, qxf, qBZ, qCZ⟩, h_x16, h⟩ := bnd h; refine zA hL hT [(0, .el [.s (.int .i64 qDb), .s (.int .i64 qwf), .s (.string qxf), .im false (qvB qBZ), .im false (qhB qCZ)])] (by cbv) ?_ ?_; exact hq (qJ h_x16) (hq (qa (f := qiB) h_x16) (hq (qOT qlI h_x16) zt)); refine zB ?_; obtain ⟨r17, h_r17, h⟩ := bnd h
  refine zA hL hT [(4, .call [false, false] [.ag [.jk, .jk, .jk, .jk, .jk], .v (.jk)] [.v (.s (.int .i64 r17))])] (by cbv) ?_ ?_; exact hq Tt (hq Tt (hq (hC (hself h_r17)) zt)); refine zB ?_; refine zA hL hT [] (by cbv) ?_ ?_; exact zt; refine zC (by cbv) hq0 (fun c18 => ?_) (fun c18 => ?_)
  ·
   have h := if_t c18 h; refine zB ?_; refine zA hL hT [] (by cbv) hq0 ?_; refine zD ?_
   cases h
   refine ⟨_, _, by cbv, ?_, ?_⟩; exact LLe.r; exact ALe.v LLe.r ALe.nil
  have h := if_f c18 h; refine zE ?_; refine zA hL hT [] (by cbv) ?_ ?_; exact zt; refine ⟨(ar .add .i64 z13 r17), (ar .add .i64 z14 1), h, Weak.of _ [] hA (by cbv) ?_⟩
  repeat first|exact hq0|refine hq (by first|exact Tt|rfl) ?_
 have h := if_f c15 h; refine zG (zB ?_); refine zA hL hT [] (by cbv) hq0 ?_; refine zD ?_
 cases h
 refine ⟨_, _, by cbv, ?_, ?_⟩; exact LLe.r; exact ALe.v LLe.r ALe.nil
theorem qXK : ∀ (k : Nat) {qcB : Int} {a0v_N : Int} {a0v_S : ByteArray} {qK : List Json} {qj : List ByteArray} {a1 : Int} {r : Int} (h : qPC.g k (Json.mk qcB a0v_N a0v_S qK qj) a1 = some r), AC Tryz.prog 70 [.ag [.s (.int .i64 qcB), .s (.int .i64 a0v_N), .s (.string a0v_S), .im false (rowsOf qiB qK), .im false (rowsOf Str_c qj)], .v (.s (.int .i64 a1))] [.ag [.jk, .jk, .jk, .jk, .jk], .v (.jk)] [.v (.s (.int .i64 r))]
 | 0 => fun h => by cases h
 | k + 1 => fun h => qBQ (qPC.g k) (qXK k) h
theorem qUR {qcB a0v_N : Int} {a0v_S : ByteArray} {qK : List Json} {qj : List ByteArray} {a1 r : Int} (h : qPC.f (Json.mk qcB a0v_N a0v_S qK qj) a1 = some r) : AC Tryz.prog 70 [.ag [.s (.int .i64 qcB), .s (.int .i64 a0v_N), .s (.string a0v_S), .im false (rowsOf qiB qK), .im false (rowsOf Str_c qj)], .v (.s (.int .i64 a1))] [.ag [.jk, .jk, .jk, .jk, .jk], .v (.jk)] [.v (.s (.int .i64 r))] := qXK 20 h
theorem qyI {qcB a0v_N : Int} {a0v_S : ByteArray} {qK : List Json} {qj : List ByteArray} {r : Bool} (h : qiF.f (Json.mk qcB a0v_N a0v_S qK qj) = some r) : AC Tryz.prog 25 [.ag [.s (.int .i64 qcB), .s (.int .i64 a0v_N), .s (.string a0v_S), .im false (rowsOf qiB qK), .im false (rowsOf Str_c qj)]] [.ag [.jk, .jk, .jk, .jk, .jk]] [.v (.s (.bool r))] := by
 unfold qiF.f at h; let qvB := rowsOf qiB; let qhB := rowsOf Str_c
 show AC _ _ [.ag [.s (.int .i64 qcB), .s (.int .i64 a0v_N), .s (.string a0v_S), .im false (qvB qK), .im false (qhB qj)]] _ _
 refine run3 Tryz.func25 (by rfl) (by rfl) (by cbv) ⟨by decide, rfl⟩ ?_; intro ar cm bo sc sa sx ss sl bs sb ln sr ap up rp fr ge le lt nz mm ma sm fl al ci hL F hP hA hT hM hC; refine zB ?_; refine zA hL hT [] (by cbv) hq0 ?_; refine zB ?_; obtain ⟨r1, h_r1, h⟩ := bnd h; refine zA hL hT [(1, .call [false, false] [.ag [.jk, .jk, .jk, .jk, .jk], .v (.jk)] [.v (.s (.int .i64 r1))])] (by cbv) ?_ ?_; exact hq Tt (hq (hC (qUR h_r1)) zt)
 refine zD ?_
 cases h
 refine ⟨_, _, by cbv, ?_, ?_⟩; exact LLe.r; exact ALe.v LLe.r ALe.nil
theorem qEK {a0 a1 : List ByteArray} {r : Bool} (h : qzB.f a0 a1 = some r) : AC Tryz.prog 114 [.v (.im false (rowsOf Str_c a0)), .v (.im false (rowsOf Str_c a1))] [.v (.jk), .v (.jk)] [.v (.s (.bool r))] := by
 unfold qzB.f at h; let qhB := rowsOf Str_c; let qDD := @lenI ByteArray
 show AC _ _ [.v (.im false (qhB a0)), .v (.im false (qhB a1))] _ _
 refine run3 Tryz.func114 (by rfl) (by rfl) (by cbv) ⟨by decide, rfl⟩ ?_; intro ar cm bo sc sa sx ss sl bs sb ln sr ap up rp fr ge le lt nz mm ma sm fl al ci hL F hP hA hT hM hC; refine zB ?_; refine zA hL hT [] (by cbv) hq0 ?_; refine zB (zB ?_); refine zA hL hT [] (by cbv) ?_ ?_; exact zt; rw [show ln (qhB a0) = qDD a0 from ln_eq Str_c _]; rw [show ln (qhB a1) = qDD a1 from ln_eq Str_c _]
 refine zC (by cbv) hq0 (fun c1 => ?_) (fun c1 => ?_)
 ·
  have h := if_t c1 h; refine zB ?_; refine zA hL hT [] (by cbv) hq0 ?_; refine zD ?_
  cases h
  refine ⟨_, _, by cbv, ?_, ?_⟩; exact LLe.r; exact ALe.v LLe.r ALe.nil
 have h := if_f c1 h; refine zE (zB ?_); refine zB ?_; refine zA hL hT [] (by cbv) hq0 ?_; rw [show ln (qhB a0) = qDD a0 from ln_eq Str_c _]; refine Run.block ?_; refine zH (fun (z6 : Int) => ⟨26, 100000, [(0, .t (.im false (qhB a0))), (1, .t (.im false (qhB a1))), (12, .t (.s (.int .i64 (qDD a0)))), (13, .t (.s (.int .i64 z6)))], []⟩) (x0 := 0) h (Weak.of _ [] hA (by cbv) ?_) (fun _ => rfl) ?_
 · repeat first|exact hq0|refine hq (by first|exact Tt|rfl) ?_
 intro k z6 h; rw [qzB.l0] at h; refine zB ?_; refine zA hL hT [] (by cbv) ?_ ?_; exact zt; refine zB ?_; refine zC (by cbv) hq0 (fun c7 => ?_) (fun c7 => ?_)
 ·
  have h := if_t c7 h; refine zE (zB ?_); refine Run.block ?_; refine zB ?_; refine zA hL hT [] (by cbv) hq0 ?_; refine zB ?_; obtain ⟨x8, h_x8, h⟩ := bnd h; obtain ⟨x9, h_x9, h⟩ := bnd h; refine zF hL hT hM [(2, .el [.s (.string x8)]), (6, .el [.s (.string x9)])] (by cbv) (by cbv) (by cbv) (by cbv) (by cbv) ?_ ?_; exact hq (qJ h_x8) (hq (qa (f := Str_c) h_x8) (hq (qk (f := Str_c) h_x8) (hq (qJ h_x9) (hq (qa (f := Str_c) h_x9) (hq (qk (f := Str_c) h_x9) hq0)))))
  refine zC (by cbv) hq0 (fun c10 => ?_) (fun c10 => ?_)
  ·
   have h := if_t c10 h; refine zB ?_; refine zA hL hT [] (by cbv) hq0 ?_; refine zD ?_
   cases h
   refine ⟨_, _, by cbv, ?_, ?_⟩; exact LLe.r; exact ALe.v LLe.r ALe.nil
  have h := if_f c10 h; refine zE ?_; refine zA hL hT [] (by cbv) ?_ ?_; exact zt; refine ⟨(ar .add .i64 z6 1), h, Weak.of _ [] hA (by cbv) ?_⟩
  repeat first|exact hq0|refine hq (by first|exact Tt|rfl) ?_
 have h := if_f c7 h; refine zG (zB ?_); refine zA hL hT [] (by cbv) hq0 ?_; refine zD ?_
 cases h
 refine ⟨_, _, by cbv, ?_, ?_⟩; exact LLe.r; exact ALe.v LLe.r ALe.nil
theorem qvE (self : Json → Json → Option Bool) (hself : ∀ {qcB : Int} {a0v_N : Int} {a0v_S : ByteArray} {qK : List Json} {qj : List ByteArray} {qlD : Int} {a1v_N : Int} {a1v_S : ByteArray} {qID : List Json} {qJD : List ByteArray} {r : Bool} (h : self (Json.mk qcB a0v_N a0v_S qK qj) (Json.mk qlD a1v_N a1v_S qID qJD) = some r), AC Tryz.prog 52 [.ag [.s (.int .i64 qcB), .s (.int .i64 a0v_N), .s (.string a0v_S), .im false (rowsOf qiB qK), .im false (rowsOf Str_c qj)], .ag [.s (.int .i64 qlD), .s (.int .i64 a1v_N), .s (.string a1v_S), .im false (rowsOf qiB qID), .im false (rowsOf Str_c qJD)]] [.ag [.jk, .jk, .jk, .jk, .jk], .ag [.jk, .jk, .jk, .jk, .jk]] [.v (.s (.bool r))]) {a0 a1 : List Json} {r : Bool} (h : qX.f self a0 a1 = some r) : AC Tryz.prog 115 [.v (.im false (rowsOf qiB a0)), .v (.im false (rowsOf qiB a1)), .v (.fn 52 [])] [.v (.jk), .v (.jk), .v (.jk)] [.v (.s (.bool r))] := by
 unfold qX.f at h; let qvB := rowsOf qiB; let qhB := rowsOf Str_c; let qOC := @lenI Json
 show AC _ _ [.v (.im false (qvB a0)), .v (.im false (qvB a1)), .v (.fn 52 [])] _ _
 refine run3 Tryz.func115 (by rfl) (by rfl) (by cbv) ⟨by decide, rfl⟩ ?_; intro ar cm bo sc sa sx ss sl bs sb ln sr ap up rp fr ge le lt nz mm ma sm fl al ci hL F hP hA hT hM hC; refine Run.weak ?_ (Weak.fnT 2 (by cbv)); refine zB ?_; refine zA hL hT [] (by cbv) hq0 ?_; refine zB (zB ?_); refine zA hL hT [] (by cbv) ?_ ?_; exact zt; rw [show ln (qvB a0) = qOC a0 from ln_eq qiB _]; rw [show ln (qvB a1) = qOC a1 from ln_eq qiB _]
 refine zC (by cbv) hq0 (fun c1 => ?_) (fun c1 => ?_)
 ·
  have h := if_t c1 h; refine zB ?_; refine zA hL hT [] (by cbv) hq0 ?_; refine zD ?_
  cases h
  refine ⟨_, _, by cbv, ?_, ?_⟩; exact LLe.r; exact ALe.v LLe.r ALe.nil
 have h := if_f c1 h; refine zE (zB ?_); refine zB ?_; refine zA hL hT [] (by cbv) hq0 ?_; rw [show ln (qvB a0) = qOC a0 from ln_eq qiB _]; refine Run.block ?_; refine zH (fun (z6 : Int) => ⟨32, 100000, [(1, .t (.im false (qvB a1))), (2, .fn 52 []), (15, .t (.im false (qvB a0))), (16, .t (.s (.int .i64 (qOC a0)))), (17, .t (.s (.int .i64 z6)))], []⟩) (x0 := 0) h (Weak.of _ [] hA (by cbv) ?_) (fun _ => rfl) ?_
 · repeat first|exact hq0|refine hq (by first|exact Tt|rfl) ?_
 intro k z6 h; rw [qX.l0] at h; refine zB ?_; refine zA hL hT [] (by cbv) ?_ ?_; exact zt; refine zB ?_; refine zC (by cbv) hq0 (fun c7 => ?_) (fun c7 => ?_)
 ·
  have h := if_t c7 h; refine zE (zB ?_); refine Run.block ?_; refine zB ?_; obtain ⟨⟨qEd, x8v_N, x8v_S, qEb, qFb⟩, h_x8, h⟩ := bnd h; refine zA hL hT [(1, .el [.s (.int .i64 qEd), .s (.int .i64 x8v_N), .s (.string x8v_S), .im false (qvB qEb), .im false (qhB qFb)])] (by cbv) ?_ ?_; exact hq (qJ h_x8) (hq (qa (f := qiB) h_x8) (hq (qOT qlI h_x8) zt)); refine zB ?_; obtain ⟨⟨qFd, x9v_N, x9v_S, qGb, qHb⟩, h_x9, h⟩ := bnd h
  refine zA hL hT [(2, .el [.s (.int .i64 qFd), .s (.int .i64 x9v_N), .s (.string x9v_S), .im false (qvB qGb), .im false (qhB qHb)])] (by cbv) ?_ ?_; exact hq (qJ h_x9) (hq (qa (f := qiB) h_x9) (hq (qOT qlI h_x9) zt)); refine zB ?_; obtain ⟨r10, h_r10, h⟩ := bnd h; refine zA hL hT [(3, .call [false, false] [.ag [.jk, .jk, .jk, .jk, .jk], .ag [.jk, .jk, .jk, .jk, .jk]] [.v (.s (.bool r10))])] (by cbv) ?_ ?_
  exact hq Tt (hq Tt (hq (hC (hself h_r10)) hq0)); refine zC (by cbv) hq0 (fun c11 => ?_) (fun c11 => ?_)
  ·
   have h := if_t c11 h; refine zB ?_; refine zA hL hT [] (by cbv) hq0 ?_; refine zD ?_
   cases h
   refine ⟨_, _, by cbv, ?_, ?_⟩; exact LLe.r; exact ALe.v LLe.r ALe.nil
  have h := if_f c11 h; refine zE ?_; refine zA hL hT [] (by cbv) ?_ ?_; exact zt; refine ⟨(ar .add .i64 z6 1), h, Weak.of _ [] hA (by cbv) ?_⟩
  repeat first|exact hq0|refine hq (by first|exact Tt|rfl) ?_
 have h := if_f c7 h; refine zG (zB ?_); refine zA hL hT [] (by cbv) hq0 ?_; refine zD ?_
 cases h
 refine ⟨_, _, by cbv, ?_, ?_⟩; exact LLe.r; exact ALe.v LLe.r ALe.nil
theorem qVR (self : Json → Json → Option Bool) (hself : ∀ {qcB : Int} {a0v_N : Int} {a0v_S : ByteArray} {qK : List Json} {qj : List ByteArray} {qlD : Int} {a1v_N : Int} {a1v_S : ByteArray} {qID : List Json} {qJD : List ByteArray} {r : Bool} (h : self (Json.mk qcB a0v_N a0v_S qK qj) (Json.mk qlD a1v_N a1v_S qID qJD) = some r), AC Tryz.prog 52 [.ag [.s (.int .i64 qcB), .s (.int .i64 a0v_N), .s (.string a0v_S), .im false (rowsOf qiB qK), .im false (rowsOf Str_c qj)], .ag [.s (.int .i64 qlD), .s (.int .i64 a1v_N), .s (.string a1v_S), .im false (rowsOf qiB qID), .im false (rowsOf Str_c qJD)]] [.ag [.jk, .jk, .jk, .jk, .jk], .ag [.jk, .jk, .jk, .jk, .jk]] [.v (.s (.bool r))]) {qcB a0v_N : Int} {a0v_S : ByteArray} {qK : List Json} {qj : List ByteArray} {qlD a1v_N : Int} {a1v_S : ByteArray} {qID : List Json} {qJD : List ByteArray} {r : Bool} (h : qRD.b self (Json.mk qcB a0v_N a0v_S qK qj) (Json.mk qlD a1v_N a1v_S qID qJD) = some r) : AC Tryz.prog 52 [.ag [.s (.int .i64 qcB), .s (.int .i64 a0v_N), .s (.string a0v_S), .im false (rowsOf qiB qK), .im false (rowsOf Str_c qj)], .ag [.s (.int .i64 qlD), .s (.int .i64 a1v_N), .s (.string a1v_S), .im false (rowsOf qiB qID), .im false (rowsOf Str_c qJD)]] [.ag [.jk, .jk, .jk, .jk, .jk], .ag [.jk, .jk, .jk, .jk, .jk]] [.v (.s (.bool r))] := by
 unfold qRD.b at h; let qvB := rowsOf qiB; let qhB := rowsOf Str_c
 show AC _ _ [.ag [.s (.int .i64 qcB), .s (.int .i64 a0v_N), .s (.string a0v_S), .im false (qvB qK), .im false (qhB qj)], .ag [.s (.int .i64 qlD), .s (.int .i64 a1v_N), .s (.string a1v_S), .im false (qvB qID), .im false (qhB qJD)]] _ _
 refine run3 Tryz.func52 (by rfl) (by rfl) (by cbv) ⟨by decide, rfl⟩ ?_; intro ar cm bo sc sa sx ss sl bs sb ln sr ap up rp fr ge le lt nz mm ma sm fl al ci hL F hP hA hT hM hC; refine zB ?_; refine zA hL hT [] (by cbv) hq0 ?_; refine zB ?_; obtain ⟨r1, h_r1, h⟩ := bnd h; obtain ⟨r2, h_r2, h⟩ := bnd h; refine zA hL hT [(24, .call [false, false] [.v (.jk), .v (.jk)] [.v (.s (.bool r1))]), (31, .call [false, false, false] [.v (.jk), .v (.jk), .v (.jk)] [.v (.s (.bool r2))])] (by cbv) ?_ ?_
 exact hq Tt (hq Tt (hq Tt (hq zn (hq (fun g4 => (hq g4 zt)) (hq zn (hq (fun g6 => (hq g6 zt)) (hq (fun g7 => (hq g7 (hq g7 zt))) (hq (fun q8 => (hq q8 hq0)) (hq zn (hq zn (hq (fun g11 => (hq g11 zt)) (hq zn (hq (fun g13 => (hq g13 zt)) (hq (fun g14 => (hq g14 (hq g14 hq0))) (hq (fun q15 => (hq q15 hq0)) (hq zn (hq zn (hq (fun g18 => (hq g18 zt)) (hq zn (hq (fun g20 => (hq g20 zt)) (hq (fun g21 => (hq g21 (hq g21 (hq (hC (qEK (gd_t h_r1 g21))) hq0)))) (hq (fun q22 => (hq q22 hq0)) (hq zn (hq zn (hq (fun g25 => (hq g25 zt)) (hq zn (hq (fun g27 => (hq g27 zt)) (hq (fun g28 => (hq g28 (hq g28 (hq (hC (qvE self hself (gd_t h_r2 g28))) hq0)))) (hq (fun q29 => (hq q29 hq0)) (hq zn hq0))))))))))))))))))))))))))))))
 refine zD ?_
 cases h
 refine ⟨_, _, by cbv, ?_, ?_⟩; exact LLe.r; exact ALe.v LLe.r ALe.nil
theorem qYL : ∀ (k : Nat) {qcB : Int} {a0v_N : Int} {a0v_S : ByteArray} {qK : List Json} {qj : List ByteArray} {qlD : Int} {a1v_N : Int} {a1v_S : ByteArray} {qID : List Json} {qJD : List ByteArray} {r : Bool} (h : qRD.g k (Json.mk qcB a0v_N a0v_S qK qj) (Json.mk qlD a1v_N a1v_S qID qJD) = some r), AC Tryz.prog 52 [.ag [.s (.int .i64 qcB), .s (.int .i64 a0v_N), .s (.string a0v_S), .im false (rowsOf qiB qK), .im false (rowsOf Str_c qj)], .ag [.s (.int .i64 qlD), .s (.int .i64 a1v_N), .s (.string a1v_S), .im false (rowsOf qiB qID), .im false (rowsOf Str_c qJD)]] [.ag [.jk, .jk, .jk, .jk, .jk], .ag [.jk, .jk, .jk, .jk, .jk]] [.v (.s (.bool r))]
 | 0 => fun h => by cases h
 | k + 1 => fun h => qVR (qRD.g k) (qYL k) h
theorem qyT {qcB a0v_N : Int} {a0v_S : ByteArray} {qK : List Json} {qj : List ByteArray} {qlD a1v_N : Int} {a1v_S : ByteArray} {qID : List Json} {qJD : List ByteArray} {r : Bool} (h : qRD.f (Json.mk qcB a0v_N a0v_S qK qj) (Json.mk qlD a1v_N a1v_S qID qJD) = some r) : AC Tryz.prog 52 [.ag [.s (.int .i64 qcB), .s (.int .i64 a0v_N), .s (.string a0v_S), .im false (rowsOf qiB qK), .im false (rowsOf Str_c qj)], .ag [.s (.int .i64 qlD), .s (.int .i64 a1v_N), .s (.string a1v_S), .im false (rowsOf qiB qID), .im false (rowsOf Str_c qJD)]] [.ag [.jk, .jk, .jk, .jk, .jk], .ag [.jk, .jk, .jk, .jk, .jk]] [.v (.s (.bool r))] := qYL 20 h
theorem qaO {qcB a0v_N : Int} {a0v_S : ByteArray} {qK : List Json} {qj : List ByteArray} {qlD a1v_N : Int} {a1v_S : ByteArray} {qID : List Json} {qJD : List ByteArray} {r : Bool} (h : qQF.f (Json.mk qcB a0v_N a0v_S qK qj) (Json.mk qlD a1v_N a1v_S qID qJD) = some r) : AC Tryz.prog 13 [.ag [.s (.int .i64 qcB), .s (.int .i64 a0v_N), .s (.string a0v_S), .im false (rowsOf qiB qK), .im false (rowsOf Str_c qj)], .ag [.s (.int .i64 qlD), .s (.int .i64 a1v_N), .s (.string a1v_S), .im false (rowsOf qiB qID), .im false (rowsOf Str_c qJD)]] [.ag [.jk, .jk, .jk, .jk, .jk], .ag [.jk, .jk, .jk, .jk, .jk]] [.v (.s (.bool r))] := by
 unfold qQF.f at h; let qvB := rowsOf qiB; let qhB := rowsOf Str_c
 show AC _ _ [.ag [.s (.int .i64 qcB), .s (.int .i64 a0v_N), .s (.string a0v_S), .im false (qvB qK), .im false (qhB qj)], .ag [.s (.int .i64 qlD), .s (.int .i64 a1v_N), .s (.string a1v_S), .im false (qvB qID), .im false (qhB qJD)]] _ _
 refine run3 Tryz.func13 (by rfl) (by rfl) (by cbv) ⟨by decide, rfl⟩ ?_; intro ar cm bo sc sa sx ss sl bs sb ln sr ap up rp fr ge le lt nz mm ma sm fl al ci hL F hP hA hT hM hC; refine zB ?_; refine zA hL hT [] (by cbv) hq0 ?_; refine zB ?_; obtain ⟨r1, h_r1, h⟩ := bnd h; obtain ⟨r2, h_r2, h⟩ := bnd h; obtain ⟨r3, h_r3, h⟩ := bnd h; refine zA hL hT [(1, .call [false] [.ag [.jk, .jk, .jk, .jk, .jk]] [.v (.s (.bool r1))]), (4, .call [false] [.ag [.jk, .jk, .jk, .jk, .jk]] [.v (.s (.bool r2))]), (9, .call [false, false] [.ag [.jk, .jk, .jk, .jk, .jk], .ag [.jk, .jk, .jk, .jk, .jk]] [.v (.s (.bool r3))])] (by cbv) ?_ ?_
 exact hq Tt (hq (hC (qyI h_r1)) (hq (fun g4 => zt) (hq (fun g5 => (hq g5 (hq (hC (qyI (gd_t h_r2 g5))) hq0))) (hq (fun q6 => (hq q6 hq0)) (hq zn (hq (fun g8 => zt) (hq (fun g9 => zt) (hq (fun g10 => (hq g10 (hq g10 (hq (hC (qyT (gd_t h_r3 g10))) hq0)))) (hq (fun q11 => (hq q11 hq0)) (hq zn hq0)))))))))); refine zD ?_
 cases h
 refine ⟨_, _, by cbv, ?_, ?_⟩; exact LLe.r; exact ALe.v LLe.r ALe.nil
theorem qzT {qsL qCQ a0v_V qhC : Int} {qn : List Int} {r : Bool} (h : qOJ.f (Cond.mk qsL qCQ a0v_V) (Row.mk qhC qn) = some r) : AC Tryz.prog 66 [.ag [.s (.int .i64 qsL), .s (.int .i64 qCQ), .s (.int .i64 a0v_V)], .ag [.s (.int .i64 qhC), .im false (rowsOf Int_c qn)]] [.ag [.jk, .jk, .jk], .ag [.jk, .jk]] [.v (.s (.bool r))] := by
 unfold qOJ.f at h; let qB := rowsOf Int_c; let qW := @lenI Int
 show AC _ _ [.ag [.s (.int .i64 qsL), .s (.int .i64 qCQ), .s (.int .i64 a0v_V)], .ag [.s (.int .i64 qhC), .im false (qB qn)]] _ _
 refine run3 Tryz.func66 (by rfl) (by rfl) (by cbv) ⟨by decide, rfl⟩ ?_; intro ar cm bo sc sa sx ss sl bs sb ln sr ap up rp fr ge le lt nz mm ma sm fl al ci hL F hP hA hT hM hC; refine zB ?_; refine zA hL hT [] (by cbv) hq0 ?_; refine zB (zB ?_); obtain ⟨r1, h_r1, h⟩ := bnd h; refine zA hL hT [(6, .call [false, false, false] [.v (.jk), .v (.jk), .v (.jk)] [.v (.s (.bool r1))])] (by cbv) ?_ ?_
 exact hq Tt (hq Tt (hq Tt (hq (by rw [show ln (qB qn) = qW qn from ln_eq Int_c _]; exact (hC (qHC h_r1))) hq0))); rw [show ln (qB qn) = qW qn from ln_eq Int_c _]; refine zC (by cbv) hq0 (fun c2 => ?_) (fun c2 => ?_)
 ·
  have h := if_t c2 h; refine zB ?_; refine zA hL hT [] (by cbv) hq0 ?_; refine zD ?_
  cases h
  refine ⟨_, _, by cbv, ?_, ?_⟩; exact LLe.r; exact ALe.v LLe.r ALe.nil
 have h := if_f c2 h; refine zE (zB ?_); obtain ⟨x3, h_x3, h⟩ := bnd h; refine zA hL hT [(4, .el [.s (.int .i64 x3)])] (by cbv) ?_ ?_; exact hq Tt (hq Tt (hq (qJ h_x3) (hq (qa (f := Int_c) h_x3) (hq (qk (f := Int_c) h_x3) hq0)))); refine zB (zB ?_); refine zA hL hT [] (by cbv) ?_ ?_; exact zt; refine Run.block ?_; refine zB ?_; refine zA hL hT [] (by cbv) ?_ ?_; exact zt; refine zC (by cbv) hq0 (fun c4 => ?_) (fun c4 => ?_)
 ·
  have h := if_t c4 h; refine zB ?_; refine zA hL hT [] (by cbv) ?_ ?_; exact hq Tt zt; refine zD ?_
  cases h
  refine ⟨_, _, by cbv, ?_, ?_⟩; exact LLe.r; exact ALe.v LLe.r ALe.nil
 have h := if_f c4 h; refine zB ?_; refine zA hL hT [] (by cbv) ?_ ?_; exact zt; refine zC (by cbv) hq0 (fun c5 => ?_) (fun c5 => ?_)
 ·
  have h := if_t c5 h; refine zB ?_; refine zA hL hT [] (by cbv) ?_ ?_; exact hq Tt zt; refine zD ?_
  cases h
  refine ⟨_, _, by cbv, ?_, ?_⟩; exact LLe.r; exact ALe.v LLe.r ALe.nil
 have h := if_f c5 h; refine zB ?_; refine zA hL hT [] (by cbv) ?_ ?_; exact zt; refine zC (by cbv) hq0 (fun c6 => ?_) (fun c6 => ?_)
 ·
  have h := if_t c6 h; refine zB ?_; refine zA hL hT [] (by cbv) ?_ ?_; exact hq Tt zt; refine zD ?_
  cases h
  refine ⟨_, _, by cbv, ?_, ?_⟩; exact LLe.r; exact ALe.v LLe.r ALe.nil
 have h := if_f c6 h; refine zE (zB ?_); refine zA hL hT [] (by cbv) ?_ ?_; exact hq Tt (hq Tt (hq zn (hq zn (hq (fun g9 => (hq g9 zt)) (hq (fun g10 => (hq g10 (hq g10 zt))) (hq (fun q11 => (hq q11 hq0)) (hq zn hq0))))))); refine zD ?_
 cases h
 refine ⟨_, _, by cbv, ?_, ?_⟩; exact LLe.r; exact ALe.v LLe.r ALe.nil
theorem qYK {qw : Int} {qi : List Cond} {qx : Int} {qMB : Bool} {qy : Int} {qEB : List Int} {qU : Bool} {qN qh qhC : Int} {qn : List Int} {r : Bool} (h : qxC.f (Query.mk qw qi qx qMB qy qEB qU qN qh) (Row.mk qhC qn) = some r) : AC Tryz.prog 22 [.ag [.s (.int .i64 qw), .im false (rowsOf qR qi), .s (.int .i64 qx), .s (.bool qMB), .s (.int .i64 qy), .im false (rowsOf Int_c qEB), .s (.bool qU), .s (.int .i64 qN), .s (.int .i64 qh)], .ag [.s (.int .i64 qhC), .im false (rowsOf Int_c qn)]] [.ag [.jk, .jk, .jk, .jk, .jk, .jk, .jk, .jk, .jk], .ag [.jk, .jk]] [.v (.s (.bool r))] := by
 unfold qxC.f at h; let qE := rowsOf qR; let qB := rowsOf Int_c; let qIC := @lenI Cond
 show AC _ _ [.ag [.s (.int .i64 qw), .im false (qE qi), .s (.int .i64 qx), .s (.bool qMB), .s (.int .i64 qy), .im false (qB qEB), .s (.bool qU), .s (.int .i64 qN), .s (.int .i64 qh)], .ag [.s (.int .i64 qhC), .im false (qB qn)]] _ _
 refine run3 Tryz.func22 (by rfl) (by rfl) (by cbv) ⟨by decide, rfl⟩ ?_; intro ar cm bo sc sa sx ss sl bs sb ln sr ap up rp fr ge le lt nz mm ma sm fl al ci hL F hP hA hT hM hC; refine zB ?_; refine zA hL hT [] (by cbv) hq0 ?_; refine zB (zB ?_); refine zA hL hT [] (by cbv) ?_ ?_; exact zt; rw [show ln (qE qi) = qIC qi from ln_eq qR _]; refine Run.block ?_; refine zH (fun (z6 : Int) => ⟨19, 100000, [(3, .pt 1 0 0), (8, .t (.im false (qE qi))), (9, .t (.s (.int .i64 (qIC qi)))), (10, .t (.s (.int .i64 z6)))], [(1, .box 56 [.t (.s (.int .i64 qhC)), .t (.im false (qB qn))])]⟩) (x0 := 0) h (Weak.of _ [(1, 1)] hA (by cbv) ?_) (fun _ => rfl) ?_
 · repeat first|exact hq0|refine hq (by first|exact Tt|rfl) ?_
 intro k z6 h; rw [qxC.l0] at h; refine zB ?_; refine zA hL hT [] (by cbv) ?_ ?_; exact zt; refine zB ?_; refine zC (by cbv) hq0 (fun c7 => ?_) (fun c7 => ?_)
 ·
  have h := if_t c7 h; refine zE (zB ?_); refine Run.block ?_; refine zB ?_; obtain ⟨⟨qyW, qIb, x8v_V⟩, h_x8, h⟩ := bnd h; refine zA hL hT [(0, .el [.s (.int .i64 qyW), .s (.int .i64 qIb), .s (.int .i64 x8v_V)])] (by cbv) ?_ ?_; exact hq (qJ h_x8) (hq (qa (f := qR) h_x8) (hq (qk (f := qR) h_x8) zt)); refine zB ?_; obtain ⟨r9, h_r9, h⟩ := bnd h; refine zA hL hT [(2, .call [false, false] [.ag [.jk, .jk, .jk], .ag [.jk, .jk]] [.v (.s (.bool r9))])] (by cbv) ?_ ?_
  exact hq Tt (hq Tt (hq (hC (qzT h_r9)) hq0)); refine zC (by cbv) hq0 (fun c10 => ?_) (fun c10 => ?_)
  ·
   have h := if_t c10 h; refine zB ?_; refine zA hL hT [] (by cbv) hq0 ?_; refine zD ?_
   cases h
   refine ⟨_, _, by cbv, ?_, ?_⟩; exact LLe.r; exact ALe.v LLe.r ALe.nil
  have h := if_f c10 h; refine zE ?_; refine zA hL hT [] (by cbv) ?_ ?_; exact zt; refine ⟨(ar .add .i64 z6 1), h, Weak.of _ [(1, 1)] hA (by cbv) ?_⟩
  repeat first|exact hq0|refine hq (by first|exact Tt|rfl) ?_
 have h := if_f c7 h; refine zG (zB ?_); refine zA hL hT [] (by cbv) hq0 ?_; refine zD ?_
 cases h
 refine ⟨_, _, by cbv, ?_, ?_⟩; exact LLe.r; exact ALe.v LLe.r ALe.nil
theorem qiN {a0 : Int} {r : Bool} (h : qtE.f a0 = some r) : AC Tryz.prog 100 [.v (.s (.int .i64 a0))] [.v (.jk)] [.v (.s (.bool r))] := by
 unfold qtE.f at h
 show AC _ _ [.v (.s (.int .i64 a0))] _ _
 refine run3 Tryz.func100 (by rfl) (by rfl) (by cbv) ⟨by decide, rfl⟩ ?_; intro ar cm bo sc sa sx ss sl bs sb ln sr ap up rp fr ge le lt nz mm ma sm fl al ci hL F hP hA hT hM hC; refine zB ?_; refine zA hL hT [] (by cbv) hq0 ?_; refine zB ?_; obtain ⟨r1, h_r1, h⟩ := bnd h; refine zA hL hT [(1, .call [false, false, false] [.v (.jk), .v (.jk), .v (.jk)] [.v (.s (.bool r1))])] (by cbv) ?_ ?_; exact hq (hC (qHC h_r1)) hq0
 refine zD ?_
 cases h
 refine ⟨_, _, by cbv, ?_, ?_⟩; exact LLe.r; exact ALe.v LLe.r ALe.nil
theorem qfF {qI : List Int} {a1 : Int} {r : Bool} (h : qJE.f (Schema.mk qI) a1 = some r) : AC Tryz.prog 111 [.ag [.im false (rowsOf Int_c qI)], .v (.s (.int .i64 a1))] [.ag [.jk], .v (.jk)] [.v (.s (.bool r))] := by
 unfold qJE.f at h; let qB := rowsOf Int_c; let qW := @lenI Int
 show AC _ _ [.ag [.im false (qB qI)], .v (.s (.int .i64 a1))] _ _
 refine run3 Tryz.func111 (by rfl) (by rfl) (by cbv) ⟨by decide, rfl⟩ ?_; intro ar cm bo sc sa sx ss sl bs sb ln sr ap up rp fr ge le lt nz mm ma sm fl al ci hL F hP hA hT hM hC; refine zB ?_; refine zA hL hT [] (by cbv) hq0 ?_; refine zB ?_; obtain ⟨r1, h_r1, h⟩ := bnd h; refine zA hL hT [(5, .call [false, false, false] [.v (.jk), .v (.jk), .v (.jk)] [.v (.s (.bool r1))])] (by cbv) ?_ ?_; exact hq Tt (hq Tt (hq (by rw [show ln (qB qI) = qW qI from ln_eq Int_c _]; exact (hC (qHC h_r1))) hq0))
 rw [show ln (qB qI) = qW qI from ln_eq Int_c _]; refine zD ?_
 cases h
 refine ⟨_, _, by cbv, ?_, ?_⟩; exact LLe.r; exact ALe.v LLe.r ALe.nil
theorem qgF {qI : List Int} {r : Bool} (h : qdC.f (Schema.mk qI) = some r) : AC Tryz.prog 99 [.ag [.im false (rowsOf Int_c qI)]] [.ag [.jk]] [.v (.s (.bool r))] := by
 unfold qdC.f at h; let qB := rowsOf Int_c; let qW := @lenI Int
 show AC _ _ [.ag [.im false (qB qI)]] _ _
 refine run3 Tryz.func99 (by rfl) (by rfl) (by cbv) ⟨by decide, rfl⟩ ?_; intro ar cm bo sc sa sx ss sl bs sb ln sr ap up rp fr ge le lt nz mm ma sm fl al ci hL F hP hA hT hM hC; refine zB ?_; refine zA hL hT [] (by cbv) hq0 ?_; obtain ⟨K2, h_K2, h⟩ := joinE h; refine zI K2 (r := r) (fun (y1 : Unit) => ⟨20, 100000, [(1, .pt 1 0 0)], [(1, .box 26 [.t (.im false (qB qI))])]⟩) ?_ ?_
 ·
  skip
  refine zB ?_; refine zA hL hT [] (by cbv) ?_ ?_; exact zt; rw [show ln (qB qI) = qW qI from ln_eq Int_c _]; refine Run.block ?_; refine zH (fun (z7 : Int) => ⟨20, 100000, [(1, .pt 1 0 0), (6, .t (.im false (qB qI))), (7, .t (.s (.int .i64 (qW qI)))), (8, .t (.s (.int .i64 z7)))], [(1, .box 26 [.t (.im false (qB qI))])]⟩) (x0 := 0) h (Weak.of _ [(1, 0)] hA (by cbv) ?_) (fun _ => rfl) ?_
  · repeat first|exact hq0|refine hq (by first|exact Tt|rfl) ?_
  intro k z7 h; rw [qdC.l0] at h; refine zB ?_; refine zA hL hT [] (by cbv) ?_ ?_; exact zt; refine zB ?_; refine zC (by cbv) hq0 (fun c8 => ?_) (fun c8 => ?_)
  ·
   have h := if_t c8 h; refine zE (zB ?_); refine Run.block ?_; refine zB ?_; obtain ⟨x9, h_x9, h⟩ := bnd h; refine zA hL hT [(0, .el [.s (.int .i64 x9)])] (by cbv) ?_ ?_; exact hq (qJ h_x9) (hq (qa (f := Int_c) h_x9) (hq (qk (f := Int_c) h_x9) hq0)); refine zB ?_; obtain ⟨r10, h_r10, h⟩ := bnd h; refine zA hL hT [(1, .call [false, false, false] [.v (.jk), .v (.jk), .v (.jk)] [.v (.s (.bool r10))])] (by cbv) ?_ ?_
   exact hq (hC (qHC h_r10)) hq0; refine zC (by cbv) hq0 (fun c11 => ?_) (fun c11 => ?_)
   ·
    have h := if_t c11 h; refine zB ?_; refine zA hL hT [] (by cbv) hq0 ?_; refine zD ?_
    cases h
    refine ⟨_, _, by cbv, ?_, ?_⟩; exact LLe.r; exact ALe.v LLe.r ALe.nil
   have h := if_f c11 h; refine zE ?_; refine zA hL hT [] (by cbv) ?_ ?_; exact zt; refine ⟨(ar .add .i64 z7 1), h, Weak.of _ [(1, 1)] hA (by cbv) ?_⟩
   repeat first|exact hq0|refine hq (by first|exact Tt|rfl) ?_
  have h := if_f c8 h; refine zG ?_; refine ⟨(), h, Weak.of _ [(1, 1)] hA (by cbv) ?_⟩
  repeat first|exact hq0|refine hq (by first|exact Tt|rfl) ?_
 intro y1 h; rw [h_K2] at h; refine zB ?_; obtain ⟨r12, h_r12, h⟩ := bnd h; refine zA hL hT [(3, .call [false, false, false] [.v (.jk), .v (.jk), .v (.jk)] [.v (.s (.bool r12))])] (by cbv) ?_ ?_; exact hq Tt (hq (by rw [show ln (qB qI) = qW qI from ln_eq Int_c _]; exact (hC (qHC h_r12))) hq0); rw [show ln (qB qI) = qW qI from ln_eq Int_c _]; refine zD ?_
 cases h
 refine ⟨_, _, by cbv, ?_, ?_⟩; exact LLe.r; exact ALe.v LLe.r ALe.nil
theorem qhM {qI : List Int} {a1 qyE : Int} {qbB : List Int} {r : Bool} (h : qvD.f (Schema.mk qI) a1 (Row.mk qyE qbB) = some r) : AC Tryz.prog 75 [.ag [.im false (rowsOf Int_c qI)], .v (.s (.int .i64 a1)), .ag [.s (.int .i64 qyE), .im false (rowsOf Int_c qbB)]] [.ag [.jk], .v (.jk), .ag [.jk, .jk]] [.v (.s (.bool r))] := by
 unfold qvD.f at h; let qB := rowsOf Int_c; let qW := @lenI Int
 show AC _ _ [.ag [.im false (qB qI)], .v (.s (.int .i64 a1)), .ag [.s (.int .i64 qyE), .im false (qB qbB)]] _ _
 refine run3 Tryz.func75 (by rfl) (by rfl) (by cbv) ⟨by decide, rfl⟩ ?_; intro ar cm bo sc sa sx ss sl bs sb ln sr ap up rp fr ge le lt nz mm ma sm fl al ci hL F hP hA hT hM hC; refine zB ?_; refine zA hL hT [] (by cbv) hq0 ?_; obtain ⟨K2, h_K2, h⟩ := joinE h; refine zI K2 (r := r) (fun (y1 : Unit) => ⟨43, 100000, [(1, .t (.s (.int .i64 a1))), (3, .pt 1 0 0), (5, .pt 2 0 0)], [(1, .box 26 [.t (.im false (qB qI))]), (2, .box 56 [.t (.s (.int .i64 qyE)), .t (.im false (qB qbB))])]⟩) ?_ ?_
 ·
  skip
  refine zB ?_; refine zA hL hT [] (by cbv) ?_ ?_; exact zt; rw [show ln (qB qbB) = qW qbB from ln_eq Int_c _]; refine Run.block ?_; refine zH (fun (z10 : Int) => ⟨43, 100000, [(1, .t (.s (.int .i64 a1))), (3, .pt 1 0 0), (5, .pt 2 0 0), (10, .t (.im false (qB qbB))), (11, .t (.s (.int .i64 (qW qbB)))), (12, .t (.s (.int .i64 z10)))], [(1, .box 26 [.t (.im false (qB qI))]), (2, .box 56 [.t (.s (.int .i64 qyE)), .t (.im false (qB qbB))])]⟩) (x0 := 0) h (Weak.of _ [(1, 0), (2, 1)] hA (by cbv) ?_) (fun _ => rfl) ?_
  · repeat first|exact hq0|refine hq (by first|exact Tt|rfl) ?_
  intro k z10 h; rw [qvD.l0] at h; refine zB ?_; refine zA hL hT [] (by cbv) ?_ ?_; exact zt; refine zB ?_; refine zC (by cbv) hq0 (fun c11 => ?_) (fun c11 => ?_)
  ·
   have h := if_t c11 h; refine zE (zB ?_); refine Run.block ?_; refine zB ?_; obtain ⟨x12, h_x12, h⟩ := bnd h; refine zA hL hT [(0, .el [.s (.int .i64 x12)])] (by cbv) ?_ ?_; exact hq (qJ h_x12) (hq (qa (f := Int_c) h_x12) (hq (qk (f := Int_c) h_x12) hq0)); refine zB ?_; obtain ⟨r13, h_r13, h⟩ := bnd h; refine zA hL hT [(1, .call [false] [.v (.jk)] [.v (.s (.bool r13))])] (by cbv) ?_ ?_; exact hq (hC (qnJ h_r13)) hq0
   refine zC (by cbv) hq0 (fun c14 => ?_) (fun c14 => ?_)
   ·
    have h := if_t c14 h; refine zB ?_; refine zA hL hT [] (by cbv) hq0 ?_; refine zD ?_
    cases h
    refine ⟨_, _, by cbv, ?_, ?_⟩; exact LLe.r; exact ALe.v LLe.r ALe.nil
   have h := if_f c14 h; refine zE ?_; refine zA hL hT [] (by cbv) ?_ ?_; exact zt; refine ⟨(ar .add .i64 z10 1), h, Weak.of _ [(1, 1), (2, 2)] hA (by cbv) ?_⟩
   repeat first|exact hq0|refine hq (by first|exact Tt|rfl) ?_
  have h := if_f c11 h; refine zG ?_; refine ⟨(), h, Weak.of _ [(1, 1), (2, 2)] hA (by cbv) ?_⟩
  repeat first|exact hq0|refine hq (by first|exact Tt|rfl) ?_
 intro y1 h; rw [h_K2] at h; refine zB ?_; obtain ⟨r15, h_r15, h⟩ := bnd h; obtain ⟨r16, h_r16, h⟩ := bnd h; obtain ⟨x17, h_x17, h⟩ := bnd h; obtain ⟨r18, h_r18, h⟩ := bnd h; refine zF hL hT hM [(1, .call [false] [.ag [.jk]] [.v (.s (.bool r15))]), (5, .call [false, false] [.ag [.jk], .v (.jk)] [.v (.s (.bool r16))]), (14, .el [.s (.int .i64 x17)]), (21, .call [false, false, false] [.v (.jk), .v (.jk), .v (.jk)] [.v (.s (.bool r18))])] (by cbv) (by cbv) (by cbv) (by cbv) (by cbv) ?_ ?_
 exact hq Tt (hq (hC (qgF h_r15)) (hq (fun g19 => zt) (hq zn (hq (fun g21 => (hq g21 (hq g21 (hq (hC (qfF (gd_t h_r16 g21))) hq0)))) (hq (fun q22 => (hq q22 hq0)) (hq zn (hq zn (hq (fun g25 => (hq g25 zt)) (hq (fun g26 => (hq g26 hq0)) (hq zn (hq (fun g28 => (hq g28 zt)) (hq zn (hq (fun g30 => (hq g30 (hq g30 (hq (qJ (gd_t h_x17 g30)) (hq (qa (f := Int_c) (gd_t h_x17 g30)) (hq (qk (f := Int_c) (gd_t h_x17 g30)) hq0)))))) (hq (fun g31 => (hq g31 hq0)) (hq (fun g32 => (hq g32 (hq g32 zt))) (hq (fun q33 => (hq q33 hq0)) (hq zn (hq zn (hq (fun g36 => (by have g36C := g36; rw [show ln (qB qbB) = qW qbB from ln_eq Int_c _] at g36C; exact (hq g36 zt))) (hq (fun g37 => (by have g37C := g37; rw [show ln (qB qbB) = qW qbB from ln_eq Int_c _] at g37C; exact (hq g37 (hq (hC (qHC (gd_t h_r18 g37C))) hq0)))) (hq (fun q38 => (by have q38C := q38; rw [show ln (qB qbB) = qW qbB from ln_eq Int_c _] at q38C; exact (hq q38 hq0))) (hq zn hq0))))))))))))))))))))))
 rw [show ln (qB qbB) = qW qbB from ln_eq Int_c _]; refine zD ?_
 cases h
 refine ⟨_, _, by cbv, ?_, ?_⟩; exact LLe.r; exact ALe.v LLe.r ALe.nil
theorem qWR {qI : List Int} {a1 : Int} {a2 : List Row} {r : Bool} (h : qdD.f (Schema.mk qI) a1 a2 = some r) : AC Tryz.prog 101 [.ag [.im false (rowsOf Int_c qI)], .v (.s (.int .i64 a1)), .v (.im false (rowsOf Row_i a2))] [.ag [.jk], .v (.jk), .v (.jk)] [.v (.s (.bool r))] := by
 unfold qdD.f at h; let qB := rowsOf Int_c; let qT := rowsOf Row_i; let qS := @lenI Row
 show AC _ _ [.ag [.im false (qB qI)], .v (.s (.int .i64 a1)), .v (.im false (qT a2))] _ _
 refine run3 Tryz.func101 (by rfl) (by rfl) (by cbv) ⟨by decide, rfl⟩ ?_; intro ar cm bo sc sa sx ss sl bs sb ln sr ap up rp fr ge le lt nz mm ma sm fl al ci hL F hP hA hT hM hC; refine zB ?_; refine zA hL hT [] (by cbv) hq0 ?_; obtain ⟨K2, h_K2, h⟩ := joinE h; refine zI K2 (r := r) (fun (y1 : Unit) => ⟨49, 100000, [(1, .t (.s (.int .i64 a1))), (2, .t (.im false (qT a2))), (3, .pt 1 0 0)], [(1, .box 26 [.t (.im false (qB qI))])]⟩) ?_ ?_
 ·
  skip
  refine zB ?_; refine zA hL hT [] (by cbv) hq0 ?_; rw [show ln (qT a2) = qS a2 from ln_eq Row_i _]; refine Run.block ?_; refine zH (fun (z9 : Int) => ⟨49, 100000, [(1, .t (.s (.int .i64 a1))), (2, .t (.im false (qT a2))), (3, .pt 1 0 0), (9, .t (.im false (qT a2))), (10, .t (.s (.int .i64 (qS a2)))), (11, .t (.s (.int .i64 z9)))], [(1, .box 26 [.t (.im false (qB qI))])]⟩) (x0 := 0) h (Weak.of _ [(1, 0)] hA (by cbv) ?_) (fun _ => rfl) ?_
  · repeat first|exact hq0|refine hq (by first|exact Tt|rfl) ?_
  intro k z9 h; rw [qdD.l0] at h; refine zB ?_; refine zA hL hT [] (by cbv) ?_ ?_; exact zt; refine zB ?_; refine zC (by cbv) hq0 (fun c10 => ?_) (fun c10 => ?_)
  ·
   have h := if_t c10 h; refine zE (zB ?_); refine Run.block ?_; refine zB ?_; obtain ⟨⟨qzW, qjN⟩, h_x11, h⟩ := bnd h; refine zA hL hT [(1, .el [.s (.int .i64 qzW), .im false (qB qjN)])] (by cbv) ?_ ?_; exact hq (qJ h_x11) (hq (qa (f := Row_i) h_x11) (hq (qk (f := Row_i) h_x11) zt)); refine zB ?_; obtain ⟨r12, h_r12, h⟩ := bnd h; obtain ⟨⟨que, qDZ⟩, h_x13, h⟩ := bnd h; refine zF hL hT hM [(3, .call [false, false, false] [.ag [.jk], .v (.jk), .ag [.jk, .jk]] [.v (.s (.bool r12))]), (12, .el [.s (.int .i64 que), .im false (qB qDZ)])] (by cbv) (by cbv) (by cbv) (by cbv) (by cbv) ?_ ?_
   exact hq Tt (hq Tt (hq (hC (qhM h_r12)) (hq zn (hq (fun g15 => (hq g15 zt)) (hq (fun g16 => (hq g16 hq0)) (hq zn (hq zn (hq (fun g19 => (hq g19 zt)) (hq (fun g20 => (hq g20 (hq g20 (hq (qJ (gd_t h_x13 g20)) (hq (qa (f := Row_i) (gd_t h_x13 g20)) (hq (qk (f := Row_i) (gd_t h_x13 g20)) hq0)))))) (hq (fun g21 => (hq g21 hq0)) (hq (fun g22 => (hq g22 hq0)) (hq zn (hq (fun g24 => (hq g24 zt)) (hq (fun g25 => (hq g25 (hq g25 zt))) (hq (fun g26 => (hq g26 (hq (fun q27 => (hq (bo_a g26 q27) hq0)) (hq zn hq0)))) (hq zn (hq (fun q30 => (hq (bo_m q30) hq0)) hq0)))))))))))))))))
   refine zC (by cbv) hq0 (fun c31 => ?_) (fun c31 => ?_)
   ·
    have h := if_t c31 h; refine zB ?_; refine zA hL hT [] (by cbv) hq0 ?_; refine zD ?_
    cases h
    refine ⟨_, _, by cbv, ?_, ?_⟩; exact LLe.r; exact ALe.v LLe.r ALe.nil
   have h := if_f c31 h; refine zE ?_; refine zA hL hT [] (by cbv) ?_ ?_; exact zt; refine ⟨(ar .add .i64 z9 1), h, Weak.of _ [(1, 1)] hA (by cbv) ?_⟩
   repeat first|exact hq0|refine hq (by first|exact Tt|rfl) ?_
  have h := if_f c10 h; refine zG ?_; refine ⟨(), h, Weak.of _ [(1, 1)] hA (by cbv) ?_⟩
  repeat first|exact hq0|refine hq (by first|exact Tt|rfl) ?_
 intro y1 h; rw [h_K2] at h; refine zB ?_; obtain ⟨r32, h_r32, h⟩ := bnd h; obtain ⟨r33, h_r33, h⟩ := bnd h; refine zA hL hT [(1, .call [false] [.ag [.jk]] [.v (.s (.bool r32))]), (5, .call [false, false] [.ag [.jk], .v (.jk)] [.v (.s (.bool r33))])] (by cbv) ?_ ?_; exact hq Tt (hq (hC (qgF h_r32)) (hq (fun g34 => zt) (hq zn (hq (fun g36 => (hq g36 (hq g36 (hq (hC (qfF (gd_t h_r33 g36))) hq0)))) (hq (fun q37 => (hq q37 hq0)) (hq zn (hq zn (hq (fun g40 => (hq g40 hq0)) (hq (fun g41 => (hq g41 zt)) (hq (fun q42 => (hq q42 hq0)) (hq zn hq0)))))))))))
 rw [show ln (qT a2) = qS a2 from ln_eq Row_i _]; refine zD ?_
 cases h
 refine ⟨_, _, by cbv, ?_, ?_⟩; exact LLe.r; exact ALe.v LLe.r ALe.nil
theorem qKG {qQ : List Int} {qOB : Int} {qFB : List (List Row)} {r : Bool} (h : qlC.f (Store.mk (Schema.mk qQ) qOB qFB) = some r) : AC Tryz.prog 42 [.ag [.im false (rowsOf Int_c qQ), .s (.int .i64 qOB), .im false (rowsOf quC qFB)]] [.ag [.jk, .jk, .jk]] [.v (.s (.bool r))] := by
 unfold qlC.f at h; let qB := rowsOf Int_c; let qjC := rowsOf quC; let qT := rowsOf Row_i; let qW := @lenI Int; let qHF := @lenI (List Row)
 show AC _ _ [.ag [.im false (qB qQ), .s (.int .i64 qOB), .im false (qjC qFB)]] _ _
 refine run3 Tryz.func42 (by rfl) (by rfl) (by cbv) ⟨by decide, rfl⟩ ?_; intro ar cm bo sc sa sx ss sl bs sb ln sr ap up rp fr ge le lt nz mm ma sm fl al ci hL F hP hA hT hM hC; refine zB ?_; refine zA hL hT [] (by cbv) hq0 ?_; refine zB (zB ?_); obtain ⟨r1, h_r1, h⟩ := bnd h; obtain ⟨r2, h_r2, h⟩ := bnd h; refine zA hL hT [(2, .call [false] [.ag [.jk]] [.v (.s (.bool r1))]), (7, .call [false] [.v (.jk)] [.v (.s (.bool r2))])] (by cbv) ?_ ?_
 exact hq Tt (hq (hC (qgF h_r1)) (hq zn (hq (fun g4 => (hq g4 zt)) (hq (fun g5 => (hq g5 (hq (hC (qiN (gd_t h_r2 g5))) hq0))) (hq (fun g6 => (hq g6 hq0)) (hq zn (hq (fun q8 => (hq (bo_m q8) hq0)) (hq zn (hq (fun g10 => (hq g10 zt)) (hq (fun g11 => (hq g11 hq0)) (hq zn (hq (fun g13 => (hq g13 hq0)) (hq (fun g14 => (hq g14 zt)) (hq (fun g15 => (hq g15 hq0)) (hq (fun g16 => (hq g16 (hq g16 zt))) (hq zn (hq (fun q18 => (hq (bo_m q18) hq0)) hq0)))))))))))))))))
 rw [show ln (qB qQ) = qW qQ from ln_eq Int_c _]; rw [show ln (qjC qFB) = qHF qFB from ln_eq quC _]; refine zC (by cbv) hq0 (fun c19 => ?_) (fun c19 => ?_)
 ·
  have h := if_t c19 h; refine zB ?_; refine zA hL hT [] (by cbv) hq0 ?_; refine zD ?_
  cases h
  refine ⟨_, _, by cbv, ?_, ?_⟩; exact LLe.r; exact ALe.v LLe.r ALe.nil
 have h := if_f c19 h; refine zE (zB ?_); refine zB ?_; refine zA hL hT [] (by cbv) ?_ ?_; exact zt; rw [show ln (qjC qFB) = qHF qFB from ln_eq quC _]; refine Run.block ?_; refine zH (fun (z26 : Int) => ⟨40, 100000, [(1, .pt 1 0 0), (26, .t (.im false (qjC qFB))), (27, .t (.s (.int .i64 (qHF qFB)))), (28, .t (.s (.int .i64 z26)))], [(1, .box 29 [.t (.im false (qB qQ)), .t (.s (.int .i64 qOB)), .t (.im false (qjC qFB))])]⟩) (x0 := 0) h (Weak.of _ [(1, 0)] hA (by cbv) ?_) (fun _ => rfl) ?_
 · repeat first|exact hq0|refine hq (by first|exact Tt|rfl) ?_
 intro k z26 h; rw [qlC.l0] at h; refine zB ?_; refine zA hL hT [] (by cbv) ?_ ?_; exact zt; refine zB ?_; refine zC (by cbv) hq0 (fun c27 => ?_) (fun c27 => ?_)
 ·
  have h := if_t c27 h; refine zE (zB ?_); refine Run.block ?_; refine zB ?_; obtain ⟨x28, h_x28, h⟩ := bnd h; refine zA hL hT [(1, .el [.im false (qT x28)])] (by cbv) ?_ ?_; exact hq (qJ h_x28) (hq (qa (f := quC) h_x28) (hq (qk (f := quC) h_x28) hq0)); refine zB ?_; obtain ⟨r29, h_r29, h⟩ := bnd h; refine zA hL hT [(4, .call [false, false, false] [.ag [.jk], .v (.jk), .v (.jk)] [.v (.s (.bool r29))])] (by cbv) ?_ ?_
  exact hq Tt (hq (hC (qWR h_r29)) hq0); refine zC (by cbv) hq0 (fun c30 => ?_) (fun c30 => ?_)
  ·
   have h := if_t c30 h; refine zB ?_; refine zA hL hT [] (by cbv) hq0 ?_; refine zD ?_
   cases h
   refine ⟨_, _, by cbv, ?_, ?_⟩; exact LLe.r; exact ALe.v LLe.r ALe.nil
  have h := if_f c30 h; refine zE ?_; refine zA hL hT [] (by cbv) ?_ ?_; exact zt; refine ⟨(ar .add .i64 z26 1), h, Weak.of _ [(1, 1)] hA (by cbv) ?_⟩
  repeat first|exact hq0|refine hq (by first|exact Tt|rfl) ?_
 have h := if_f c27 h; refine zG (zB ?_); refine zA hL hT [] (by cbv) hq0 ?_; refine zD ?_
 cases h
 refine ⟨_, _, by cbv, ?_, ?_⟩; exact LLe.r; exact ALe.v LLe.r ALe.nil
theorem qDQ {qI : List Int} {qo : Int} {qO : List Cond} {qp : Int} {qJB : Bool} {qq : Int} {qDB : List Int} {qM : Bool} {qL qc : Int} {r : Bool} (h : qwG.f (Schema.mk qI) (Query.mk qo qO qp qJB qq qDB qM qL qc) = some r) : AC Tryz.prog 113 [.ag [.im false (rowsOf Int_c qI)], .ag [.s (.int .i64 qo), .im false (rowsOf qR qO), .s (.int .i64 qp), .s (.bool qJB), .s (.int .i64 qq), .im false (rowsOf Int_c qDB), .s (.bool qM), .s (.int .i64 qL), .s (.int .i64 qc)]] [.ag [.jk], .ag [.jk, .jk, .jk, .jk, .jk, .jk, .jk, .jk, .jk]] [.v (.s (.bool r))] := by
 unfold qwG.f at h; let qE := rowsOf qR; let qB := rowsOf Int_c
 show AC _ _ [.ag [.im false (qB qI)], .ag [.s (.int .i64 qo), .im false (qE qO), .s (.int .i64 qp), .s (.bool qJB), .s (.int .i64 qq), .im false (qB qDB), .s (.bool qM), .s (.int .i64 qL), .s (.int .i64 qc)]] _ _
 refine run3 Tryz.func113 (by rfl) (by rfl) (by cbv) ⟨by decide, rfl⟩ ?_; intro ar cm bo sc sa sx ss sl bs sb ln sr ap up rp fr ge le lt nz mm ma sm fl al ci hL F hP hA hT hM hC; refine zB ?_; refine zA hL hT [] (by cbv) hq0 ?_; refine zB (zB ?_); refine zA hL hT [] (by cbv) ?_ ?_; exact zt; refine zC (by cbv) hq0 (fun c1 => ?_) (fun c1 => ?_)
 ·
  have h := if_t c1 h; refine zB ?_; refine zA hL hT [] (by cbv) ?_ ?_; exact hq Tt (hq Tt (hq zn (hq (fun g3 => (hq g3 zt)) (hq (fun g4 => (hq g4 zt)) (hq (fun q5 => (hq q5 hq0)) (hq zn hq0)))))); refine zD ?_
  cases h
  refine ⟨_, _, by cbv, ?_, ?_⟩; exact LLe.r; exact ALe.v LLe.r ALe.nil
 have h := if_f c1 h; refine zE (zB ?_); obtain ⟨r7, h_r7, h⟩ := bnd h; obtain ⟨x8, h_x8, h⟩ := bnd h; obtain ⟨r9, h_r9, h⟩ := bnd h; refine zF hL hT hM [(3, .call [false, false] [.ag [.jk], .v (.jk)] [.v (.s (.bool r7))]), (11, .el [.s (.int .i64 x8)]), (14, .call [false, false, false] [.v (.jk), .v (.jk), .v (.jk)] [.v (.s (.bool r9))])] (by cbv) (by cbv) (by cbv) (by cbv) (by cbv) ?_ ?_
 exact hq Tt (hq Tt (hq (hC (qfF h_r7)) (hq zn (hq (fun g11 => (hq g11 zt)) (hq zn (hq (fun g13 => (hq g13 zt)) (hq zn (hq (fun g15 => (hq g15 zt)) (hq (fun g16 => (hq g16 (hq g16 (hq (qJ (gd_t h_x8 g16)) (hq (qa (f := Int_c) (gd_t h_x8 g16)) (hq (qk (f := Int_c) (gd_t h_x8 g16)) hq0)))))) (hq (fun g17 => (hq g17 hq0)) (hq (fun g18 => (hq g18 zt)) (hq (fun g19 => (hq g19 (hq g19 (hq (hC (qHC (gd_t h_r9 g19))) hq0)))) (hq (fun q20 => (hq q20 hq0)) (hq zn hq0))))))))))))))
 refine zD ?_
 cases h
 refine ⟨_, _, by cbv, ?_, ?_⟩; exact LLe.r; exact ALe.v LLe.r ALe.nil
theorem qIF {qI : List Int} {qo : Int} {qO : List Cond} {qp : Int} {qJB : Bool} {qq : Int} {qDB : List Int} {qM : Bool} {qL qc : Int} {r : Bool} (h : quB.f (Schema.mk qI) (Query.mk qo qO qp qJB qq qDB qM qL qc) = some r) : AC Tryz.prog 51 [.ag [.im false (rowsOf Int_c qI)], .ag [.s (.int .i64 qo), .im false (rowsOf qR qO), .s (.int .i64 qp), .s (.bool qJB), .s (.int .i64 qq), .im false (rowsOf Int_c qDB), .s (.bool qM), .s (.int .i64 qL), .s (.int .i64 qc)]] [.ag [.jk], .ag [.jk, .jk, .jk, .jk, .jk, .jk, .jk, .jk, .jk]] [.v (.s (.bool r))] := by
 unfold quB.f at h; let qE := rowsOf qR; let qB := rowsOf Int_c; let qIC := @lenI Cond; let qW := @lenI Int
 show AC _ _ [.ag [.im false (qB qI)], .ag [.s (.int .i64 qo), .im false (qE qO), .s (.int .i64 qp), .s (.bool qJB), .s (.int .i64 qq), .im false (qB qDB), .s (.bool qM), .s (.int .i64 qL), .s (.int .i64 qc)]] _ _
 refine run3 Tryz.func51 (by rfl) (by rfl) (by cbv) ⟨by decide, rfl⟩ ?_; intro ar cm bo sc sa sx ss sl bs sb ln sr ap up rp fr ge le lt nz mm ma sm fl al ci hL F hP hA hT hM hC; refine zB ?_; refine zA hL hT [] (by cbv) hq0 ?_; refine zB (zB ?_); obtain ⟨r1, h_r1, h⟩ := bnd h; obtain ⟨r2, h_r2, h⟩ := bnd h; refine zA hL hT [(1, .call [false] [.ag [.jk]] [.v (.s (.bool r1))]), (7, .call [false, false] [.ag [.jk], .v (.jk)] [.v (.s (.bool r2))])] (by cbv) ?_ ?_
 exact hq Tt (hq (hC (qgF h_r1)) (hq (fun g3 => zt) (hq zn (hq (fun g5 => (hq g5 zt)) (hq (fun g6 => (hq g6 (hq g6 (hq (hC (qfF (gd_t h_r2 g6))) hq0)))) (hq (fun g7 => (hq g7 hq0)) (hq zn (hq (fun q9 => (hq (bo_m q9) hq0)) hq0)))))))); refine zC (by cbv) hq0 (fun c10 => ?_) (fun c10 => ?_)
 ·
  have h := if_t c10 h; refine zB ?_; refine zA hL hT [] (by cbv) hq0 ?_; refine zD ?_
  cases h
  refine ⟨_, _, by cbv, ?_, ?_⟩; exact LLe.r; exact ALe.v LLe.r ALe.nil
 have h := if_f c10 h; refine zE (zB ?_); obtain ⟨x11, h_x11, h⟩ := bnd h; refine zA hL hT [(4, .el [.s (.int .i64 x11)])] (by cbv) ?_ ?_; exact hq Tt (hq Tt (hq (qJ h_x11) (hq (qa (f := Int_c) h_x11) (hq (qk (f := Int_c) h_x11) hq0)))); obtain ⟨K13, h_K13, h⟩ := joinE h; refine zI K13 (r := r) (fun (y12 : Unit) => ⟨112, 100000, [(2, .pt 1 0 0), (3, .pt 2 0 0), (5, .t (.s (.int .i64 x11)))], [(1, .box 26 [.t (.im false (qB qI))]), (2, .box 32 [.t (.s (.int .i64 qo)), .t (.im false (qE qO)), .t (.s (.int .i64 qp)), .t (.s (.bool qJB)), .t (.s (.int .i64 qq)), .t (.im false (qB qDB)), .t (.s (.bool qM)), .t (.s (.int .i64 qL)), .t (.s (.int .i64 qc))])]⟩) ?_ ?_
 ·
  skip
  refine zB ?_; refine zA hL hT [] (by cbv) ?_ ?_; exact zt; rw [show ln (qE qO) = qIC qO from ln_eq qR _]; refine Run.block ?_; refine zH (fun (z28 : Int) => ⟨112, 100000, [(2, .pt 1 0 0), (3, .pt 2 0 0), (5, .t (.s (.int .i64 x11))), (28, .t (.im false (qE qO))), (29, .t (.s (.int .i64 (qIC qO)))), (30, .t (.s (.int .i64 z28)))], [(1, .box 26 [.t (.im false (qB qI))]), (2, .box 32 [.t (.s (.int .i64 qo)), .t (.im false (qE qO)), .t (.s (.int .i64 qp)), .t (.s (.bool qJB)), .t (.s (.int .i64 qq)), .t (.im false (qB qDB)), .t (.s (.bool qM)), .t (.s (.int .i64 qL)), .t (.s (.int .i64 qc))])]⟩) (x0 := 0) h (Weak.of _ [(1, 0), (2, 1)] hA (by cbv) ?_) (fun _ => rfl) ?_
  · repeat first|exact hq0|refine hq (by first|exact Tt|rfl) ?_
  intro k z28 h; rw [quB.l0] at h; refine zB ?_; refine zA hL hT [] (by cbv) ?_ ?_; exact zt; refine zB ?_; refine zC (by cbv) hq0 (fun c29 => ?_) (fun c29 => ?_)
  ·
   have h := if_t c29 h; refine zE (zB ?_); refine Run.block ?_; refine zB ?_; obtain ⟨⟨qGd, qve, qyf⟩, h_x30, h⟩ := bnd h; refine zA hL hT [(0, .el [.s (.int .i64 qGd), .s (.int .i64 qve), .s (.int .i64 qyf)])] (by cbv) ?_ ?_; exact hq (qJ h_x30) (hq (qa (f := qR) h_x30) (hq (qk (f := qR) h_x30) zt)); refine zB ?_; obtain ⟨r31, h_r31, h⟩ := bnd h; obtain ⟨r32, h_r32, h⟩ := bnd h; obtain ⟨r33, h_r33, h⟩ := bnd h
   refine zA hL hT [(4, .call [false, false, false] [.v (.jk), .v (.jk), .v (.jk)] [.v (.s (.bool r31))]), (9, .call [false, false, false] [.v (.jk), .v (.jk), .v (.jk)] [.v (.s (.bool r32))]), (15, .call [false] [.v (.jk)] [.v (.s (.bool r33))])] (by cbv) ?_ ?_; exact hq Tt (hq Tt (hq (hC (qHC h_r31)) (hq zn (hq (fun g35 => (hq g35 zt)) (hq (fun g36 => (hq g36 (hq (hC (qHC (gd_t h_r32 g36))) hq0))) (hq (fun g37 => (hq g37 hq0)) (hq zn (hq (fun q39 => (hq (bo_m q39) hq0)) (hq zn (hq (fun g41 => (hq g41 zt)) (hq (fun g42 => (hq g42 (hq (hC (qnJ (gd_t h_r33 g42))) hq0))) (hq (fun g43 => (hq g43 hq0)) (hq zn (hq (fun q45 => (hq (bo_m q45) hq0)) hq0))))))))))))))
   refine zC (by cbv) hq0 (fun c46 => ?_) (fun c46 => ?_)
   ·
    have h := if_t c46 h; refine zB ?_; refine zA hL hT [] (by cbv) hq0 ?_; refine zD ?_
    cases h
    refine ⟨_, _, by cbv, ?_, ?_⟩; exact LLe.r; exact ALe.v LLe.r ALe.nil
   have h := if_f c46 h; refine zE ?_; refine zA hL hT [] (by cbv) ?_ ?_; exact zt; refine ⟨(ar .add .i64 z28 1), h, Weak.of _ [(1, 1), (2, 2)] hA (by cbv) ?_⟩
   repeat first|exact hq0|refine hq (by first|exact Tt|rfl) ?_
  have h := if_f c29 h; refine zG ?_; refine ⟨(), h, Weak.of _ [(1, 1), (2, 2)] hA (by cbv) ?_⟩
  repeat first|exact hq0|refine hq (by first|exact Tt|rfl) ?_
 intro y12 h; rw [h_K13] at h; obtain ⟨K48, h_K48, h⟩ := joinE h; refine zI K48 (r := r) (fun (y47 : Unit) => ⟨112, 100000, [(2, .pt 1 0 0), (3, .pt 2 0 0), (5, .t (.s (.int .i64 x11)))], [(1, .box 26 [.t (.im false (qB qI))]), (2, .box 32 [.t (.s (.int .i64 qo)), .t (.im false (qE qO)), .t (.s (.int .i64 qp)), .t (.s (.bool qJB)), .t (.s (.int .i64 qq)), .t (.im false (qB qDB)), .t (.s (.bool qM)), .t (.s (.int .i64 qL)), .t (.s (.int .i64 qc))])]⟩) ?_ ?_
 ·
  skip
  refine zB ?_; refine zA hL hT [] (by cbv) ?_ ?_; exact zt; rw [show ln (qB qDB) = qW qDB from ln_eq Int_c _]; refine Run.block ?_; refine zH (fun (z63 : Int) => ⟨112, 100000, [(2, .pt 1 0 0), (3, .pt 2 0 0), (5, .t (.s (.int .i64 x11))), (54, .t (.im false (qB qDB))), (55, .t (.s (.int .i64 (qW qDB)))), (56, .t (.s (.int .i64 z63)))], [(1, .box 26 [.t (.im false (qB qI))]), (2, .box 32 [.t (.s (.int .i64 qo)), .t (.im false (qE qO)), .t (.s (.int .i64 qp)), .t (.s (.bool qJB)), .t (.s (.int .i64 qq)), .t (.im false (qB qDB)), .t (.s (.bool qM)), .t (.s (.int .i64 qL)), .t (.s (.int .i64 qc))])]⟩) (x0 := 0) h (Weak.of _ [(1, 1), (2, 2)] hA (by cbv) ?_) (fun _ => rfl) ?_
  · repeat first|exact hq0|refine hq (by first|exact Tt|rfl) ?_
  intro k z63 h; rw [quB.l1] at h; refine zB ?_; refine zA hL hT [] (by cbv) ?_ ?_; exact zt; refine zB ?_; refine zC (by cbv) hq0 (fun c64 => ?_) (fun c64 => ?_)
  ·
   have h := if_t c64 h; refine zE (zB ?_); refine Run.block ?_; refine zB ?_; obtain ⟨x65, h_x65, h⟩ := bnd h; refine zA hL hT [(1, .el [.s (.int .i64 x65)])] (by cbv) ?_ ?_; exact hq (qJ h_x65) (hq (qa (f := Int_c) h_x65) (hq (qk (f := Int_c) h_x65) hq0)); refine zB ?_; obtain ⟨r66, h_r66, h⟩ := bnd h; obtain ⟨x67, h_x67, h⟩ := bnd h; refine zA hL hT [(3, .call [false, false, false] [.v (.jk), .v (.jk), .v (.jk)] [.v (.s (.bool r66))]), (13, .el [.s (.int .i64 x67)])] (by cbv) ?_ ?_
   exact hq Tt (hq (hC (qHC h_r66)) (hq zn (hq (fun g69 => (hq g69 zt)) (hq (fun g70 => (hq g70 hq0)) (hq zn (hq (fun g72 => (hq g72 zt)) (hq zn (hq (fun g74 => (hq g74 zt)) (hq (fun g75 => (hq g75 (hq g75 (hq (qJ (gd_t h_x67 g75)) (hq (qa (f := Int_c) (gd_t h_x67 g75)) (hq (qk (f := Int_c) (gd_t h_x67 g75)) hq0)))))) (hq (fun g76 => (hq g76 hq0)) (hq zn (hq (fun g78 => (hq g78 (hq g78 zt))) (hq (fun g79 => (hq g79 (hq (fun q80 => (hq (bo_a g79 q80) hq0)) (hq zn hq0)))) (hq zn (hq (fun q83 => (hq (bo_m q83) hq0)) hq0)))))))))))))))
   refine zC (by cbv) hq0 (fun c84 => ?_) (fun c84 => ?_)
   ·
    have h := if_t c84 h; refine zB ?_; refine zA hL hT [] (by cbv) hq0 ?_; refine zD ?_
    cases h
    refine ⟨_, _, by cbv, ?_, ?_⟩; exact LLe.r; exact ALe.v LLe.r ALe.nil
   have h := if_f c84 h; refine zE ?_; refine zA hL hT [] (by cbv) ?_ ?_; exact zt; refine ⟨(ar .add .i64 z63 1), h, Weak.of _ [(1, 1), (2, 2)] hA (by cbv) ?_⟩
   repeat first|exact hq0|refine hq (by first|exact Tt|rfl) ?_
  have h := if_f c64 h; refine zG ?_; refine ⟨(), h, Weak.of _ [(1, 1), (2, 2)] hA (by cbv) ?_⟩
  repeat first|exact hq0|refine hq (by first|exact Tt|rfl) ?_
 intro y47 h; rw [h_K48] at h; refine zB ?_; obtain ⟨r85, h_r85, h⟩ := bnd h; refine zA hL hT [(3, .call [false, false, false] [.v (.jk), .v (.jk), .v (.jk)] [.v (.s (.bool r85))])] (by cbv) ?_ ?_; exact hq Tt (hq (hC (qHC h_r85)) (hq zn (hq (fun g87 => (hq g87 zt)) (hq (fun g88 => (hq g88 hq0)) (hq (fun g89 => (hq g89 hq0)) (hq zn (hq (fun g91 => (hq g91 zt)) (hq (fun g92 => (hq g92 zt)) (hq (fun g93 => (hq g93 (hq zn (hq (fun q95 => (hq (bo_a g93 (bo_m q95)) hq0)) hq0)))) (hq (fun q96 => (hq q96 hq0)) (hq zn hq0)))))))))))
 refine zB ?_; obtain ⟨r98, h_r98, h⟩ := bnd h; obtain ⟨r99, h_r99, h⟩ := bnd h; refine zA hL hT [(10, .call [false, false, false] [.v (.jk), .v (.jk), .v (.jk)] [.v (.s (.bool r98))]), (15, .call [false, false] [.ag [.jk], .ag [.jk, .jk, .jk, .jk, .jk, .jk, .jk, .jk, .jk]] [.v (.s (.bool r99))])] (by cbv) ?_ ?_; exact hq Tt (hq Tt (hq zn (hq (fun q101 => (by have q101C := q101; rw [show ln (qE qO) = qIC qO from ln_eq qR _] at q101C; exact (hq q101 hq0))) (hq zn (hq zn (hq (fun g104 => (by have g104C := g104; rw [show ln (qE qO) = qIC qO from ln_eq qR _] at g104C; exact (hq g104 zt))) (hq (fun g105 => (by have g105C := g105; rw [show ln (qE qO) = qIC qO from ln_eq qR _] at g105C; exact (hq g105 (hq (hC (qHC (gd_t h_r98 g105C))) hq0)))) (hq (fun q106 => (by have q106C := q106; rw [show ln (qE qO) = qIC qO from ln_eq qR _] at q106C; exact (hq q106 hq0))) (hq zn (hq (fun g108 => (by have g108C := g108; rw [show ln (qE qO) = qIC qO from ln_eq qR _] at g108C; exact zt)) (hq (fun g109 => (by have g109C := g109; rw [show ln (qE qO) = qIC qO from ln_eq qR _] at g109C; exact zt)) (hq (fun g110 => (by have g110C := g110; rw [show ln (qE qO) = qIC qO from ln_eq qR _] at g110C; exact (hq g110 (hq g110 (hq (hC (qDQ (gd_t h_r99 g110C))) hq0))))) (hq (fun q111 => (by have q111C := q111; rw [show ln (qE qO) = qIC qO from ln_eq qR _] at q111C; exact (hq q111 hq0))) (hq zn hq0))))))))))))))
 rw [show ln (qE qO) = qIC qO from ln_eq qR _]; refine zD ?_
 cases h
 refine ⟨_, _, by cbv, ?_, ?_⟩; exact LLe.r; exact ALe.v LLe.r ALe.nil
theorem qzJ {a0 : List Int} {r : (List Int)} (h : qRF.f a0 = some r) : AC Tryz.prog 102 [.v (.im false (rowsOf Int_c a0))] [.v (.jk)] [.v (.ow 3 (rowsOf Int_c r))] := by
 unfold qRF.f at h; let qB := rowsOf Int_c
 show AC _ _ [.v (.im false (qB a0))] _ _
 refine run3 Tryz.func102 (by rfl) (by rfl) (by cbv) ⟨by decide, rfl⟩ ?_; intro ar cm bo sc sa sx ss sl bs sb ln sr ap up rp fr ge le lt nz mm ma sm fl al ci hL F hP hA hT hM hC; refine zB ?_; refine zA hL hT [] (by cbv) hq0 ?_; refine zB ?_; obtain ⟨l1, h_l1, h⟩ := bnd h; refine zA hL hT [] (by cbv) ?_ ?_; exact hq (qNO qsT _) (hq (qGD (P := Tryz.prog) (f := Int_c) RLe.r RLe.r h_l1) hq0); refine Run.row (rows := (ap ([]) ((qB a0)))) 4098 (qB l1) (by cbv) (qFD (f := Int_c) RLe.r RLe.r h_l1) ?_
 refine zD ?_
 cases h
 refine ⟨_, _, by cbv, ?_, ?_⟩; exact LLe.r; exact ALe.v LLe.r ALe.nil
theorem qEQ {qtD : Int} {qQB : List Int} {r : Row} (h : qxG.f (Row.mk qtD qQB) = some r) : AC Tryz.prog 56 [.ag [.s (.int .i64 qtD), .im false (rowsOf Int_c qQB)]] [.ag [.jk, .jk]] [.ag [.s (.int .i64 r.Id), .ow 3 (rowsOf Int_c r.Cells)]] := by
 unfold qxG.f at h; let qB := rowsOf Int_c
 show AC _ _ [.ag [.s (.int .i64 qtD), .im false (qB qQB)]] _ _
 refine run3 Tryz.func56 (by rfl) (by rfl) (by cbv) ⟨by decide, rfl⟩ ?_; intro ar cm bo sc sa sx ss sl bs sb ln sr ap up rp fr ge le lt nz mm ma sm fl al ci hL F hP hA hT hM hC; refine zB ?_; refine zA hL hT [] (by cbv) hq0 ?_; refine zB ?_; obtain ⟨r1, h_r1, h⟩ := bnd h; refine zF hL hT hM [(4, .call [false] [.v (.jk)] [.v (.ow 3 (qB r1))])] (by cbv) (by cbv) (by cbv) (by cbv) (by cbv) ?_ ?_; exact hq Tt (hq Tt (hq (hC (qzJ h_r1)) zt))
 refine zD ?_
 cases h
 refine ⟨_, _, by cbv, ?_, ?_⟩; exact LLe.r; exact ALe.ag rfl LLe.r ALe.nil
theorem qzI {qtD : Int} {qQB : List Int} {a1 r : Int} (h : qjF.f (Row.mk qtD qQB) a1 = some r) : AC Tryz.prog 67 [.ag [.s (.int .i64 qtD), .im false (rowsOf Int_c qQB)], .v (.s (.int .i64 a1))] [.ag [.jk, .jk], .v (.jk)] [.v (.s (.int .i64 r))] := by
 unfold qjF.f at h; let qB := rowsOf Int_c; let qW := @lenI Int
 show AC _ _ [.ag [.s (.int .i64 qtD), .im false (qB qQB)], .v (.s (.int .i64 a1))] _ _
 refine run3 Tryz.func67 (by rfl) (by rfl) (by cbv) ⟨by decide, rfl⟩ ?_; intro ar cm bo sc sa sx ss sl bs sb ln sr ap up rp fr ge le lt nz mm ma sm fl al ci hL F hP hA hT hM hC; refine zB ?_; refine zA hL hT [] (by cbv) hq0 ?_; refine zB (zB ?_); obtain ⟨r1, h_r1, h⟩ := bnd h; refine zA hL hT [(5, .call [false, false, false] [.v (.jk), .v (.jk), .v (.jk)] [.v (.s (.bool r1))])] (by cbv) ?_ ?_
 exact hq Tt (hq Tt (hq (by rw [show ln (qB qQB) = qW qQB from ln_eq Int_c _]; exact (hC (qHC h_r1))) hq0)); rw [show ln (qB qQB) = qW qQB from ln_eq Int_c _]; refine zC (by cbv) hq0 (fun c2 => ?_) (fun c2 => ?_)
 ·
  have h := if_t c2 h; refine zB ?_; refine zA hL hT [] (by cbv) hq0 ?_; refine zD ?_
  cases h
  refine ⟨_, _, by cbv, ?_, ?_⟩; exact LLe.r; exact ALe.v LLe.r ALe.nil
 have h := if_f c2 h; refine zE (zB ?_); obtain ⟨x3, h_x3, h⟩ := bnd h; refine zA hL hT [(3, .el [.s (.int .i64 x3)])] (by cbv) ?_ ?_; exact hq Tt (hq (qJ h_x3) (hq (qa (f := Int_c) h_x3) (hq (qk (f := Int_c) h_x3) hq0))); refine zD ?_
 cases h
 refine ⟨_, _, by cbv, ?_, ?_⟩; exact LLe.r; exact ALe.v LLe.r ALe.nil
theorem qiM {qw : Int} {qi : List Cond} {qx : Int} {qMB : Bool} {qy : Int} {qEB : List Int} {qU : Bool} {qN qh qhC : Int} {qn : List Int} {qyE : Int} {qbB : List Int} {r : Bool} (h : qiH.f (Query.mk qw qi qx qMB qy qEB qU qN qh) (Row.mk qhC qn) (Row.mk qyE qbB) = some r) : AC Tryz.prog 23 [.ag [.s (.int .i64 qw), .im false (rowsOf qR qi), .s (.int .i64 qx), .s (.bool qMB), .s (.int .i64 qy), .im false (rowsOf Int_c qEB), .s (.bool qU), .s (.int .i64 qN), .s (.int .i64 qh)], .ag [.s (.int .i64 qhC), .im false (rowsOf Int_c qn)], .ag [.s (.int .i64 qyE), .im false (rowsOf Int_c qbB)]] [.ag [.jk, .jk, .jk, .jk, .jk, .jk, .jk, .jk, .jk], .ag [.jk, .jk], .ag [.jk, .jk]] [.v (.s (.bool r))] := by
 unfold qiH.f at h; let qE := rowsOf qR; let qB := rowsOf Int_c
 show AC _ _ [.ag [.s (.int .i64 qw), .im false (qE qi), .s (.int .i64 qx), .s (.bool qMB), .s (.int .i64 qy), .im false (qB qEB), .s (.bool qU), .s (.int .i64 qN), .s (.int .i64 qh)], .ag [.s (.int .i64 qhC), .im false (qB qn)], .ag [.s (.int .i64 qyE), .im false (qB qbB)]] _ _
 refine run3 Tryz.func23 (by rfl) (by rfl) (by cbv) ⟨by decide, rfl⟩ ?_; intro ar cm bo sc sa sx ss sl bs sb ln sr ap up rp fr ge le lt nz mm ma sm fl al ci hL F hP hA hT hM hC; refine zB ?_; refine zA hL hT [] (by cbv) hq0 ?_; refine zB (zB ?_); refine zA hL hT [] (by cbv) ?_ ?_; exact hq Tt zt; refine zC (by cbv) hq0 (fun c1 => ?_) (fun c1 => ?_)
 ·
  have h := if_t c1 h; refine zB ?_; refine zA hL hT [] (by cbv) ?_ ?_; exact hq Tt (hq Tt zt); refine zD ?_
  cases h
  refine ⟨_, _, by cbv, ?_, ?_⟩; exact LLe.r; exact ALe.v LLe.r ALe.nil
 have h := if_f c1 h; refine zE (zB ?_); obtain ⟨r2, h_r2, h⟩ := bnd h; obtain ⟨r3, h_r3, h⟩ := bnd h; refine zF hL hT hM [(4, .call [false, false] [.ag [.jk, .jk], .v (.jk)] [.v (.s (.int .i64 r2))]), (9, .call [false, false] [.ag [.jk, .jk], .v (.jk)] [.v (.s (.int .i64 r3))])] (by cbv) (by cbv) (by cbv) (by cbv) (by cbv) ?_ ?_; exact hq Tt (hq Tt (hq Tt (hq (hC (qzI h_r2)) (hq Tt (hq Tt (hq Tt (hq (hC (qzI h_r3)) hq0)))))))
 refine zB ?_; refine Run.block ?_; refine zB ?_; refine zA hL hT [] (by cbv) ?_ ?_; exact zt; refine zC (by cbv) hq0 (fun c4 => ?_) (fun c4 => ?_)
 ·
  have h := if_t c4 h; refine zB ?_; refine zA hL hT [] (by cbv) ?_ ?_; exact hq Tt (hq Tt zt); refine zD ?_
  cases h
  refine ⟨_, _, by cbv, ?_, ?_⟩; exact LLe.r; exact ALe.v LLe.r ALe.nil
 have h := if_f c4 h; refine zB ?_; refine zA hL hT [] (by cbv) ?_ ?_; exact zt; refine zC (by cbv) hq0 (fun c5 => ?_) (fun c5 => ?_)
 ·
  have h := if_t c5 h; refine zB ?_; refine zA hL hT [] (by cbv) ?_ ?_; exact zt; refine zD ?_
  cases h
  refine ⟨_, _, by cbv, ?_, ?_⟩; exact LLe.r; exact ALe.v LLe.r ALe.nil
 have h := if_f c5 h; refine zE (zB ?_); refine zA hL hT [] (by cbv) ?_ ?_; exact zt; refine zD ?_
 cases h
 refine ⟨_, _, by cbv, ?_, ?_⟩; exact LLe.r; exact ALe.v LLe.r ALe.nil
theorem qTF {qtD : Int} {qQB : List Int} {qhC : Int} {qn : List Int} {qFQ : Int} {qGQ : List Cond} {qHQ : Int} {qAU : Bool} {qIQ : Int} {qBU : List Int} {qCU : Bool} {qZK qkN r : Int} (h : qsD.f (Row.mk qtD qQB) (Row.mk qhC qn) (Query.mk qFQ qGQ qHQ qAU qIQ qBU qCU qZK qkN) = some r) : AC Tryz.prog 58 [.ag [.s (.int .i64 qtD), .im false (rowsOf Int_c qQB)], .ag [.s (.int .i64 qhC), .im false (rowsOf Int_c qn)], .v (.ip [.s (.int .i64 qFQ), .im false (rowsOf qR qGQ), .s (.int .i64 qHQ), .s (.bool qAU), .s (.int .i64 qIQ), .im false (rowsOf Int_c qBU), .s (.bool qCU), .s (.int .i64 qZK), .s (.int .i64 qkN)])] [.ag [.jk, .jk], .ag [.jk, .jk], .v (.jk)] [.v (.s (.int .i64 r))] := by
 unfold qsD.f at h; let qE := rowsOf qR; let qB := rowsOf Int_c
 show AC _ _ [.ag [.s (.int .i64 qtD), .im false (qB qQB)], .ag [.s (.int .i64 qhC), .im false (qB qn)], .v (.ip [.s (.int .i64 qFQ), .im false (qE qGQ), .s (.int .i64 qHQ), .s (.bool qAU), .s (.int .i64 qIQ), .im false (qB qBU), .s (.bool qCU), .s (.int .i64 qZK), .s (.int .i64 qkN)])] _ _
 refine run3 Tryz.func58 (by rfl) (by rfl) (by cbv) ⟨by decide, rfl⟩ ?_; intro ar cm bo sc sa sx ss sl bs sb ln sr ap up rp fr ge le lt nz mm ma sm fl al ci hL F hP hA hT hM hC; refine zB ?_; refine zA hL hT [] (by cbv) hq0 ?_; refine zB (zB ?_); obtain ⟨r1, h_r1, h⟩ := bnd h; refine zA hL hT [(3, .call [false, false, false] [.ag [.jk, .jk, .jk, .jk, .jk, .jk, .jk, .jk, .jk], .ag [.jk, .jk], .ag [.jk, .jk]] [.v (.s (.bool r1))])] (by cbv) ?_ ?_
 exact hq Tt (hq Tt (hq (hC (qiM h_r1)) hq0)); refine zC (by cbv) hq0 (fun c2 => ?_) (fun c2 => ?_)
 ·
  have h := if_t c2 h; refine zB ?_; refine zA hL hT [] (by cbv) hq0 ?_; refine zD ?_
  cases h
  refine ⟨_, _, by cbv, ?_, ?_⟩; exact LLe.r; exact ALe.v LLe.r ALe.nil
 have h := if_f c2 h; refine zE (zB ?_); refine zA hL hT [] (by cbv) hq0 ?_; refine zD ?_
 cases h
 refine ⟨_, _, by cbv, ?_, ?_⟩; exact LLe.r; exact ALe.v LLe.r ALe.nil
theorem qgC {a0 : List Row} {a1 a2 qXG : Int} {qYG : List Cond} {qZG : Int} {qkH : Bool} {qaG : Int} {qlH : List Int} {qmH : Bool} {quE qxF : Int} {r : (List Row)} (h : qD.f a0 a1 a2 (Query.mk qXG qYG qZG qkH qaG qlH qmH quE qxF) = some r) : AC Tryz.prog 150 [.v (.ow 56 (rowsOf Row_o a0)), .v (.s (.int .i64 a1)), .v (.s (.int .i64 a2)), .v (.fn 58 [.ip [.s (.int .i64 qXG), .im false (rowsOf qR qYG), .s (.int .i64 qZG), .s (.bool qkH), .s (.int .i64 qaG), .im false (rowsOf Int_c qlH), .s (.bool qmH), .s (.int .i64 quE), .s (.int .i64 qxF)]])] [.v (.ow 56 (rowsOf Row_o r)), .v (.jk), .v (.jk), .v (.jk)] [] := by
 unfold qD.f at h; let qE := rowsOf qR; let qB := rowsOf Int_c; let qP := rowsOf Row_o
 show AC _ _ [.v (.ow 56 (qP a0)), .v (.s (.int .i64 a1)), .v (.s (.int .i64 a2)), .v (.fn 58 [.ip [.s (.int .i64 qXG), .im false (qE qYG), .s (.int .i64 qZG), .s (.bool qkH), .s (.int .i64 qaG), .im false (qB qlH), .s (.bool qmH), .s (.int .i64 quE), .s (.int .i64 qxF)]])] _ _
 refine run3 Tryz.func150 (by rfl) (by rfl) (by cbv) ⟨by decide, rfl⟩ ?_; intro ar cm bo sc sa sx ss sl bs sb ln sr ap up rp fr ge le lt nz mm ma sm fl al ci hL F hP hA hT hM hC; refine Run.weak ?_ (Weak.fnT 3 (by cbv)); refine zB ?_; refine zA hL hT [] (by cbv) ?_ ?_; exact zt; refine Run.block ?_; refine zJ (fun (z14 : List Row) (z15 : Int) => ⟨53, 100000, [(0, .rf 0), (1, .t (.s (.int .i64 a1))), (2, .t (.s (.int .i64 a2))), (3, .fn 58 [.t (.ip [.s (.int .i64 qXG), .im false (qE qYG), .s (.int .i64 qZG), .s (.bool qkH), .s (.int .i64 qaG), .im false (qB qlH), .s (.bool qmH), .s (.int .i64 quE), .s (.int .i64 qxF)])]), (8, .t (.s (.int .i64 z15)))], [(0, .row 0 56 2 (qP z14))]⟩) (x0 := a0) (x1 := (ar .add .i64 a1 1)) h (Weak.of _ [(0, 0)] hA (by cbv) ?_) (fun _ _ => rfl) ?_
 · repeat first|exact hq0|refine hq (by first|exact Tt|rfl) ?_
 intro k z14 z15 h; rw [qD.l0] at h; refine zB (zB ?_); refine zA hL hT [] (by cbv) ?_ ?_; exact zt; refine zC (by cbv) hq0 (fun c16 => ?_) (fun c16 => ?_)
 ·
  have h := if_t c16 h; refine zE ?_; obtain ⟨K18, h_K18, h⟩ := joinE h; refine zI K18 (r := r) (fun (y17 : List Row) => ⟨53, 100000, [(0, .rf 0), (1, .t (.s (.int .i64 a1))), (2, .t (.s (.int .i64 a2))), (3, .fn 58 [.t (.ip [.s (.int .i64 qXG), .im false (qE qYG), .s (.int .i64 qZG), .s (.bool qkH), .s (.int .i64 qaG), .im false (qB qlH), .s (.bool qmH), .s (.int .i64 quE), .s (.int .i64 qxF)])]), (8, .t (.s (.int .i64 z15)))], [(0, .row 0 56 2 (qP y17))]⟩) ?_ ?_
  ·
   skip
   refine Run.block ?_; refine zB ?_; refine zA hL hT [] (by cbv) hq0 ?_; refine Run.block ?_; refine zJ (fun (z33 : List Row) (z34 : Int) => ⟨53, 100000, [(0, .rf 0), (1, .t (.s (.int .i64 a1))), (2, .t (.s (.int .i64 a2))), (3, .fn 58 [.t (.ip [.s (.int .i64 qXG), .im false (qE qYG), .s (.int .i64 qZG), .s (.bool qkH), .s (.int .i64 qaG), .im false (qB qlH), .s (.bool qmH), .s (.int .i64 quE), .s (.int .i64 qxF)])]), (8, .t (.s (.int .i64 z15))), (9, .t (.s (.int .i64 z34)))], [(0, .row 0 56 2 (qP z33))]⟩) (x0 := z14) (x1 := z15) h (Weak.of _ [(0, 0)] hA (by cbv) ?_) (fun _ _ => rfl) ?_
   · repeat first|exact hq0|refine hq (by first|exact Tt|rfl) ?_
   intro k z33 z34 h; rw [qD.l1] at h; refine zB (zB ?_); obtain ⟨⟨qwe, qEZ⟩, h_x35, h⟩ := bnd h; obtain ⟨⟨qJQ, qlN⟩, h_x36, h⟩ := bnd h; obtain ⟨r37, h_r37, h⟩ := bnd h; refine zF hL hT hM [(8, .el [.s (.int .i64 qwe), .ow 3 (qB qEZ)]), (13, .el [.s (.int .i64 qJQ), .ow 3 (qB qlN)]), (14, .call [false, false] [.ag [.jk, .jk], .ag [.jk, .jk], .v (.jk)] [.v (.s (.int .i64 r37))])] (by cbv) (by cbv) (by cbv) (by cbv) (by cbv) ?_ ?_
   exact hq Tt (hq zn (hq zn (hq zn (hq (fun g41 => (hq g41 (hq g41 (hq (qJ (gd_t h_x35 g41)) (hq (qa (f := Row_o) (gd_t h_x35 g41)) hq0))))) (hq (fun g42 => (hq g42 (hq (qJ (gd_t h_x35 g42)) (hq (qa (f := Row_o) (gd_t h_x35 g42)) (hq (qk (f := Row_o) (gd_t h_x35 g42)) hq0))))) (hq zn (hq zn (hq (fun g45 => (hq g45 zt)) (hq (fun g46 => (hq g46 (hq g46 (hq (qJ (gd_t h_x36 g46)) (hq (qa (f := Row_o) (gd_t h_x36 g46)) hq0))))) (hq (fun g47 => (hq g47 (hq (qJ (gd_t h_x36 g47)) (hq (qa (f := Row_o) (gd_t h_x36 g47)) (hq (qk (f := Row_o) (gd_t h_x36 g47)) hq0))))) (hq (fun g48 => (hq g48 (hq g48 (hq g48 (hq (hC (AC.args (qTF (gd_t h_r37 g48)) (ALe.ag rfl (LLe.c (LLe.cons (LLe.im (RLe.eq (qz qJC _))) LLe.nil)) (ALe.ag rfl (LLe.c (LLe.cons (LLe.im (RLe.eq (qz qJC _))) LLe.nil)) (ALe.v LLe.r ALe.nil))))) hq0))))) (hq (fun g49 => (hq g49 zt)) (hq (fun q50 => (hq q50 hq0)) (hq zn hq0))))))))))))))
   refine zC (by cbv) hq0 (fun c52 => ?_) (fun c52 => ?_)
   ·
    have h := if_t c52 h; refine zE (zB ?_); refine Run.block ?_; obtain ⟨⟨qJb, qcS⟩, h_x53, h⟩ := bnd h; obtain ⟨⟨qKb, qdS⟩, h_x54, h⟩ := bnd h; obtain ⟨u55, h_u55, h⟩ := bnd h; obtain ⟨l56, h_l56, h⟩ := bnd h; refine Run.weak ?_ (Weak.take2 (rows := qP z33) (e2 := 3) (r1 := qB qcS) (r2 := qB qdS) hT 0 (ar .sub .i64 z34 1) z34 1 107096 1107096 107097 1107097 (by cbv) (by cbv) (by cbv) (by cbv) (by cbv) (by cbv) (qPE h_x53) (qVF Row_o h_x53) ((congrArg (fun q => q[1]?) (qk (f := Row_o) h_x53)).trans rfl) rfl (qPE h_x54) (qVF Row_o h_x54) (ne_t h_u55) ((congrArg (fun q => q[1]?) (qk (f := Row_o) h_x54)).trans rfl) rfl (by cbv) (up (up (qP z33) (ar .sub .i64 z34 1) 1 [.jk]) z34 1 [.jk]) rfl)
    refine zF hL hT hM [(9, .lk [.s (.int .i64 qJb), .jk] [(1, 1107096)]), (13, .lk [.s (.int .i64 qKb), .jk] [(1, 1107097)])] (by cbv) (by cbv) (by cbv) (by cbv) (by cbv) ?_ ?_; exact hq Tt (hq Tt (hq (qJ h_x53) (hq (sw_lt Row_o h_x53) (hq Tt (hq (qJ h_x53) (hq (sw_lt Row_o h_x53) (hq (qHV Row_o h_x53 h_x54 (ne_t h_u55)) (hq (qJ h_x54) (hq (sw_lt Row_o h_x54) (hq Tt (hq (qJ h_x54) (hq (sw_lt Row_o h_x54) (hq (qIV Row_o h_x53 h_x54 (ne_t h_u55)) (hq (qJ h_x54) (hq (sw_lt Row_o h_x54) (hq (qJ h_x54) (hq (sw_lt Row_o h_x54) (hq (qJ h_x53) (hq (qOO Row_o h_x53) (hq (qJ h_x53) (hq (qOO Row_o h_x53) hq0)))))))))))))))))))))
    refine Run.row (rows := (up (up (up (up (qP z33) (ar .sub .i64 z34 1) 1 [.jk]) z34 1 [.jk]) z34 0 [.s (.int .i64 qJb), .ow 3 (qB qcS)]) (ar .sub .i64 z34 1) 0 [.s (.int .i64 qKb), .ow 3 (qB qdS)])) 0 (qP l56) (by cbv) (qNT (f := Row_o) qgN h_x53 h_x54 (ne_t h_u55) (by decide) (.inr ⟨rfl, rfl⟩) h_l56 rfl rfl) ?_; refine zA hL hT [] (by cbv) ?_ ?_; exact zt; refine ⟨l56, (ar .sub .i64 z34 1), h, Weak.of _ [(0, 0)] hA (by cbv) ?_⟩
    repeat first|exact hq0|refine hq (by first|exact Tt|rfl) ?_
   have h := if_f c52 h; refine zG ?_; refine ⟨z33, h, Weak.of _ [(0, 0)] hA (by cbv) ?_⟩
   repeat first|exact hq0|refine hq (by first|exact Tt|rfl) ?_
  intro y17 h; rw [h_K18] at h; refine zA hL hT [] (by cbv) ?_ ?_; exact zt; refine ⟨y17, (ar .add .i64 z15 1), h, Weak.of _ [(0, 0)] hA (by cbv) ?_⟩
  repeat first|exact hq0|refine hq (by first|exact Tt|rfl) ?_
 have h := if_f c16 h; refine zG ?_
 cases h
 refine ⟨_, _, by cbv, ?_, ?_⟩; exact LLe.r; exact ALe.nil
theorem qLC {a0 : List Row} {a1 a2 a3 qRB : Int} {qSB : List Cond} {qTB : Int} {qnB : Bool} {qUB : Int} {qoB : List Int} {qpB : Bool} {qu qNB : Int} {r : (List Row)} (h : qG.f a0 a1 a2 a3 (Query.mk qRB qSB qTB qnB qUB qoB qpB qu qNB) = some r) : AC Tryz.prog 174 [.v (.ow 56 (rowsOf Row_o a0)), .v (.s (.int .i64 a1)), .v (.s (.int .i64 a2)), .v (.s (.int .i64 a3)), .v (.fn 58 [.ip [.s (.int .i64 qRB), .im false (rowsOf qR qSB), .s (.int .i64 qTB), .s (.bool qnB), .s (.int .i64 qUB), .im false (rowsOf Int_c qoB), .s (.bool qpB), .s (.int .i64 qu), .s (.int .i64 qNB)]])] [.v (.ow 56 (rowsOf Row_o r)), .v (.jk), .v (.jk), .v (.jk), .v (.jk)] [] := by
 unfold qG.f at h; let qE := rowsOf qR; let qB := rowsOf Int_c; let qP := rowsOf Row_o
 show AC _ _ [.v (.ow 56 (qP a0)), .v (.s (.int .i64 a1)), .v (.s (.int .i64 a2)), .v (.s (.int .i64 a3)), .v (.fn 58 [.ip [.s (.int .i64 qRB), .im false (qE qSB), .s (.int .i64 qTB), .s (.bool qnB), .s (.int .i64 qUB), .im false (qB qoB), .s (.bool qpB), .s (.int .i64 qu), .s (.int .i64 qNB)]])] _ _
 refine run3 Tryz.func174 (by rfl) (by rfl) (by cbv) ⟨by decide, rfl⟩ ?_; intro ar cm bo sc sa sx ss sl bs sb ln sr ap up rp fr ge le lt nz mm ma sm fl al ci hL F hP hA hT hM hC; refine Run.weak ?_ (Weak.fnT 4 (by cbv)); refine zB ?_; refine zA hL hT [] (by cbv) hq0 ?_; refine Run.block ?_; refine zJ (fun (z6 : List Row) (z7 : Int) => ⟨38, 100000, [(0, .rf 0), (1, .t (.s (.int .i64 a1))), (2, .t (.s (.int .i64 a2))), (3, .t (.s (.int .i64 a3))), (10, .t (.s (.int .i64 z7)))], [(0, .row 0 56 2 (qP z6))]⟩) (x0 := a0) (x1 := 0) h (Weak.of _ [(0, 0)] hA (by cbv) ?_) (fun _ _ => rfl) ?_
 · repeat first|exact hq0|refine hq (by first|exact Tt|rfl) ?_
 intro k z6 z7 h; rw [qG.l0] at h; refine zB (zB ?_); refine zA hL hT [] (by cbv) ?_ ?_; exact zt; refine zC (by cbv) hq0 (fun c8 => ?_) (fun c8 => ?_)
 ·
  have h := if_t c8 h; refine zE (zB ?_); refine Run.block ?_; obtain ⟨⟨qaK, qBI⟩, h_x9, h⟩ := bnd h; obtain ⟨⟨qDU, qGL⟩, h_x10, h⟩ := bnd h; obtain ⟨u11, h_u11, h⟩ := bnd h; obtain ⟨l12, h_l12, h⟩ := bnd h; refine Run.weak ?_ (Weak.take2 (rows := qP z6) (e2 := 3) (r1 := qB qBI) (r2 := qB qGL) hT 0 (ar .add .i64 a2 z7) (ar .add .i64 a1 z7) 1 107096 1107096 107097 1107097 (by cbv) (by cbv) (by cbv) (by cbv) (by cbv) (by cbv) (qPE h_x9) (qVF Row_o h_x9) ((congrArg (fun q => q[1]?) (qk (f := Row_o) h_x9)).trans rfl) rfl (qPE h_x10) (qVF Row_o h_x10) (ne_t h_u11) ((congrArg (fun q => q[1]?) (qk (f := Row_o) h_x10)).trans rfl) rfl (by cbv) (up (up (qP z6) (ar .add .i64 a2 z7) 1 [.jk]) (ar .add .i64 a1 z7) 1 [.jk]) rfl)
  refine zF hL hT hM [(13, .lk [.s (.int .i64 qaK), .jk] [(1, 1107096)]), (19, .lk [.s (.int .i64 qDU), .jk] [(1, 1107097)])] (by cbv) (by cbv) (by cbv) (by cbv) (by cbv) ?_ ?_; exact hq Tt (hq Tt (hq Tt (hq (qJ h_x9) (hq (sw_lt Row_o h_x9) (hq Tt (hq (qJ h_x9) (hq (sw_lt Row_o h_x9) (hq (qHV Row_o h_x9 h_x10 (ne_t h_u11)) (hq Tt (hq (qJ h_x10) (hq (sw_lt Row_o h_x10) (hq Tt (hq (qJ h_x10) (hq (sw_lt Row_o h_x10) (hq (qIV Row_o h_x9 h_x10 (ne_t h_u11)) (hq (qJ h_x10) (hq (sw_lt Row_o h_x10) (hq (qJ h_x10) (hq (sw_lt Row_o h_x10) (hq (qJ h_x9) (hq (qOO Row_o h_x9) (hq (qJ h_x9) (hq (qOO Row_o h_x9) hq0)))))))))))))))))))))))
  refine Run.row (rows := (up (up (up (up (qP z6) (ar .add .i64 a2 z7) 1 [.jk]) (ar .add .i64 a1 z7) 1 [.jk]) (ar .add .i64 a1 z7) 0 [.s (.int .i64 qaK), .ow 3 (qB qBI)]) (ar .add .i64 a2 z7) 0 [.s (.int .i64 qDU), .ow 3 (qB qGL)])) 0 (qP l12) (by cbv) (qNT (f := Row_o) qgN h_x9 h_x10 (ne_t h_u11) (by decide) (.inr ⟨rfl, rfl⟩) h_l12 rfl rfl) ?_; refine zA hL hT [] (by cbv) ?_ ?_; exact zt; refine ⟨l12, (ar .add .i64 z7 1), h, Weak.of _ [(0, 0)] hA (by cbv) ?_⟩
  repeat first|exact hq0|refine hq (by first|exact Tt|rfl) ?_
 have h := if_f c8 h; refine zG ?_
 cases h
 refine ⟨_, _, by cbv, ?_, ?_⟩; exact LLe.r; exact ALe.nil
theorem qME {a0 : List Row} {a1 a2 a3 qRB : Int} {qSB : List Cond} {qTB : Int} {qnB : Bool} {qUB : Int} {qoB : List Int} {qpB : Bool} {qu qNB : Int} {r : (List Row)} (h : qH.f a0 a1 a2 a3 (Query.mk qRB qSB qTB qnB qUB qoB qpB qu qNB) = some r) : AC Tryz.prog 165 [.v (.ow 56 (rowsOf Row_o a0)), .v (.s (.int .i64 a1)), .v (.s (.int .i64 a2)), .v (.s (.int .i64 a3)), .v (.fn 58 [.ip [.s (.int .i64 qRB), .im false (rowsOf qR qSB), .s (.int .i64 qTB), .s (.bool qnB), .s (.int .i64 qUB), .im false (rowsOf Int_c qoB), .s (.bool qpB), .s (.int .i64 qu), .s (.int .i64 qNB)]])] [.v (.ow 56 (rowsOf Row_o r)), .v (.jk), .v (.jk), .v (.jk), .v (.jk)] [] := by
 unfold qH.f at h; let qE := rowsOf qR; let qB := rowsOf Int_c; let qP := rowsOf Row_o
 show AC _ _ [.v (.ow 56 (qP a0)), .v (.s (.int .i64 a1)), .v (.s (.int .i64 a2)), .v (.s (.int .i64 a3)), .v (.fn 58 [.ip [.s (.int .i64 qRB), .im false (qE qSB), .s (.int .i64 qTB), .s (.bool qnB), .s (.int .i64 qUB), .im false (qB qoB), .s (.bool qpB), .s (.int .i64 qu), .s (.int .i64 qNB)]])] _ _
 refine run3 Tryz.func165 (by rfl) (by rfl) (by cbv) ⟨by decide, rfl⟩ ?_; intro ar cm bo sc sa sx ss sl bs sb ln sr ap up rp fr ge le lt nz mm ma sm fl al ci hL F hP hA hT hM hC; refine Run.weak ?_ (Weak.fnT 4 (by cbv)); refine zB ?_; refine zA hL hT [] (by cbv) ?_ ?_; exact zt; refine zB ?_; refine zA hL hT [] (by cbv) ?_ ?_; exact zt; obtain ⟨K3, h_K3, h⟩ := joinE h; refine zM K3 (r := r) (fun (y1 : List Row) (y2 : Int) => ⟨58, 100000, [(0, .rf 0), (2, .t (.s (.int .i64 a2))), (4, .fn 58 [.t (.ip [.s (.int .i64 qRB), .im false (qE qSB), .s (.int .i64 qTB), .s (.bool qnB), .s (.int .i64 qUB), .im false (qB qoB), .s (.bool qpB), .s (.int .i64 qu), .s (.int .i64 qNB)])]), (10, .t (.s (.int .i64 y2)))], [(0, .row 0 56 2 (qP y1))]⟩) ?_ ?_
 ·
  skip
  refine Run.block ?_; refine zL (fun (z17 : List Row) (z18 : Int) (z19 : Int) => ⟨58, 100000, [(0, .rf 0), (2, .t (.s (.int .i64 a2))), (4, .fn 58 [.t (.ip [.s (.int .i64 qRB), .im false (qE qSB), .s (.int .i64 qTB), .s (.bool qnB), .s (.int .i64 qUB), .im false (qB qoB), .s (.bool qpB), .s (.int .i64 qu), .s (.int .i64 qNB)])]), (10, .t (.s (.int .i64 z18))), (11, .t (.s (.int .i64 z19)))], [(0, .row 0 56 2 (qP z17))]⟩) (x0 := a0) (x1 := (ar .sub .i64 a2 a1)) (x2 := (ar .sub .i64 a3 a2)) h (Weak.of _ [(0, 0)] hA (by cbv) ?_) (fun _ _ _ => rfl) ?_
  · repeat first|exact hq0|refine hq (by first|exact Tt|rfl) ?_
  intro k z17 z18 z19 h; rw [qH.l0] at h; refine zB (zB ?_); refine zA hL hT [] (by cbv) ?_ ?_; exact zt; refine zC (by cbv) hq0 (fun c20 => ?_) (fun c20 => ?_)
  ·
   have h := if_t c20 h; refine zE ?_; refine Run.block ?_; refine zB ?_; refine zA hL hT [] (by cbv) ?_ ?_; exact zt; refine zC (by cbv) hq0 (fun c21 => ?_) (fun c21 => ?_)
   ·
    have h := if_t c21 h; refine zB ?_; obtain ⟨r22, h_r22, h⟩ := bnd h; refine zA hL hT [(7, .call [true, false, false, false, false] [.v (.ow 56 (qP r22)), .v (.jk), .v (.jk), .v (.jk), .v (.jk)] [])] (by cbv) ?_ ?_; exact hq Tt (hq (hC (qLC h_r22)) hq0); refine zA hL hT [] (by cbv) ?_ ?_; exact zt; refine ⟨r22, (ar .sub .i64 z18 z19), z19, h, Weak.of _ [(0, 0)] hA (by cbv) ?_⟩
    repeat first|exact hq0|refine hq (by first|exact Tt|rfl) ?_
   have h := if_f c21 h; refine zB ?_; obtain ⟨r23, h_r23, h⟩ := bnd h; refine zA hL hT [(11, .call [true, false, false, false, false] [.v (.ow 56 (qP r23)), .v (.jk), .v (.jk), .v (.jk), .v (.jk)] [])] (by cbv) ?_ ?_; exact hq Tt (hq Tt (hq Tt (hq (hC (qLC h_r23)) hq0))); refine zA hL hT [] (by cbv) ?_ ?_; exact zt; refine ⟨r23, z18, (ar .sub .i64 z19 z18), h, Weak.of _ [(0, 0)] hA (by cbv) ?_⟩
   repeat first|exact hq0|refine hq (by first|exact Tt|rfl) ?_
  have h := if_f c20 h; refine zG ?_; refine ⟨z17, z18, h, Weak.of _ [(0, 0)] hA (by cbv) ?_⟩
  repeat first|exact hq0|refine hq (by first|exact Tt|rfl) ?_
 intro y1 y2 h; rw [h_K3] at h; obtain ⟨r24, h_r24, h⟩ := bnd h; refine zA hL hT [(7, .call [true, false, false, false, false] [.v (.ow 56 (qP r24)), .v (.jk), .v (.jk), .v (.jk), .v (.jk)] [])] (by cbv) ?_ ?_; exact hq Tt (hq (hC (qLC h_r24)) hq0)
 cases h
 refine ⟨_, _, by cbv, ?_, ?_⟩; exact LLe.r; exact ALe.nil
theorem qDE (self : (List Row) → Int → Int → Int → Query → Option ((List Row))) (hself : ∀ {a0 : List Row} {a1 : Int} {a2 : Int} {a3 : Int} {qRB : Int} {qSB : List Cond} {qTB : Int} {qnB : Bool} {qUB : Int} {qoB : List Int} {qpB : Bool} {qu : Int} {qNB : Int} {r : (List Row)} (h : self a0 a1 a2 a3 (Query.mk qRB qSB qTB qnB qUB qoB qpB qu qNB) = some r), AC Tryz.prog 151 [.v (.ow 56 (rowsOf Row_o a0)), .v (.s (.int .i64 a1)), .v (.s (.int .i64 a2)), .v (.s (.int .i64 a3)), .v (.fn 58 [.ip [.s (.int .i64 qRB), .im false (rowsOf qR qSB), .s (.int .i64 qTB), .s (.bool qnB), .s (.int .i64 qUB), .im false (rowsOf Int_c qoB), .s (.bool qpB), .s (.int .i64 qu), .s (.int .i64 qNB)]])] [.v (.ow 56 (rowsOf Row_o r)), .v (.jk), .v (.jk), .v (.jk), .v (.jk)] []) {a0 : List Row} {a1 a2 a3 qRB : Int} {qSB : List Cond} {qTB : Int} {qnB : Bool} {qUB : Int} {qoB : List Int} {qpB : Bool} {qu qNB : Int} {r : (List Row)} (h : qA.b self a0 a1 a2 a3 (Query.mk qRB qSB qTB qnB qUB qoB qpB qu qNB) = some r) : AC Tryz.prog 151 [.v (.ow 56 (rowsOf Row_o a0)), .v (.s (.int .i64 a1)), .v (.s (.int .i64 a2)), .v (.s (.int .i64 a3)), .v (.fn 58 [.ip [.s (.int .i64 qRB), .im false (rowsOf qR qSB), .s (.int .i64 qTB), .s (.bool qnB), .s (.int .i64 qUB), .im false (rowsOf Int_c qoB), .s (.bool qpB), .s (.int .i64 qu), .s (.int .i64 qNB)]])] [.v (.ow 56 (rowsOf Row_o r)), .v (.jk), .v (.jk), .v (.jk), .v (.jk)] [] := by
 unfold qA.b at h; let qE := rowsOf qR; let qB := rowsOf Int_c; let qP := rowsOf Row_o
 show AC _ _ [.v (.ow 56 (qP a0)), .v (.s (.int .i64 a1)), .v (.s (.int .i64 a2)), .v (.s (.int .i64 a3)), .v (.fn 58 [.ip [.s (.int .i64 qRB), .im false (qE qSB), .s (.int .i64 qTB), .s (.bool qnB), .s (.int .i64 qUB), .im false (qB qoB), .s (.bool qpB), .s (.int .i64 qu), .s (.int .i64 qNB)]])] _ _
 refine run3 Tryz.func151 (by rfl) (by rfl) (by cbv) ⟨by decide, rfl⟩ ?_; intro ar cm bo sc sa sx ss sl bs sb ln sr ap up rp fr ge le lt nz mm ma sm fl al ci hL F hP hA hT hM hC; refine Run.weak ?_ (Weak.fnT 4 (by cbv)); obtain ⟨K2, h_K2, h⟩ := joinE h; refine zI K2 (r := r) (fun (y1 : Unit) => ⟨220, 100000, [(0, .rf 0), (1, .t (.s (.int .i64 a1))), (2, .t (.s (.int .i64 a2))), (3, .t (.s (.int .i64 a3))), (4, .fn 58 [.t (.ip [.s (.int .i64 qRB), .im false (qE qSB), .s (.int .i64 qTB), .s (.bool qnB), .s (.int .i64 qUB), .im false (qB qoB), .s (.bool qpB), .s (.int .i64 qu), .s (.int .i64 qNB)])])], [(0, .row 0 56 2 (qP a0))]⟩) ?_ ?_
 ·
  skip
  refine zB ?_; refine zA hL hT [] (by cbv) ?_ ?_; exact hq Tt zt; refine zC (by cbv) hq0 (fun c3 => ?_) (fun c3 => ?_)
  ·
   have h := if_t c3 h; refine zB ?_; refine zA hL hT [] (by cbv) hq0 ?_; refine zB ?_; refine zA hL hT [] (by cbv) hq0 ?_; obtain ⟨K5, h_K5, h⟩ := joinE h; refine zI K5 (r := r) (fun (y4 : Int) => ⟨220, 100000, [(0, .rf 0), (1, .t (.s (.int .i64 a1))), (10, .t (.s (.int .i64 y4)))], [(0, .row 0 56 2 (qP a0))]⟩) ?_ ?_
   ·
    skip
    refine Run.block ?_; refine zJ (fun (z19 : Int) (z20 : Int) => ⟨220, 100000, [(0, .rf 0), (1, .t (.s (.int .i64 a1))), (4, .fn 58 [.t (.ip [.s (.int .i64 qRB), .im false (qE qSB), .s (.int .i64 qTB), .s (.bool qnB), .s (.int .i64 qUB), .im false (qB qoB), .s (.bool qpB), .s (.int .i64 qu), .s (.int .i64 qNB)])]), (10, .t (.s (.int .i64 z19))), (11, .t (.s (.int .i64 z20)))], [(0, .row 0 56 2 (qP a0))]⟩) (x0 := a2) (x1 := a3) h (Weak.of _ [(0, 0)] hA (by cbv) ?_) (fun _ _ => rfl) ?_
    · repeat first|exact hq0|refine hq (by first|exact Tt|rfl) ?_
    intro k z19 z20 h; rw [qA.l0] at h; refine zB (zB ?_); refine zA hL hT [] (by cbv) ?_ ?_; exact zt; refine zC (by cbv) hq0 (fun c21 => ?_) (fun c21 => ?_)
    ·
     have h := if_t c21 h; refine zE ?_; refine Run.block ?_; refine zB ?_; refine zA hL hT [] (by cbv) ?_ ?_; exact hq Tt (hq Tt (hq Tt (hq (by decide : (0 : Int) ≤ 1) (hq (by decide : (1 : Int) < 64) hq0)))); refine zB ?_; obtain ⟨⟨qxe, qFZ⟩, h_x22, h⟩ := bnd h; obtain ⟨⟨qye, qGZ⟩, h_x23, h⟩ := bnd h; obtain ⟨r24, h_r24, h⟩ := bnd h; refine zF hL hT hM [(4, .el [.s (.int .i64 qxe), .ow 3 (qB qFZ)]), (8, .el [.s (.int .i64 qye), .ow 3 (qB qGZ)]), (9, .call [false, false] [.ag [.jk, .jk], .ag [.jk, .jk], .v (.jk)] [.v (.s (.int .i64 r24))])] (by cbv) (by cbv) (by cbv) (by cbv) (by cbv) ?_ ?_
     exact hq (qJ h_x22) (hq (qa (f := Row_o) h_x22) (hq (qJ h_x22) (hq (qa (f := Row_o) h_x22) (hq (qk (f := Row_o) h_x22) (hq (qJ h_x23) (hq (qa (f := Row_o) h_x23) (hq (qJ h_x23) (hq (qa (f := Row_o) h_x23) (hq (qk (f := Row_o) h_x23) (hq (hC (AC.args (qTF h_r24) (ALe.ag rfl (LLe.c (LLe.cons (LLe.im (RLe.eq (qz qJC _))) LLe.nil)) (ALe.ag rfl (LLe.c (LLe.cons (LLe.im (RLe.eq (qz qJC _))) LLe.nil)) (ALe.v LLe.r ALe.nil))))) zt))))))))))
     refine zC (by cbv) hq0 (fun c25 => ?_) (fun c25 => ?_)
     ·
      have h := if_t c25 h; refine zA hL hT [] (by cbv) ?_ ?_; exact zt; refine ⟨(ar .add .i64 (ar .or .i64 (ar .shr .u64 (ar .or .u64 (ar .add .i64 z19 z20) 0) 1) 0) 1), z20, h, Weak.of _ [(0, 0)] hA (by cbv) ?_⟩
      repeat first|exact hq0|refine hq (by first|exact Tt|rfl) ?_
     have h := if_f c25 h; refine zA hL hT [] (by cbv) hq0 ?_; refine ⟨z19, (ar .or .i64 (ar .shr .u64 (ar .or .u64 (ar .add .i64 z19 z20) 0) 1) 0), h, Weak.of _ [(0, 0)] hA (by cbv) ?_⟩
     repeat first|exact hq0|refine hq (by first|exact Tt|rfl) ?_
    have h := if_f c21 h; refine zG ?_; refine ⟨z19, h, Weak.of _ [(0, 0)] hA (by cbv) ?_⟩
    repeat first|exact hq0|refine hq (by first|exact Tt|rfl) ?_
   intro y4 h; rw [h_K5] at h; refine zB (zB ?_); refine zA hL hT [] (by cbv) hq0 ?_; refine Run.block ?_; refine zJ (fun (z29 : List Row) (z30 : Int) => ⟨220, 100000, [(0, .rf 0), (10, .t (.s (.int .i64 y4))), (13, .t (.s (.int .i64 z30)))], [(0, .row 0 56 2 (qP z29))]⟩) (x0 := a0) (x1 := a1) h (Weak.of _ [(0, 0)] hA (by cbv) ?_) (fun _ _ => rfl) ?_
   · repeat first|exact hq0|refine hq (by first|exact Tt|rfl) ?_
   intro k z29 z30 h; rw [qA.l1] at h; refine zB (zB ?_); refine zA hL hT [] (by cbv) ?_ ?_; exact hq Tt zt; refine zC (by cbv) hq0 (fun c31 => ?_) (fun c31 => ?_)
   ·
    have h := if_t c31 h; refine zE (zB ?_); refine Run.block ?_; obtain ⟨⟨qLb, qeS⟩, h_x32, h⟩ := bnd h; obtain ⟨⟨qMb, qfS⟩, h_x33, h⟩ := bnd h; obtain ⟨u34, h_u34, h⟩ := bnd h; obtain ⟨l35, h_l35, h⟩ := bnd h; refine Run.weak ?_ (Weak.take2 (rows := qP z29) (e2 := 3) (r1 := qB qeS) (r2 := qB qfS) hT 0 (ar .add .i64 z30 1) z30 1 107096 1107096 107097 1107097 (by cbv) (by cbv) (by cbv) (by cbv) (by cbv) (by cbv) (qPE h_x32) (qVF Row_o h_x32) ((congrArg (fun q => q[1]?) (qk (f := Row_o) h_x32)).trans rfl) rfl (qPE h_x33) (qVF Row_o h_x33) (ne_t h_u34) ((congrArg (fun q => q[1]?) (qk (f := Row_o) h_x33)).trans rfl) rfl (by cbv) (up (up (qP z29) (ar .add .i64 z30 1) 1 [.jk]) z30 1 [.jk]) rfl)
    refine zF hL hT hM [(9, .lk [.s (.int .i64 qLb), .jk] [(1, 1107096)]), (13, .lk [.s (.int .i64 qMb), .jk] [(1, 1107097)])] (by cbv) (by cbv) (by cbv) (by cbv) (by cbv) ?_ ?_; exact hq Tt (hq Tt (hq (qJ h_x32) (hq (sw_lt Row_o h_x32) (hq Tt (hq (qJ h_x32) (hq (sw_lt Row_o h_x32) (hq (qHV Row_o h_x32 h_x33 (ne_t h_u34)) (hq (qJ h_x33) (hq (sw_lt Row_o h_x33) (hq Tt (hq (qJ h_x33) (hq (sw_lt Row_o h_x33) (hq (qIV Row_o h_x32 h_x33 (ne_t h_u34)) (hq (qJ h_x33) (hq (sw_lt Row_o h_x33) (hq (qJ h_x33) (hq (sw_lt Row_o h_x33) (hq (qJ h_x32) (hq (qOO Row_o h_x32) (hq (qJ h_x32) (hq (qOO Row_o h_x32) hq0)))))))))))))))))))))
    refine Run.row (rows := (up (up (up (up (qP z29) (ar .add .i64 z30 1) 1 [.jk]) z30 1 [.jk]) z30 0 [.s (.int .i64 qLb), .ow 3 (qB qeS)]) (ar .add .i64 z30 1) 0 [.s (.int .i64 qMb), .ow 3 (qB qfS)])) 0 (qP l35) (by cbv) (qNT (f := Row_o) qgN h_x32 h_x33 (ne_t h_u34) (by decide) (.inr ⟨rfl, rfl⟩) h_l35 rfl rfl) ?_; refine zA hL hT [] (by cbv) ?_ ?_; exact zt; refine ⟨l35, (ar .add .i64 z30 1), h, Weak.of _ [(0, 0)] hA (by cbv) ?_⟩
    repeat first|exact hq0|refine hq (by first|exact Tt|rfl) ?_
   have h := if_f c31 h; refine zG (zD ?_)
   cases h
   refine ⟨_, _, by cbv, ?_, ?_⟩; exact LLe.r; exact ALe.nil
  have h := if_f c3 h; refine zE ?_; refine ⟨(), h, Weak.of _ [(0, 0)] hA (by cbv) ?_⟩
  repeat first|exact hq0|refine hq (by first|exact Tt|rfl) ?_
 intro y1 h; rw [h_K2] at h; obtain ⟨K37, h_K37, h⟩ := joinE h; refine zI K37 (r := r) (fun (y36 : Unit) => ⟨220, 100000, [(0, .rf 0), (1, .t (.s (.int .i64 a1))), (2, .t (.s (.int .i64 a2))), (3, .t (.s (.int .i64 a3))), (4, .fn 58 [.t (.ip [.s (.int .i64 qRB), .im false (qE qSB), .s (.int .i64 qTB), .s (.bool qnB), .s (.int .i64 qUB), .im false (qB qoB), .s (.bool qpB), .s (.int .i64 qu), .s (.int .i64 qNB)])])], [(0, .row 0 56 2 (qP a0))]⟩) ?_ ?_
 ·
  skip
  refine zB ?_; refine zA hL hT [] (by cbv) ?_ ?_; exact hq Tt zt; refine zC (by cbv) hq0 (fun c38 => ?_) (fun c38 => ?_)
  ·
   have h := if_t c38 h; refine zB ?_; refine zA hL hT [] (by cbv) hq0 ?_; refine zB ?_; refine zA hL hT [] (by cbv) hq0 ?_; obtain ⟨K40, h_K40, h⟩ := joinE h; refine zI K40 (r := r) (fun (y39 : Int) => ⟨220, 100000, [(0, .rf 0), (2, .t (.s (.int .i64 a2))), (14, .t (.s (.int .i64 y39)))], [(0, .row 0 56 2 (qP a0))]⟩) ?_ ?_
   ·
    skip
    refine Run.block ?_; refine zJ (fun (z54 : Int) (z55 : Int) => ⟨220, 100000, [(0, .rf 0), (2, .t (.s (.int .i64 a2))), (4, .fn 58 [.t (.ip [.s (.int .i64 qRB), .im false (qE qSB), .s (.int .i64 qTB), .s (.bool qnB), .s (.int .i64 qUB), .im false (qB qoB), .s (.bool qpB), .s (.int .i64 qu), .s (.int .i64 qNB)])]), (14, .t (.s (.int .i64 z54))), (15, .t (.s (.int .i64 z55)))], [(0, .row 0 56 2 (qP a0))]⟩) (x0 := a1) (x1 := a2) h (Weak.of _ [(0, 0)] hA (by cbv) ?_) (fun _ _ => rfl) ?_
    · repeat first|exact hq0|refine hq (by first|exact Tt|rfl) ?_
    intro k z54 z55 h; rw [qA.l2] at h; refine zB (zB ?_); refine zA hL hT [] (by cbv) ?_ ?_; exact zt; refine zC (by cbv) hq0 (fun c56 => ?_) (fun c56 => ?_)
    ·
     have h := if_t c56 h; refine zE ?_; refine Run.block ?_; refine zB ?_; refine zA hL hT [] (by cbv) ?_ ?_; exact hq Tt (hq Tt (hq Tt (hq (by decide : (0 : Int) ≤ 1) (hq (by decide : (1 : Int) < 64) hq0)))); refine zB ?_; obtain ⟨⟨qze, qHZ⟩, h_x57, h⟩ := bnd h; obtain ⟨⟨qAf, qIZ⟩, h_x58, h⟩ := bnd h; obtain ⟨r59, h_r59, h⟩ := bnd h; refine zF hL hT hM [(4, .el [.s (.int .i64 qze), .ow 3 (qB qHZ)]), (8, .el [.s (.int .i64 qAf), .ow 3 (qB qIZ)]), (9, .call [false, false] [.ag [.jk, .jk], .ag [.jk, .jk], .v (.jk)] [.v (.s (.int .i64 r59))])] (by cbv) (by cbv) (by cbv) (by cbv) (by cbv) ?_ ?_
     exact hq (qJ h_x57) (hq (qa (f := Row_o) h_x57) (hq (qJ h_x57) (hq (qa (f := Row_o) h_x57) (hq (qk (f := Row_o) h_x57) (hq (qJ h_x58) (hq (qa (f := Row_o) h_x58) (hq (qJ h_x58) (hq (qa (f := Row_o) h_x58) (hq (qk (f := Row_o) h_x58) (hq (hC (AC.args (qTF h_r59) (ALe.ag rfl (LLe.c (LLe.cons (LLe.im (RLe.eq (qz qJC _))) LLe.nil)) (ALe.ag rfl (LLe.c (LLe.cons (LLe.im (RLe.eq (qz qJC _))) LLe.nil)) (ALe.v LLe.r ALe.nil))))) zt))))))))))
     refine zC (by cbv) hq0 (fun c60 => ?_) (fun c60 => ?_)
     ·
      have h := if_t c60 h; refine zA hL hT [] (by cbv) ?_ ?_; exact zt; refine ⟨(ar .add .i64 (ar .or .i64 (ar .shr .u64 (ar .or .u64 (ar .add .i64 z54 z55) 0) 1) 0) 1), z55, h, Weak.of _ [(0, 0)] hA (by cbv) ?_⟩
      repeat first|exact hq0|refine hq (by first|exact Tt|rfl) ?_
     have h := if_f c60 h; refine zA hL hT [] (by cbv) hq0 ?_; refine ⟨z54, (ar .or .i64 (ar .shr .u64 (ar .or .u64 (ar .add .i64 z54 z55) 0) 1) 0), h, Weak.of _ [(0, 0)] hA (by cbv) ?_⟩
     repeat first|exact hq0|refine hq (by first|exact Tt|rfl) ?_
    have h := if_f c56 h; refine zG ?_; refine ⟨z54, h, Weak.of _ [(0, 0)] hA (by cbv) ?_⟩
    repeat first|exact hq0|refine hq (by first|exact Tt|rfl) ?_
   intro y39 h; rw [h_K40] at h; refine zB (zB ?_); refine zA hL hT [] (by cbv) hq0 ?_; refine Run.block ?_; refine zJ (fun (z64 : List Row) (z65 : Int) => ⟨220, 100000, [(0, .rf 0), (14, .t (.s (.int .i64 y39))), (17, .t (.s (.int .i64 z65)))], [(0, .row 0 56 2 (qP z64))]⟩) (x0 := a0) (x1 := a2) h (Weak.of _ [(0, 0)] hA (by cbv) ?_) (fun _ _ => rfl) ?_
   · repeat first|exact hq0|refine hq (by first|exact Tt|rfl) ?_
   intro k z64 z65 h; rw [qA.l3] at h; refine zB (zB ?_); refine zA hL hT [] (by cbv) ?_ ?_; exact zt; refine zC (by cbv) hq0 (fun c66 => ?_) (fun c66 => ?_)
   ·
    have h := if_t c66 h; refine zE (zB ?_); refine Run.block ?_; obtain ⟨⟨qNb, qgS⟩, h_x67, h⟩ := bnd h; obtain ⟨⟨qOb, qhS⟩, h_x68, h⟩ := bnd h; obtain ⟨u69, h_u69, h⟩ := bnd h; obtain ⟨l70, h_l70, h⟩ := bnd h; refine Run.weak ?_ (Weak.take2 (rows := qP z64) (e2 := 3) (r1 := qB qgS) (r2 := qB qhS) hT 0 (ar .sub .i64 z65 1) z65 1 107096 1107096 107097 1107097 (by cbv) (by cbv) (by cbv) (by cbv) (by cbv) (by cbv) (qPE h_x67) (qVF Row_o h_x67) ((congrArg (fun q => q[1]?) (qk (f := Row_o) h_x67)).trans rfl) rfl (qPE h_x68) (qVF Row_o h_x68) (ne_t h_u69) ((congrArg (fun q => q[1]?) (qk (f := Row_o) h_x68)).trans rfl) rfl (by cbv) (up (up (qP z64) (ar .sub .i64 z65 1) 1 [.jk]) z65 1 [.jk]) rfl)
    refine zF hL hT hM [(9, .lk [.s (.int .i64 qNb), .jk] [(1, 1107096)]), (13, .lk [.s (.int .i64 qOb), .jk] [(1, 1107097)])] (by cbv) (by cbv) (by cbv) (by cbv) (by cbv) ?_ ?_; exact hq Tt (hq Tt (hq (qJ h_x67) (hq (sw_lt Row_o h_x67) (hq Tt (hq (qJ h_x67) (hq (sw_lt Row_o h_x67) (hq (qHV Row_o h_x67 h_x68 (ne_t h_u69)) (hq (qJ h_x68) (hq (sw_lt Row_o h_x68) (hq Tt (hq (qJ h_x68) (hq (sw_lt Row_o h_x68) (hq (qIV Row_o h_x67 h_x68 (ne_t h_u69)) (hq (qJ h_x68) (hq (sw_lt Row_o h_x68) (hq (qJ h_x68) (hq (sw_lt Row_o h_x68) (hq (qJ h_x67) (hq (qOO Row_o h_x67) (hq (qJ h_x67) (hq (qOO Row_o h_x67) hq0)))))))))))))))))))))
    refine Run.row (rows := (up (up (up (up (qP z64) (ar .sub .i64 z65 1) 1 [.jk]) z65 1 [.jk]) z65 0 [.s (.int .i64 qNb), .ow 3 (qB qgS)]) (ar .sub .i64 z65 1) 0 [.s (.int .i64 qOb), .ow 3 (qB qhS)])) 0 (qP l70) (by cbv) (qNT (f := Row_o) qgN h_x67 h_x68 (ne_t h_u69) (by decide) (.inr ⟨rfl, rfl⟩) h_l70 rfl rfl) ?_; refine zA hL hT [] (by cbv) ?_ ?_; exact zt; refine ⟨l70, (ar .sub .i64 z65 1), h, Weak.of _ [(0, 0)] hA (by cbv) ?_⟩
    repeat first|exact hq0|refine hq (by first|exact Tt|rfl) ?_
   have h := if_f c66 h; refine zG (zD ?_)
   cases h
   refine ⟨_, _, by cbv, ?_, ?_⟩; exact LLe.r; exact ALe.nil
  have h := if_f c38 h; refine zE ?_; refine ⟨(), h, Weak.of _ [(0, 0)] hA (by cbv) ?_⟩
  repeat first|exact hq0|refine hq (by first|exact Tt|rfl) ?_
 intro y36 h; rw [h_K37] at h; refine zB ?_; refine zA hL hT [] (by cbv) ?_ ?_; exact hq Tt (hq Tt (hq Tt (hq (by decide : (0 : Int) ≤ 1) (hq (by decide : (1 : Int) < 64) hq0)))); refine zB ?_; refine zA hL hT [] (by cbv) ?_ ?_; exact zt; refine zB ?_; refine zA hL hT [] (by cbv) hq0 ?_; obtain ⟨K75, h_K75, h⟩ := joinE h; refine za K75 (r := r) (fun (y71 : Int) (y72 : Int) (y73 : Int) (y74 : Int) => ⟨220, 100000, [(0, .rf 0), (1, .t (.s (.int .i64 a1))), (2, .t (.s (.int .i64 a2))), (3, .t (.s (.int .i64 a3))), (4, .fn 58 [.t (.ip [.s (.int .i64 qRB), .im false (qE qSB), .s (.int .i64 qTB), .s (.bool qnB), .s (.int .i64 qUB), .im false (qB qoB), .s (.bool qpB), .s (.int .i64 qu), .s (.int .i64 qNB)])]), (18, .t (.s (.int .i64 y71))), (19, .t (.s (.int .i64 y72))), (20, .t (.s (.int .i64 y73))), (21, .t (.s (.int .i64 y74)))], [(0, .row 0 56 2 (qP a0))]⟩) ?_ ?_
 ·
  skip
  refine zB ?_; refine zA hL hT [] (by cbv) ?_ ?_; exact zt; refine zC (by cbv) hq0 (fun c76 => ?_) (fun c76 => ?_)
  ·
   have h := if_t c76 h; refine zB ?_; refine zA hL hT [] (by cbv) ?_ ?_; exact zt; refine zA hL hT [] (by cbv) hq0 ?_; refine ⟨(ar .or .i64 (ar .shr .u64 (ar .or .u64 (ar .add .i64 a1 a3) 0) 1) 0), (ar .add .i64 (ar .or .i64 (ar .shr .u64 (ar .or .u64 (ar .add .i64 a1 a3) 0) 1) 0) a2), (ar .sub .i64 (ar .add .i64 (ar .or .i64 (ar .shr .u64 (ar .or .u64 (ar .add .i64 a1 a3) 0) 1) 0) a2) a3), (ar .or .i64 (ar .shr .u64 (ar .or .u64 (ar .add .i64 a1 a3) 0) 1) 0), h, Weak.of _ [(0, 0)] hA (by cbv) ?_⟩
   repeat first|exact hq0|refine hq (by first|exact Tt|rfl) ?_
  have h := if_f c76 h; refine zB ?_; refine zA hL hT [] (by cbv) hq0 ?_; refine zA hL hT [] (by cbv) hq0 ?_; refine ⟨(ar .or .i64 (ar .shr .u64 (ar .or .u64 (ar .add .i64 a1 a3) 0) 1) 0), (ar .add .i64 (ar .or .i64 (ar .shr .u64 (ar .or .u64 (ar .add .i64 a1 a3) 0) 1) 0) a2), a1, a2, h, Weak.of _ [(0, 0)] hA (by cbv) ?_⟩
  repeat first|exact hq0|refine hq (by first|exact Tt|rfl) ?_
 intro y71 y72 y73 y74 h; rw [h_K75] at h; refine zB ?_; refine zA hL hT [] (by cbv) ?_ ?_; exact zt; obtain ⟨K78, h_K78, h⟩ := joinE h; refine zI K78 (r := r) (fun (y77 : Int) => ⟨220, 100000, [(0, .rf 0), (1, .t (.s (.int .i64 a1))), (2, .t (.s (.int .i64 a2))), (3, .t (.s (.int .i64 a3))), (4, .fn 58 [.t (.ip [.s (.int .i64 qRB), .im false (qE qSB), .s (.int .i64 qTB), .s (.bool qnB), .s (.int .i64 qUB), .im false (qB qoB), .s (.bool qpB), .s (.int .i64 qu), .s (.int .i64 qNB)])]), (18, .t (.s (.int .i64 y71))), (19, .t (.s (.int .i64 y72))), (20, .t (.s (.int .i64 y77)))], [(0, .row 0 56 2 (qP a0))]⟩) ?_ ?_
 ·
  skip
  refine Run.block ?_; refine zL (fun (z97 : Int) (z98 : Int) (z99 : Int) => ⟨220, 100000, [(0, .rf 0), (1, .t (.s (.int .i64 a1))), (2, .t (.s (.int .i64 a2))), (3, .t (.s (.int .i64 a3))), (4, .fn 58 [.t (.ip [.s (.int .i64 qRB), .im false (qE qSB), .s (.int .i64 qTB), .s (.bool qnB), .s (.int .i64 qUB), .im false (qB qoB), .s (.bool qpB), .s (.int .i64 qu), .s (.int .i64 qNB)])]), (18, .t (.s (.int .i64 y71))), (19, .t (.s (.int .i64 y72))), (20, .t (.s (.int .i64 z97))), (21, .t (.s (.int .i64 z98))), (22, .t (.s (.int .i64 z99)))], [(0, .row 0 56 2 (qP a0))]⟩) (x0 := y73) (x1 := y74) (x2 := (ar .sub .i64 y72 1)) h (Weak.of _ [(0, 0)] hA (by cbv) ?_) (fun _ _ _ => rfl) ?_
  · repeat first|exact hq0|refine hq (by first|exact Tt|rfl) ?_
  intro k z97 z98 z99 h; rw [qA.l4] at h; refine zB (zB ?_); refine zA hL hT [] (by cbv) ?_ ?_; exact zt; refine zC (by cbv) hq0 (fun c100 => ?_) (fun c100 => ?_)
  ·
   have h := if_t c100 h; refine zE ?_; refine Run.block ?_; refine zB ?_; refine zA hL hT [] (by cbv) ?_ ?_; exact hq Tt (hq Tt (hq Tt (hq (by decide : (0 : Int) ≤ 1) (hq (by decide : (1 : Int) < 64) hq0)))); refine zB ?_; obtain ⟨⟨qHd, qAX⟩, qmV, h⟩ := bnd h; obtain ⟨⟨qEU, qBX⟩, qjM, h⟩ := bnd h; obtain ⟨r103, qzf, h⟩ := bnd h; refine zF hL hT hM [(6, .el [.s (.int .i64 qHd), .ow 3 (qB qAX)]), (10, .el [.s (.int .i64 qEU), .ow 3 (qB qBX)]), (11, .call [false, false] [.ag [.jk, .jk], .ag [.jk, .jk], .v (.jk)] [.v (.s (.int .i64 r103))])] (by cbv) (by cbv) (by cbv) (by cbv) (by cbv) ?_ ?_
   exact hq Tt (hq (qJ qmV) (hq (qa (f := Row_o) qmV) (hq (qJ qmV) (hq (qa (f := Row_o) qmV) (hq (qk (f := Row_o) qmV) (hq (qJ qjM) (hq (qa (f := Row_o) qjM) (hq (qJ qjM) (hq (qa (f := Row_o) qjM) (hq (qk (f := Row_o) qjM) (hq (hC (AC.args (qTF qzf) (ALe.ag rfl (LLe.c (LLe.cons (LLe.im (RLe.eq (qz qJC _))) LLe.nil)) (ALe.ag rfl (LLe.c (LLe.cons (LLe.im (RLe.eq (qz qJC _))) LLe.nil)) (ALe.v LLe.r ALe.nil))))) zt)))))))))))
   refine zC (by cbv) hq0 (fun c104 => ?_) (fun c104 => ?_)
   ·
    have h := if_t c104 h; refine zA hL hT [] (by cbv) ?_ ?_; exact zt; refine ⟨(ar .add .i64 (ar .or .i64 (ar .shr .u64 (ar .or .u64 (ar .add .i64 z97 z98) 0) 1) 0) 1), z98, z99, h, Weak.of _ [(0, 0)] hA (by cbv) ?_⟩
    repeat first|exact hq0|refine hq (by first|exact Tt|rfl) ?_
   have h := if_f c104 h; refine zA hL hT [] (by cbv) hq0 ?_; refine ⟨z97, (ar .or .i64 (ar .shr .u64 (ar .or .u64 (ar .add .i64 z97 z98) 0) 1) 0), z99, h, Weak.of _ [(0, 0)] hA (by cbv) ?_⟩
   repeat first|exact hq0|refine hq (by first|exact Tt|rfl) ?_
  have h := if_f c100 h; refine zG ?_; refine ⟨z97, h, Weak.of _ [(0, 0)] hA (by cbv) ?_⟩
  repeat first|exact hq0|refine hq (by first|exact Tt|rfl) ?_
 intro y77 h; rw [h_K78] at h; refine zB ?_; refine zA hL hT [] (by cbv) ?_ ?_; exact zt; obtain ⟨K107, h_K107, h⟩ := joinE h; refine zM K107 (r := r) (fun (y105 : List Row) (y106 : Int) => ⟨220, 100000, [(0, .rf 0), (1, .t (.s (.int .i64 a1))), (3, .t (.s (.int .i64 a3))), (4, .fn 58 [.t (.ip [.s (.int .i64 qRB), .im false (qE qSB), .s (.int .i64 qTB), .s (.bool qnB), .s (.int .i64 qUB), .im false (qB qoB), .s (.bool qpB), .s (.int .i64 qu), .s (.int .i64 qNB)])]), (18, .t (.s (.int .i64 y71))), (20, .t (.s (.int .i64 y77))), (24, .t (.s (.int .i64 y106)))], [(0, .row 0 56 2 (qP y105))]⟩) ?_ ?_
 ·
  skip
  refine zB ?_; refine zA hL hT [] (by cbv) ?_ ?_; exact hq Tt (hq zn (hq zn (hq (fun g110 => (hq g110 (hq g110 zt))) (hq (fun q111 => (hq q111 hq0)) (hq zn hq0))))); refine zC (by cbv) hq0 (fun c113 => ?_) (fun c113 => ?_)
  ·
   have h := if_t c113 h; obtain ⟨r114, qAg, h⟩ := bnd h; refine zA hL hT [(5, .call [true, false, false, false, false] [.v (.ow 56 (qP r114)), .v (.jk), .v (.jk), .v (.jk), .v (.jk)] [])] (by cbv) ?_ ?_; exact hq (hC (qME qAg)) hq0; refine ⟨r114, (ar .sub .i64 y72 y77), h, Weak.of _ [(0, 0)] hA (by cbv) ?_⟩
   repeat first|exact hq0|refine hq (by first|exact Tt|rfl) ?_
  have h := if_f c113 h; refine zE ?_; refine ⟨a0, (ar .sub .i64 y72 y77), h, Weak.of _ [(0, 0)] hA (by cbv) ?_⟩
  repeat first|exact hq0|refine hq (by first|exact Tt|rfl) ?_
 intro y105 y106 h; rw [h_K107] at h; obtain ⟨K116, h_K116, h⟩ := joinE h; refine zI K116 (r := r) (fun (y115 : List Row) => ⟨220, 100000, [(0, .rf 0), (3, .t (.s (.int .i64 a3))), (4, .fn 58 [.t (.ip [.s (.int .i64 qRB), .im false (qE qSB), .s (.int .i64 qTB), .s (.bool qnB), .s (.int .i64 qUB), .im false (qB qoB), .s (.bool qpB), .s (.int .i64 qu), .s (.int .i64 qNB)])]), (18, .t (.s (.int .i64 y71))), (24, .t (.s (.int .i64 y106)))], [(0, .row 0 56 2 (qP y115))]⟩) ?_ ?_
 ·
  skip
  refine zB ?_; refine zA hL hT [] (by cbv) ?_ ?_; exact hq Tt (hq zn (hq zn (hq (fun g119 => (hq g119 (hq g119 zt))) (hq (fun q120 => (hq q120 hq0)) (hq zn hq0))))); refine zC (by cbv) hq0 (fun c122 => ?_) (fun c122 => ?_)
  ·
   have h := if_t c122 h; obtain ⟨r123, qBg, h⟩ := bnd h; refine zA hL hT [(5, .call [true, false, false, false, false] [.v (.ow 56 (qP r123)), .v (.jk), .v (.jk), .v (.jk), .v (.jk)] [])] (by cbv) ?_ ?_; exact hq (hC (hself qBg)) hq0; refine ⟨r123, h, Weak.of _ [(0, 0)] hA (by cbv) ?_⟩
   repeat first|exact hq0|refine hq (by first|exact Tt|rfl) ?_
  have h := if_f c122 h; refine zE ?_; refine ⟨y105, h, Weak.of _ [(0, 0)] hA (by cbv) ?_⟩
  repeat first|exact hq0|refine hq (by first|exact Tt|rfl) ?_
 intro y115 h; rw [h_K116] at h; refine zB ?_; refine zA hL hT [] (by cbv) ?_ ?_; exact hq Tt (hq zn (hq zn (hq (fun g126 => (hq g126 (hq g126 zt))) (hq (fun q127 => (hq q127 hq0)) (hq zn hq0))))); refine zC (by cbv) hq0 (fun c129 => ?_) (fun c129 => ?_)
 ·
  have h := if_t c129 h; obtain ⟨r130, qPb, h⟩ := bnd h; refine zA hL hT [(5, .call [true, false, false, false, false] [.v (.ow 56 (qP r130)), .v (.jk), .v (.jk), .v (.jk), .v (.jk)] [])] (by cbv) ?_ ?_; exact hq (hC (hself qPb)) hq0
  cases h
  refine ⟨_, _, by cbv, ?_, ?_⟩; exact LLe.r; exact ALe.nil
 have h := if_f c129 h; refine zE ?_
 cases h
 refine ⟨_, _, by cbv, ?_, ?_⟩; exact LLe.r; exact ALe.nil
theorem qnC : ∀ (k : Nat) {a0 : List Row} {a1 : Int} {a2 : Int} {a3 : Int} {qRB : Int} {qSB : List Cond} {qTB : Int} {qnB : Bool} {qUB : Int} {qoB : List Int} {qpB : Bool} {qu : Int} {qNB : Int} {r : (List Row)} (h : qA.g k a0 a1 a2 a3 (Query.mk qRB qSB qTB qnB qUB qoB qpB qu qNB) = some r), AC Tryz.prog 151 [.v (.ow 56 (rowsOf Row_o a0)), .v (.s (.int .i64 a1)), .v (.s (.int .i64 a2)), .v (.s (.int .i64 a3)), .v (.fn 58 [.ip [.s (.int .i64 qRB), .im false (rowsOf qR qSB), .s (.int .i64 qTB), .s (.bool qnB), .s (.int .i64 qUB), .im false (rowsOf Int_c qoB), .s (.bool qpB), .s (.int .i64 qu), .s (.int .i64 qNB)]])] [.v (.ow 56 (rowsOf Row_o r)), .v (.jk), .v (.jk), .v (.jk), .v (.jk)] []
 | 0 => fun h => by cases h
 | k + 1 => fun h => qDE (qA.g k) (qnC k) h
theorem qqC {a0 : List Row} {a1 a2 a3 qRB : Int} {qSB : List Cond} {qTB : Int} {qnB : Bool} {qUB : Int} {qoB : List Int} {qpB : Bool} {qu qNB : Int} {r : (List Row)} (h : qA.f a0 a1 a2 a3 (Query.mk qRB qSB qTB qnB qUB qoB qpB qu qNB) = some r) : AC Tryz.prog 151 [.v (.ow 56 (rowsOf Row_o a0)), .v (.s (.int .i64 a1)), .v (.s (.int .i64 a2)), .v (.s (.int .i64 a3)), .v (.fn 58 [.ip [.s (.int .i64 qRB), .im false (rowsOf qR qSB), .s (.int .i64 qTB), .s (.bool qnB), .s (.int .i64 qUB), .im false (rowsOf Int_c qoB), .s (.bool qpB), .s (.int .i64 qu), .s (.int .i64 qNB)]])] [.v (.ow 56 (rowsOf Row_o r)), .v (.jk), .v (.jk), .v (.jk), .v (.jk)] [] := qnC 1000 h
theorem qNE {a0 : List Row} {a1 qJF : Int} {qKF : List Cond} {qLF : Int} {qyF : Bool} {qMF : Int} {qzF : List Int} {qAG : Bool} {quD qZE : Int} {r : (List Row)} (h : qC.f a0 a1 (Query.mk qJF qKF qLF qyF qMF qzF qAG quD qZE) = some r) : AC Tryz.prog 122 [.v (.ow 56 (rowsOf Row_o a0)), .v (.s (.int .i64 a1)), .v (.fn 58 [.ip [.s (.int .i64 qJF), .im false (rowsOf qR qKF), .s (.int .i64 qLF), .s (.bool qyF), .s (.int .i64 qMF), .im false (rowsOf Int_c qzF), .s (.bool qAG), .s (.int .i64 quD), .s (.int .i64 qZE)]])] [.v (.ow 56 (rowsOf Row_o r)), .v (.jk), .v (.jk)] [] := by
 unfold qC.f at h; let qE := rowsOf qR; let qB := rowsOf Int_c; let qP := rowsOf Row_o
 show AC _ _ [.v (.ow 56 (qP a0)), .v (.s (.int .i64 a1)), .v (.fn 58 [.ip [.s (.int .i64 qJF), .im false (qE qKF), .s (.int .i64 qLF), .s (.bool qyF), .s (.int .i64 qMF), .im false (qB qzF), .s (.bool qAG), .s (.int .i64 quD), .s (.int .i64 qZE)]])] _ _
 refine run3 Tryz.func122 (by rfl) (by rfl) (by cbv) ⟨by decide, rfl⟩ ?_; intro ar cm bo sc sa sx ss sl bs sb ln sr ap up rp fr ge le lt nz mm ma sm fl al ci hL F hP hA hT hM hC; refine Run.weak ?_ (Weak.fnT 2 (by cbv)); refine zB ?_; refine zA hL hT [] (by cbv) hq0 ?_; refine zB ?_; refine zA hL hT [] (by cbv) hq0 ?_; obtain ⟨K3, h_K3, h⟩ := joinE h; refine zM K3 (r := r) (fun (y1 : List Row) (y2 : Int) => ⟨63, 100000, [(0, .rf 0), (1, .t (.s (.int .i64 a1))), (2, .fn 58 [.t (.ip [.s (.int .i64 qJF), .im false (qE qKF), .s (.int .i64 qLF), .s (.bool qyF), .s (.int .i64 qMF), .im false (qB qzF), .s (.bool qAG), .s (.int .i64 quD), .s (.int .i64 qZE)])]), (6, .t (.s (.int .i64 20))), (7, .t (.s (.int .i64 y2)))], [(0, .row 0 56 2 (qP y1))]⟩) ?_ ?_
 ·
  skip
  refine Run.block ?_; refine zL (fun (z18 : List Row) (z19 : Int) (z20 : Int) => ⟨63, 100000, [(0, .rf 0), (1, .t (.s (.int .i64 a1))), (2, .fn 58 [.t (.ip [.s (.int .i64 qJF), .im false (qE qKF), .s (.int .i64 qLF), .s (.bool qyF), .s (.int .i64 qMF), .im false (qB qzF), .s (.bool qAG), .s (.int .i64 quD), .s (.int .i64 qZE)])]), (6, .t (.s (.int .i64 20))), (7, .t (.s (.int .i64 z19))), (8, .t (.s (.int .i64 z20)))], [(0, .row 0 56 2 (qP z18))]⟩) (x0 := a0) (x1 := 0) (x2 := 20) h (Weak.of _ [(0, 0)] hA (by cbv) ?_) (fun _ _ _ => rfl) ?_
  · repeat first|exact hq0|refine hq (by first|exact Tt|rfl) ?_
  intro k z18 z19 z20 h; rw [qC.l0] at h; refine zB (zB ?_); refine zA hL hT [] (by cbv) ?_ ?_; exact zt; refine zC (by cbv) hq0 (fun c21 => ?_) (fun c21 => ?_)
  ·
   have h := if_t c21 h; refine zE ?_; refine Run.block ?_; refine zB ?_; obtain ⟨r22, h_r22, h⟩ := bnd h; refine zA hL hT [(4, .call [true, false, false, false] [.v (.ow 56 (qP r22)), .v (.jk), .v (.jk), .v (.jk)] [])] (by cbv) ?_ ?_; exact hq (hC (qgC h_r22)) hq0; refine zB ?_; refine zA hL hT [] (by cbv) hq0 ?_; refine zA hL hT [] (by cbv) ?_ ?_; exact zt; refine ⟨r22, z20, (ar .add .i64 z20 20), h, Weak.of _ [(0, 0)] hA (by cbv) ?_⟩
   repeat first|exact hq0|refine hq (by first|exact Tt|rfl) ?_
  have h := if_f c21 h; refine zG ?_; refine ⟨z18, z19, h, Weak.of _ [(0, 0)] hA (by cbv) ?_⟩
  repeat first|exact hq0|refine hq (by first|exact Tt|rfl) ?_
 intro y1 y2 h; rw [h_K3] at h; refine zB ?_; obtain ⟨r23, h_r23, h⟩ := bnd h; refine zA hL hT [(4, .call [true, false, false, false] [.v (.ow 56 (qP r23)), .v (.jk), .v (.jk), .v (.jk)] [])] (by cbv) ?_ ?_; exact hq (hC (qgC h_r23)) hq0; refine Run.block ?_; refine zJ (fun (z36 : List Row) (z37 : Int) => ⟨63, 100000, [(0, .rf 0), (1, .t (.s (.int .i64 a1))), (2, .fn 58 [.t (.ip [.s (.int .i64 qJF), .im false (qE qKF), .s (.int .i64 qLF), .s (.bool qyF), .s (.int .i64 qMF), .im false (qB qzF), .s (.bool qAG), .s (.int .i64 quD), .s (.int .i64 qZE)])]), (6, .t (.s (.int .i64 z37)))], [(0, .row 0 56 2 (qP z36))]⟩) (x0 := r23) (x1 := 20) h (Weak.of _ [(0, 0)] hA (by cbv) ?_) (fun _ _ => rfl) ?_
 · repeat first|exact hq0|refine hq (by first|exact Tt|rfl) ?_
 intro k z36 z37 h; rw [qC.l1] at h; refine zB (zB ?_); refine zA hL hT [] (by cbv) ?_ ?_; exact zt; refine zC (by cbv) hq0 (fun c38 => ?_) (fun c38 => ?_)
 ·
  have h := if_t c38 h; refine zE ?_; refine Run.block ?_; refine zB ?_; refine zA hL hT [] (by cbv) ?_ ?_; exact zt; obtain ⟨K41, h_K41, h⟩ := joinE h; refine zM K41 (r := r) (fun (y39 : List Row) (y40 : Int) => ⟨63, 100000, [(0, .rf 0), (1, .t (.s (.int .i64 a1))), (2, .fn 58 [.t (.ip [.s (.int .i64 qJF), .im false (qE qKF), .s (.int .i64 qLF), .s (.bool qyF), .s (.int .i64 qMF), .im false (qB qzF), .s (.bool qAG), .s (.int .i64 quD), .s (.int .i64 qZE)])]), (6, .t (.s (.int .i64 z37))), (7, .t (.s (.int .i64 y40)))], [(0, .row 0 56 2 (qP y39))]⟩) ?_ ?_
  ·
   skip
   refine Run.block ?_; refine zL (fun (z56 : List Row) (z57 : Int) (z58 : Int) => ⟨63, 100000, [(0, .rf 0), (1, .t (.s (.int .i64 a1))), (2, .fn 58 [.t (.ip [.s (.int .i64 qJF), .im false (qE qKF), .s (.int .i64 qLF), .s (.bool qyF), .s (.int .i64 qMF), .im false (qB qzF), .s (.bool qAG), .s (.int .i64 quD), .s (.int .i64 qZE)])]), (6, .t (.s (.int .i64 z37))), (7, .t (.s (.int .i64 z57))), (8, .t (.s (.int .i64 z58)))], [(0, .row 0 56 2 (qP z56))]⟩) (x0 := z36) (x1 := 0) (x2 := (ar .mul .i64 2 z37)) h (Weak.of _ [(0, 0)] hA (by cbv) ?_) (fun _ _ _ => rfl) ?_
   · repeat first|exact hq0|refine hq (by first|exact Tt|rfl) ?_
   intro k z56 z57 z58 h; rw [qC.l2] at h; refine zB (zB ?_); refine zA hL hT [] (by cbv) ?_ ?_; exact zt; refine zC (by cbv) hq0 (fun c59 => ?_) (fun c59 => ?_)
   ·
    have h := if_t c59 h; refine zE ?_; refine Run.block ?_; refine zB ?_; obtain ⟨r60, h_r60, h⟩ := bnd h; refine zA hL hT [(7, .call [true, false, false, false, false] [.v (.ow 56 (qP r60)), .v (.jk), .v (.jk), .v (.jk), .v (.jk)] [])] (by cbv) ?_ ?_; exact hq Tt (hq (hC (qqC h_r60)) hq0); refine zB ?_; refine zA hL hT [] (by cbv) hq0 ?_; refine zA hL hT [] (by cbv) ?_ ?_; exact hq Tt zt; refine ⟨r60, z58, (ar .add .i64 z58 (ar .mul .i64 2 z37)), h, Weak.of _ [(0, 0)] hA (by cbv) ?_⟩
    repeat first|exact hq0|refine hq (by first|exact Tt|rfl) ?_
   have h := if_f c59 h; refine zG ?_; refine ⟨z56, z57, h, Weak.of _ [(0, 0)] hA (by cbv) ?_⟩
   repeat first|exact hq0|refine hq (by first|exact Tt|rfl) ?_
  intro y39 y40 h; rw [h_K41] at h; refine zB (zB ?_); refine zA hL hT [] (by cbv) ?_ ?_; exact zt; refine zB ?_; refine zA hL hT [] (by cbv) ?_ ?_; exact zt; refine zC (by cbv) hq0 (fun c61 => ?_) (fun c61 => ?_)
  ·
   have h := if_t c61 h; obtain ⟨r62, h_r62, h⟩ := bnd h; refine zA hL hT [(5, .call [true, false, false, false, false] [.v (.ow 56 (qP r62)), .v (.jk), .v (.jk), .v (.jk), .v (.jk)] [])] (by cbv) ?_ ?_; exact hq (hC (qqC h_r62)) hq0; refine zA hL hT [] (by cbv) ?_ ?_; exact zt; refine ⟨r62, (ar .mul .i64 z37 2), h, Weak.of _ [(0, 0)] hA (by cbv) ?_⟩
   repeat first|exact hq0|refine hq (by first|exact Tt|rfl) ?_
  have h := if_f c61 h; refine zE ?_; refine zA hL hT [] (by cbv) ?_ ?_; exact zt; refine ⟨y39, (ar .mul .i64 z37 2), h, Weak.of _ [(0, 0)] hA (by cbv) ?_⟩
  repeat first|exact hq0|refine hq (by first|exact Tt|rfl) ?_
 have h := if_f c38 h; refine zG ?_
 cases h
 refine ⟨_, _, by cbv, ?_, ?_⟩; exact LLe.r; exact ALe.nil
theorem qGE {a0 : List Row} {qtL : Int} {quL : List Cond} {qvL : Int} {qmN : Bool} {qwL : Int} {qnN : List Int} {qoN : Bool} {qAJ qbK : Int} {r : (List Row)} (h : qIB.f a0 (Query.mk qtL quL qvL qmN qwL qnN qoN qAJ qbK) = some r) : AC Tryz.prog 57 [.v (.ow 56 (rowsOf Row_o a0)), .v (.fn 58 [.ip [.s (.int .i64 qtL), .im false (rowsOf qR quL), .s (.int .i64 qvL), .s (.bool qmN), .s (.int .i64 qwL), .im false (rowsOf Int_c qnN), .s (.bool qoN), .s (.int .i64 qAJ), .s (.int .i64 qbK)]])] [.v (.ow 56 (rowsOf Row_o r)), .v (.jk)] [] := by
 unfold qIB.f at h; let qE := rowsOf qR; let qB := rowsOf Int_c; let qP := rowsOf Row_o; let qS := @lenI Row
 show AC _ _ [.v (.ow 56 (qP a0)), .v (.fn 58 [.ip [.s (.int .i64 qtL), .im false (qE quL), .s (.int .i64 qvL), .s (.bool qmN), .s (.int .i64 qwL), .im false (qB qnN), .s (.bool qoN), .s (.int .i64 qAJ), .s (.int .i64 qbK)]])] _ _
 refine run3 Tryz.func57 (by rfl) (by rfl) (by cbv) ⟨by decide, rfl⟩ ?_; intro ar cm bo sc sa sx ss sl bs sb ln sr ap up rp fr ge le lt nz mm ma sm fl al ci hL F hP hA hT hM hC; refine Run.weak ?_ (Weak.fnT 1 (by cbv)); obtain ⟨r1, h_r1, h⟩ := bnd h; refine zA hL hT [(4, .call [true, false, false] [.v (.ow 56 (qP r1)), .v (.jk), .v (.jk)] [])] (by cbv) ?_ ?_; exact hq (by rw [show ln (qP a0) = qS a0 from ln_eq Row_o _]; exact (hC (qNE h_r1))) hq0
 rw [show ln (qP a0) = qS a0 from ln_eq Row_o _]
 cases h
 refine ⟨_, _, by cbv, ?_, ?_⟩; exact LLe.r; exact ALe.nil
theorem qcK {qQ : List Int} {qOB : Int} {qFB : List (List Row)} {qo : Int} {qO : List Cond} {qp : Int} {qJB : Bool} {qq : Int} {qDB : List Int} {qM : Bool} {qL qc : Int} {r : (List Row)} (h : qyC.f (Store.mk (Schema.mk qQ) qOB qFB) (Query.mk qo qO qp qJB qq qDB qM qL qc) = some r) : AC Tryz.prog 16 [.ag [.im false (rowsOf Int_c qQ), .s (.int .i64 qOB), .im false (rowsOf quC qFB)], .ag [.s (.int .i64 qo), .im false (rowsOf qR qO), .s (.int .i64 qp), .s (.bool qJB), .s (.int .i64 qq), .im false (rowsOf Int_c qDB), .s (.bool qM), .s (.int .i64 qL), .s (.int .i64 qc)]] [.ag [.jk, .jk, .jk], .ag [.jk, .jk, .jk, .jk, .jk, .jk, .jk, .jk, .jk]] [.v (.ow 56 (rowsOf Row_o r))] := by
 unfold qyC.f at h; let qE := rowsOf qR; let qB := rowsOf Int_c; let qjC := rowsOf quC; let qT := rowsOf Row_i; let qP := rowsOf Row_o; let qS := @lenI Row
 show AC _ _ [.ag [.im false (qB qQ), .s (.int .i64 qOB), .im false (qjC qFB)], .ag [.s (.int .i64 qo), .im false (qE qO), .s (.int .i64 qp), .s (.bool qJB), .s (.int .i64 qq), .im false (qB qDB), .s (.bool qM), .s (.int .i64 qL), .s (.int .i64 qc)]] _ _
 refine run3 Tryz.func16 (by rfl) (by rfl) (by cbv) ⟨by decide, rfl⟩ ?_; intro ar cm bo sc sa sx ss sl bs sb ln sr ap up rp fr ge le lt nz mm ma sm fl al ci hL F hP hA hT hM hC; refine zB ?_; refine zA hL hT [] (by cbv) hq0 ?_; refine zB ?_; refine zA hL hT [] (by cbv) hq0 ?_; refine zB (zB ?_); obtain ⟨r1, h_r1, h⟩ := bnd h; obtain ⟨r2, h_r2, h⟩ := bnd h; refine zA hL hT [(1, .call [false] [.ag [.jk, .jk, .jk]] [.v (.s (.bool r1))]), (7, .call [false, false] [.ag [.jk], .ag [.jk, .jk, .jk, .jk, .jk, .jk, .jk, .jk, .jk]] [.v (.s (.bool r2))])] (by cbv) ?_ ?_
 exact hq Tt (hq (hC (qKG h_r1)) (hq zn (hq (fun g4 => (hq g4 zt)) (hq (fun g5 => zt) (hq (fun g6 => (hq g6 (hq g6 (hq (hC (qIF (gd_t h_r2 g6))) hq0)))) (hq (fun g7 => (hq g7 hq0)) (hq zn (hq (fun q9 => (hq (bo_m q9) hq0)) hq0)))))))); refine zC (by cbv) hq0 (fun c10 => ?_) (fun c10 => ?_)
 ·
  have h := if_t c10 h; refine zB ?_; refine zA hL hT [] (by cbv) hq0 ?_; refine zD ?_
  cases h
  refine ⟨_, _, by cbv, ?_, ?_⟩; exact LLe.r; exact ALe.v LLe.r ALe.nil
 have h := if_f c10 h; refine zE ?_; obtain ⟨K12, h_K12, h⟩ := joinE h; refine zI K12 (r := r) (fun (y11 : List Row) => ⟨44, 100000, [(3, .pt 1 0 0), (5, .rf 2)], [(1, .box 32 [.t (.s (.int .i64 qo)), .t (.im false (qE qO)), .t (.s (.int .i64 qp)), .t (.s (.bool qJB)), .t (.s (.int .i64 qq)), .t (.im false (qB qDB)), .t (.s (.bool qM)), .t (.s (.int .i64 qL)), .t (.s (.int .i64 qc))]), (2, .row 0 56 2 (qP y11))]⟩) ?_ ?_
 ·
  skip
  refine zB ?_; obtain ⟨x13, h_x13, h⟩ := bnd h; refine zA hL hT [(4, .el [.im false (qT x13)])] (by cbv) ?_ ?_; exact hq Tt (hq Tt (hq (qJ h_x13) (hq (qa (f := quC) h_x13) (hq (qk (f := quC) h_x13) hq0)))); rw [show ln (qT x13) = qS x13 from ln_eq Row_i _]; refine Run.block ?_; refine zJ (fun (z27 : List Row) (z28 : Int) => ⟨44, 100000, [(3, .pt 1 0 0), (5, .rf 2), (25, .t (.im false (qT x13))), (26, .t (.s (.int .i64 (qS x13)))), (27, .t (.s (.int .i64 z28)))], [(1, .box 32 [.t (.s (.int .i64 qo)), .t (.im false (qE qO)), .t (.s (.int .i64 qp)), .t (.s (.bool qJB)), .t (.s (.int .i64 qq)), .t (.im false (qB qDB)), .t (.s (.bool qM)), .t (.s (.int .i64 qL)), .t (.s (.int .i64 qc))]), (2, .row 0 56 2 (qP z27))]⟩) (x0 := []) (x1 := 0) h (Weak.of _ [(1, 1), (2, 4096)] hA (by cbv) ?_) (fun _ _ => rfl) ?_
  · repeat first|exact hq0|refine hq (by first|exact Tt|rfl) ?_
  intro k z27 z28 h; rw [qyC.l0] at h; refine zB ?_; refine zA hL hT [] (by cbv) ?_ ?_; exact zt; refine zB ?_; refine zC (by cbv) hq0 (fun c29 => ?_) (fun c29 => ?_)
  ·
   have h := if_t c29 h; refine zE (zB ?_); refine Run.block ?_; refine zB ?_; obtain ⟨⟨qCX, qpN⟩, h_x30, h⟩ := bnd h; refine zA hL hT [(0, .el [.s (.int .i64 qCX), .im false (qB qpN)])] (by cbv) ?_ ?_; exact hq (qJ h_x30) (hq (qa (f := Row_i) h_x30) (hq (qk (f := Row_i) h_x30) zt)); refine zB ?_; obtain ⟨r31, h_r31, h⟩ := bnd h; refine zA hL hT [(2, .call [false, false] [.ag [.jk, .jk, .jk, .jk, .jk, .jk, .jk, .jk, .jk], .ag [.jk, .jk]] [.v (.s (.bool r31))])] (by cbv) ?_ ?_
   exact hq Tt (hq Tt (hq (hC (qYK h_r31)) hq0)); refine zC (by cbv) hq0 (fun c32 => ?_) (fun c32 => ?_)
   ·
    have h := if_t c32 h; obtain ⟨⟨qQb, qiS⟩, h_r33, h⟩ := bnd h; obtain ⟨l34, h_l34, h⟩ := bnd h; obtain ⟨l35, h_l35, h⟩ := bnd h; refine zA hL hT [(2, .call [false] [.ag [.jk, .jk]] [.ag [.s (.int .i64 qQb), .ow 3 (qB qiS)]])] (by cbv) ?_ ?_; exact hq Tt (hq (hC (qEQ h_r33)) (hq (qGD (P := Tryz.prog) (f := Row_o) RLe.r (qLB (f := Row_o) h_l34 (RLe.cons rfl LLe.r RLe.nil)) h_l35) hq0)); refine Run.row (rows := (ap (qP z27) ([[.s (.int .i64 qQb), .ow 3 (qB qiS)]]))) 112292 (qP l35) (by cbv) (qFD (f := Row_o) RLe.r (qLB (f := Row_o) h_l34 (RLe.cons rfl LLe.r RLe.nil)) h_l35) ?_
    refine zA hL hT [] (by cbv) ?_ ?_; exact zt; refine ⟨l35, (ar .add .i64 z28 1), h, Weak.of _ [(1, 1), (2, 112292)] hA (by cbv) ?_⟩
    repeat first|exact hq0|refine hq (by first|exact Tt|rfl) ?_
   have h := if_f c32 h; refine zE ?_; refine zA hL hT [] (by cbv) ?_ ?_; exact zt; refine ⟨z27, (ar .add .i64 z28 1), h, Weak.of _ [(1, 1), (2, 2)] hA (by cbv) ?_⟩
   repeat first|exact hq0|refine hq (by first|exact Tt|rfl) ?_
  have h := if_f c29 h; refine zG ?_; refine ⟨z27, h, Weak.of _ [(1, 1), (2, 2)] hA (by cbv) ?_⟩
  repeat first|exact hq0|refine hq (by first|exact Tt|rfl) ?_
 intro y11 h; rw [h_K12] at h; refine zB ?_; obtain ⟨r36, h_r36, h⟩ := bnd h; refine zA hL hT [(2, .call [true, false] [.v (.ow 56 (qP r36)), .v (.jk)] [])] (by cbv) ?_ ?_; exact hq (hC (qGE h_r36)) hq0; refine zB ?_; refine zA hL hT [] (by cbv) hq0 ?_; refine zD ?_
 cases h
 refine ⟨_, _, by cbv, ?_, ?_⟩; exact LLe.r; exact ALe.v LLe.r ALe.nil
theorem qXR {qQ : List Int} {qOB : Int} {qFB : List (List Row)} {qo : Int} {qO : List Cond} {qp : Int} {qJB : Bool} {qq : Int} {qDB : List Int} {qM : Bool} {qL qc a2 r : Int} (h : qSD.f (Store.mk (Schema.mk qQ) qOB qFB) (Query.mk qo qO qp qJB qq qDB qM qL qc) a2 = some r) : AC Tryz.prog 53 [.ag [.im false (rowsOf Int_c qQ), .s (.int .i64 qOB), .im false (rowsOf quC qFB)], .ag [.s (.int .i64 qo), .im false (rowsOf qR qO), .s (.int .i64 qp), .s (.bool qJB), .s (.int .i64 qq), .im false (rowsOf Int_c qDB), .s (.bool qM), .s (.int .i64 qL), .s (.int .i64 qc)], .v (.s (.int .i64 a2))] [.ag [.jk, .jk, .jk], .ag [.jk, .jk, .jk, .jk, .jk, .jk, .jk, .jk, .jk], .v (.jk)] [.v (.s (.int .i64 r))] := by
 unfold qSD.f at h; let qE := rowsOf qR; let qB := rowsOf Int_c; let qjC := rowsOf quC; let qT := rowsOf Row_i; let qS := @lenI Row
 show AC _ _ [.ag [.im false (qB qQ), .s (.int .i64 qOB), .im false (qjC qFB)], .ag [.s (.int .i64 qo), .im false (qE qO), .s (.int .i64 qp), .s (.bool qJB), .s (.int .i64 qq), .im false (qB qDB), .s (.bool qM), .s (.int .i64 qL), .s (.int .i64 qc)], .v (.s (.int .i64 a2))] _ _
 refine run3 Tryz.func53 (by rfl) (by rfl) (by cbv) ⟨by decide, rfl⟩ ?_; intro ar cm bo sc sa sx ss sl bs sb ln sr ap up rp fr ge le lt nz mm ma sm fl al ci hL F hP hA hT hM hC; refine zB ?_; refine zA hL hT [] (by cbv) hq0 ?_; refine zB (zB ?_); obtain ⟨r1, h_r1, h⟩ := bnd h; obtain ⟨r2, h_r2, h⟩ := bnd h; refine zA hL hT [(1, .call [false] [.ag [.jk, .jk, .jk]] [.v (.s (.bool r1))]), (7, .call [false, false] [.ag [.jk], .ag [.jk, .jk, .jk, .jk, .jk, .jk, .jk, .jk, .jk]] [.v (.s (.bool r2))])] (by cbv) ?_ ?_
 exact hq Tt (hq (hC (qKG h_r1)) (hq zn (hq (fun g4 => (hq g4 zt)) (hq (fun g5 => zt) (hq (fun g6 => (hq g6 (hq g6 (hq (hC (qIF (gd_t h_r2 g6))) hq0)))) (hq (fun g7 => (hq g7 hq0)) (hq zn (hq (fun q9 => (hq (bo_m q9) hq0)) (hq zn (hq (fun g11 => (hq g11 zt)) (hq (fun g12 => (hq g12 hq0)) (hq zn (hq (fun q14 => (hq (bo_m q14) hq0)) hq0))))))))))))); refine zC (by cbv) hq0 (fun c15 => ?_) (fun c15 => ?_)
 ·
  have h := if_t c15 h; refine zB ?_; refine zA hL hT [] (by cbv) hq0 ?_; refine zD ?_
  cases h
  refine ⟨_, _, by cbv, ?_, ?_⟩; exact LLe.r; exact ALe.v LLe.r ALe.nil
 have h := if_f c15 h; refine zE (zB ?_); refine zA hL hT [] (by cbv) hq0 ?_; refine zB (zB ?_); obtain ⟨x16, h_x16, h⟩ := bnd h; refine zA hL hT [(4, .el [.im false (qT x16)])] (by cbv) ?_ ?_; exact hq Tt (hq Tt (hq (qJ h_x16) (hq (qa (f := quC) h_x16) (hq (qk (f := quC) h_x16) hq0)))); rw [show ln (qT x16) = qS x16 from ln_eq Row_i _]; refine Run.block ?_; refine zJ (fun (z31 : Int) (z32 : Int) => ⟨48, 100000, [(2, .t (.s (.int .i64 a2))), (4, .pt 1 0 0), (7, .t (.s (.int .i64 z31))), (30, .t (.im false (qT x16))), (31, .t (.s (.int .i64 (qS x16)))), (32, .t (.s (.int .i64 z32)))], [(1, .box 32 [.t (.s (.int .i64 qo)), .t (.im false (qE qO)), .t (.s (.int .i64 qp)), .t (.s (.bool qJB)), .t (.s (.int .i64 qq)), .t (.im false (qB qDB)), .t (.s (.bool qM)), .t (.s (.int .i64 qL)), .t (.s (.int .i64 qc))])]⟩) (x0 := 0) (x1 := 0) h (Weak.of _ [(1, 1)] hA (by cbv) ?_) (fun _ _ => rfl) ?_
 · repeat first|exact hq0|refine hq (by first|exact Tt|rfl) ?_
 intro k z31 z32 h; rw [qSD.l0] at h; refine zB ?_; refine zA hL hT [] (by cbv) ?_ ?_; exact zt; refine zB ?_; refine zC (by cbv) hq0 (fun c33 => ?_) (fun c33 => ?_)
 ·
  have h := if_t c33 h; refine zE (zB ?_); refine Run.block ?_; refine zB ?_; obtain ⟨⟨qDX, qJZ⟩, h_x34, h⟩ := bnd h; refine zA hL hT [(0, .el [.s (.int .i64 qDX), .im false (qB qJZ)])] (by cbv) ?_ ?_; exact hq (qJ h_x34) (hq (qa (f := Row_i) h_x34) (hq (qk (f := Row_i) h_x34) zt)); refine zB ?_; obtain ⟨x35, h_x35, h⟩ := bnd h; refine zA hL hT [(4, .el [.s (.int .i64 x35)])] (by cbv) ?_ ?_
  exact hq Tt (hq Tt (hq (qJ h_x35) (hq (qa (f := Int_c) h_x35) (hq (qk (f := Int_c) h_x35) zt)))); refine zC (by cbv) hq0 (fun c36 => ?_) (fun c36 => ?_)
  ·
   have h := if_t c36 h; refine zA hL hT [] (by cbv) ?_ ?_; exact zt; refine zA hL hT [] (by cbv) ?_ ?_; exact zt; refine ⟨(ar .add .i64 z31 1), (ar .add .i64 z32 1), h, Weak.of _ [(1, 1)] hA (by cbv) ?_⟩
   repeat first|exact hq0|refine hq (by first|exact Tt|rfl) ?_
  have h := if_f c36 h; refine zE ?_; refine zA hL hT [] (by cbv) ?_ ?_; exact zt; refine ⟨z31, (ar .add .i64 z32 1), h, Weak.of _ [(1, 1)] hA (by cbv) ?_⟩
  repeat first|exact hq0|refine hq (by first|exact Tt|rfl) ?_
 have h := if_f c33 h; refine zG (zB ?_); refine zA hL hT [] (by cbv) hq0 ?_; refine zD ?_
 cases h
 refine ⟨_, _, by cbv, ?_, ?_⟩; exact LLe.r; exact ALe.v LLe.r ALe.nil
theorem qKQ {qw : Int} {qi : List Cond} {qx : Int} {qMB : Bool} {qy : Int} {qEB : List Int} {qU : Bool} {qN qh a1 r : Int} (h : qyG.f (Query.mk qw qi qx qMB qy qEB qU qN qh) a1 = some r) : AC Tryz.prog 146 [.ag [.s (.int .i64 qw), .im false (rowsOf qR qi), .s (.int .i64 qx), .s (.bool qMB), .s (.int .i64 qy), .im false (rowsOf Int_c qEB), .s (.bool qU), .s (.int .i64 qN), .s (.int .i64 qh)], .v (.s (.int .i64 a1))] [.ag [.jk, .jk, .jk, .jk, .jk, .jk, .jk, .jk, .jk], .v (.jk)] [.v (.s (.int .i64 r))] := by
 unfold qyG.f at h; let qE := rowsOf qR; let qB := rowsOf Int_c
 show AC _ _ [.ag [.s (.int .i64 qw), .im false (qE qi), .s (.int .i64 qx), .s (.bool qMB), .s (.int .i64 qy), .im false (qB qEB), .s (.bool qU), .s (.int .i64 qN), .s (.int .i64 qh)], .v (.s (.int .i64 a1))] _ _
 refine run3 Tryz.func146 (by rfl) (by rfl) (by cbv) ⟨by decide, rfl⟩ ?_; intro ar cm bo sc sa sx ss sl bs sb ln sr ap up rp fr ge le lt nz mm ma sm fl al ci hL F hP hA hT hM hC; refine zB ?_; refine zA hL hT [] (by cbv) hq0 ?_; refine zB (zB ?_); refine zA hL hT [] (by cbv) ?_ ?_; exact hq Tt zt; refine zC (by cbv) hq0 (fun c1 => ?_) (fun c1 => ?_)
 ·
  have h := if_t c1 h; refine zB ?_; refine zA hL hT [] (by cbv) hq0 ?_; refine zD ?_
  cases h
  refine ⟨_, _, by cbv, ?_, ?_⟩; exact LLe.r; exact ALe.v LLe.r ALe.nil
 have h := if_f c1 h; refine zE (zB ?_); obtain ⟨m2, h_m2, h⟩ := bnd h; obtain ⟨m3, h_m3, h⟩ := bnd h; refine zA hL hT [(2, .hd [] (.t (.s (.int .i64 m2))) []), (4, .hd [] (.t (.s (.int .i64 m3))) [])] (by cbv) ?_ ?_; exact hq Tt (hq (qpc h_m2) (hq (qqc h_m3) hq0)); refine zD ?_
 cases h
 refine ⟨_, _, by cbv, ?_, ?_⟩; exact LLe.r; exact ALe.v LLe.r ALe.nil
theorem qZL {qcB a0v_N : Int} {a0v_S : ByteArray} {qK : List Json} {qj : List ByteArray} {r : Json} (h : qkF.f (Json.mk qcB a0v_N a0v_S qK qj) = some r) : AC Tryz.prog 119 [.ag [.s (.int .i64 qcB), .s (.int .i64 a0v_N), .s (.string a0v_S), .ow 46 (rowsOf qYD qK), .ow 9 (rowsOf Str_c qj)]] [.ag [.jk, .jk, .jk, .jk, .jk]] [.ag [.s (.int .i64 r.Kind), .s (.int .i64 r.N), .s (.string r.S), .ow 46 (rowsOf qYD r.List_), .ow 9 (rowsOf Str_c r.Names)]] := by
 unfold qkF.f at h; let qmD := rowsOf qYD; let qhB := rowsOf Str_c
 show AC _ _ [.ag [.s (.int .i64 qcB), .s (.int .i64 a0v_N), .s (.string a0v_S), .ow 46 (qmD qK), .ow 9 (qhB qj)]] _ _
 refine run3 Tryz.func119 (by rfl) (by rfl) (by cbv) ⟨by decide, rfl⟩ ?_; intro ar cm bo sc sa sx ss sl bs sb ln sr ap up rp fr ge le lt nz mm ma sm fl al ci hL F hP hA hT hM hC; refine zB ?_; refine zA hL hT [] (by cbv) hq0 ?_; refine zB (zB ?_); obtain ⟨r1, h_r1, h⟩ := bnd h; refine zA hL hT [(1, .call [false] [.ag [.jk, .jk, .jk, .jk, .jk]] [.v (.s (.bool r1))])] (by cbv) ?_ ?_; exact hq Tt (hq (hC (AC.args (qyI h_r1) (ALe.ag rfl (LLe.c (LLe.c (LLe.c (LLe.cons (LLe.im (RLe.eq (qz qgM _))) (LLe.cons (LLe.im (RLe.eq (qz qhN _))) LLe.nil))))) ALe.nil))) hq0)
 refine zC (by cbv) hq0 (fun c2 => ?_) (fun c2 => ?_)
 ·
  have h := if_t c2 h; refine zB ?_; refine zA hL hT [] (by cbv) ?_ ?_; exact zt; refine zD ?_
  cases h
  refine ⟨_, _, by cbv, ?_, ?_⟩; exact LLe.c (LLe.c (LLe.c (LLe.cons LLe.jk (LLe.cons LLe.jk LLe.nil)))); exact ALe.ag rfl (LLe.c (LLe.c (LLe.c (LLe.cons zK (LLe.cons zK LLe.nil))))) ALe.nil
 have h := if_f c2 h; refine zE (zB ?_); refine zA hL hT [] (by cbv) ?_ ?_; exact hq Tt zt; refine Run.weak ?_ (Weak.mvB 0 14290 3 (by cbv) (by cbv) (by cbv)); refine Run.weak ?_ (Weak.mvB 1 14291 3 (by cbv) (by cbv) (by cbv)); refine zD ?_
 cases h
 refine ⟨_, _, by cbv, ?_, ?_⟩; exact LLe.r; exact ALe.ag rfl LLe.r ALe.nil
theorem qxL {a0 : List Int} {a1 r : Int} (h : qoC.f a0 a1 = some r) : AC Tryz.prog 169 [.v (.im false (rowsOf Int_c a0)), .v (.s (.int .i64 a1))] [.v (.jk), .v (.jk)] [.v (.s (.int .i64 r))] := by
 unfold qoC.f at h; let qB := rowsOf Int_c; let qW := @lenI Int
 show AC _ _ [.v (.im false (qB a0)), .v (.s (.int .i64 a1))] _ _
 refine run3 Tryz.func169 (by rfl) (by rfl) (by cbv) ⟨by decide, rfl⟩ ?_; intro ar cm bo sc sa sx ss sl bs sb ln sr ap up rp fr ge le lt nz mm ma sm fl al ci hL F hP hA hT hM hC; refine zB ?_; refine zA hL hT [] (by cbv) hq0 ?_; refine zB (zB ?_); refine zA hL hT [] (by cbv) hq0 ?_; rw [show ln (qB a0) = qW a0 from ln_eq Int_c _]; refine Run.block ?_; refine zH (fun (z5 : Int) => ⟨19, 100000, [(0, .t (.im false (qB a0))), (1, .t (.s (.int .i64 a1))), (7, .t (.s (.int .i64 (qW a0)))), (8, .t (.s (.int .i64 z5)))], []⟩) (x0 := 0) h (Weak.of _ [] hA (by cbv) ?_) (fun _ => rfl) ?_
 · repeat first|exact hq0|refine hq (by first|exact Tt|rfl) ?_
 intro k z5 h; rw [qoC.l0] at h; refine zB ?_; refine zA hL hT [] (by cbv) ?_ ?_; exact zt; refine zB ?_; refine zC (by cbv) hq0 (fun c6 => ?_) (fun c6 => ?_)
 ·
  have h := if_t c6 h; refine zE (zB ?_); refine Run.block ?_; refine zB ?_; refine zA hL hT [] (by cbv) hq0 ?_; refine zB ?_; obtain ⟨x7, h_x7, h⟩ := bnd h; refine zA hL hT [(3, .el [.s (.int .i64 x7)])] (by cbv) ?_ ?_; exact hq (qJ h_x7) (hq (qa (f := Int_c) h_x7) (hq (qk (f := Int_c) h_x7) zt)); refine zC (by cbv) hq0 (fun c8 => ?_) (fun c8 => ?_)
  ·
   have h := if_t c8 h; refine zB ?_; refine zA hL hT [] (by cbv) hq0 ?_; refine zD ?_
   cases h
   refine ⟨_, _, by cbv, ?_, ?_⟩; exact LLe.r; exact ALe.v LLe.r ALe.nil
  have h := if_f c8 h; refine zE ?_; refine zA hL hT [] (by cbv) ?_ ?_; exact zt; refine ⟨(ar .add .i64 z5 1), h, Weak.of _ [] hA (by cbv) ?_⟩
  repeat first|exact hq0|refine hq (by first|exact Tt|rfl) ?_
 have h := if_f c6 h; refine zG (zB ?_); refine zA hL hT [] (by cbv) hq0 ?_; refine zD ?_
 cases h
 refine ⟨_, _, by cbv, ?_, ?_⟩; exact LLe.r; exact ALe.v LLe.r ALe.nil
theorem qFK {a0 : List Int} {a1 : Int} {r : Bool} (h : qAE.f a0 a1 = some r) : AC Tryz.prog 162 [.v (.im false (rowsOf Int_c a0)), .v (.s (.int .i64 a1))] [.v (.jk), .v (.jk)] [.v (.s (.bool r))] := by
 unfold qAE.f at h; let qB := rowsOf Int_c
 show AC _ _ [.v (.im false (qB a0)), .v (.s (.int .i64 a1))] _ _
 refine run3 Tryz.func162 (by rfl) (by rfl) (by cbv) ⟨by decide, rfl⟩ ?_; intro ar cm bo sc sa sx ss sl bs sb ln sr ap up rp fr ge le lt nz mm ma sm fl al ci hL F hP hA hT hM hC; refine zB ?_; refine zA hL hT [] (by cbv) hq0 ?_; refine zB ?_; obtain ⟨r1, h_r1, h⟩ := bnd h; refine zA hL hT [(2, .call [false, false] [.v (.jk), .v (.jk)] [.v (.s (.int .i64 r1))])] (by cbv) ?_ ?_; exact hq (hC (qxL h_r1)) zt
 refine zD ?_
 cases h
 refine ⟨_, _, by cbv, ?_, ?_⟩; exact LLe.r; exact ALe.v LLe.r ALe.nil
def qnV : Go.Shelf.Ren := ⟨fun | 171 => 170 | 243 => 179 | 246 => 186 | 283 => 190 | 284 => 191 | 285 => 192 | 286 => 193 | 129 => 197 | 317 => 196 | 318 => 198 | 319 => 199 | 320 => 200 | 337 => 201 | 338 => 202 | n => n, fun | 3 => 3 | 9 => 9 | 2 => 2 | 4 => 4 | 171 => 179 | 0 => 0 | 53 => 180 | 37 => 22 | 5 => 5 | 173 => 183 | 212 => 189 | 51 => 190 | 20 => 20 | 213 => 191 | 46 => 152 | 232 => 194 | 233 => 195 | n => n, fun | 17 => 0 | 18 => 1 | 19 => 2 | n => n⟩
theorem laysItoa : Go.Proofs.LaysM.n171 Tryz.prog qnV := {
 mixed := by kernel_rfl
 f129 := Tryz.func197.trans (congrArg some (by kernel_rfl))
 f171 := Tryz.func170.trans (congrArg some (by kernel_rfl))
 f243 := Tryz.func179.trans (congrArg some (by kernel_rfl))
 f246 := Tryz.func186.trans (congrArg some (by kernel_rfl))
 f283 := Tryz.func190.trans (congrArg some (by kernel_rfl))
 f284 := Tryz.func191.trans (congrArg some (by kernel_rfl))
 f285 := Tryz.func192.trans (congrArg some (by kernel_rfl))
 f286 := Tryz.func193.trans (congrArg some (by kernel_rfl))
 f317 := Tryz.func196.trans (congrArg some (by kernel_rfl))
 f318 := Tryz.func198.trans (congrArg some (by kernel_rfl))
 f319 := Tryz.func199.trans (congrArg some (by kernel_rfl))
 f320 := Tryz.func200.trans (congrArg some (by kernel_rfl))
 f337 := Tryz.func201.trans (congrArg some (by kernel_rfl))
 f338 := Tryz.func202.trans (congrArg some (by kernel_rfl))
 t0 := Tryz.underlying0
 a0 := Tryz.isAgg0
 z0 := Tryz.sizeOf0
 v0 := Tryz.zeroValue0
 t2 := Tryz.underlying2
 a2 := Tryz.isAgg2
 z2 := Tryz.sizeOf2
 v2 := Tryz.zeroValue2
 t3 := Tryz.underlying3
 a3 := Tryz.isAgg3
 z3 := Tryz.sizeOf3
 v3 := Tryz.zeroValue3
 t4 := Tryz.underlying4
 a4 := Tryz.isAgg4
 z4 := Tryz.sizeOf4
 v4 := Tryz.zeroValue4
 t5 := Tryz.underlying5
 a5 := Tryz.isAgg5
 z5 := Tryz.sizeOf5
 v5 := Tryz.zeroValue5
 t9 := Tryz.underlying9
 a9 := Tryz.isAgg9
 z9 := Tryz.sizeOf9
 v9 := Tryz.zeroValue9
 t20 := Tryz.underlying20
 a20 := Tryz.isAgg20
 z20 := Tryz.sizeOf20
 v20 := Tryz.zeroValue20
 t37 := Tryz.underlying22
 a37 := Tryz.isAgg22
 z37 := Tryz.sizeOf22
 v37 := Tryz.zeroValue22
 t46 := Tryz.underlying152
 a46 := Tryz.isAgg152
 z46 := Tryz.sizeOf152
 v46 := Tryz.zeroValue152
 t51 := Tryz.underlying190
 a51 := Tryz.isAgg190
 z51 := Tryz.sizeOf190
 v51 := Tryz.zeroValue190
 t53 := Tryz.underlying180
 a53 := Tryz.isAgg180
 z53 := Tryz.sizeOf180
 v53 := Tryz.zeroValue180
 t171 := Tryz.underlying179
 a171 := Tryz.isAgg179
 z171 := Tryz.sizeOf179
 v171 := Tryz.zeroValue179
 t173 := Tryz.underlying183
 a173 := Tryz.isAgg183
 z173 := Tryz.sizeOf183
 v173 := Tryz.zeroValue183
 t212 := Tryz.underlying189
 a212 := Tryz.isAgg189
 z212 := Tryz.sizeOf189
 v212 := Tryz.zeroValue189
 t213 := Tryz.underlying191
 a213 := Tryz.isAgg191
 z213 := Tryz.sizeOf191
 t232 := Tryz.underlying194
 a232 := Tryz.isAgg194
 z232 := Tryz.sizeOf194
 v232 := Tryz.zeroValue194
 t233 := Tryz.underlying195
 a233 := Tryz.isAgg195
 z233 := Tryz.sizeOf195
 v233 := Tryz.zeroValue195
 g17 := by kernel_rfl
 g18 := by kernel_rfl
 g19 := by kernel_rfl
 i0 := by kernel_rfl
 i2 := by kernel_rfl
 i3 := by kernel_rfl
 i4 := by kernel_rfl
 i5 := by kernel_rfl
 i9 := by kernel_rfl
 i20 := by kernel_rfl
 i37 := by kernel_rfl
 i46 := by kernel_rfl
 i51 := by kernel_rfl
 i53 := by kernel_rfl
 i171 := by kernel_rfl
 i173 := by kernel_rfl
 i212 := by kernel_rfl
 i232 := by kernel_rfl
 i233 := by kernel_rfl
 m17 := by kernel_rfl
 m18 := by kernel_rfl
 m19 := by kernel_rfl }
theorem qLQ {a0 : Int} {r : ByteArray} (h : strconv_Itoa.f a0 = some r) : AC Tryz.prog 170 [.v (.s (.int .i64 a0))] [.v .jk] [.v (.s (.string r))] := zh ⟨_, Tryz.func170, by rfl, by rfl⟩ (g := 0) (by kernel_rfl) (fun n h0 h1 w htab => Go.Proofs.Any.strconv_Itoa laysItoa n h0 h1 w htab) h
theorem qYR {a0 : Int} {r : ByteArray} (h : qqH.f a0 = some r) : AC Tryz.prog 163 [.v (.s (.int .i64 a0))] [.v (.jk)] [.v (.s (.string r))] := by
 unfold qqH.f at h
 show AC _ _ [.v (.s (.int .i64 a0))] _ _
 refine run3 Tryz.func163 (by rfl) (by rfl) (by cbv) ⟨by decide, rfl⟩ ?_; intro ar cm bo sc sa sx ss sl bs sb ln sr ap up rp fr ge le lt nz mm ma sm fl al ci hL F hP hA hT hM hC; refine zB ?_; refine zA hL hT [] (by cbv) hq0 ?_; refine zB ?_; obtain ⟨r1, h_r1, h⟩ := bnd h; refine zA hL hT [(1, .call [false] [.v (.jk)] [.v (.s (.string r1))])] (by cbv) ?_ ?_; exact hq (hC (qLQ h_r1)) hq0; refine zD ?_
 cases h
 refine ⟨_, _, by cbv, ?_, ?_⟩; exact LLe.r; exact ALe.v LLe.r ALe.nil
theorem qCI {a0 : ByteArray} {r : Bool} (h : qiE.f a0 = some r) : AC Tryz.prog 187 [.v (.s (.string a0))] [.v (.jk)] [.v (.s (.bool r))] := by
 unfold qiE.f at h
 show AC _ _ [.v (.s (.string a0))] _ _
 refine run3 Tryz.func187 (by rfl) (by rfl) (by cbv) ⟨by decide, rfl⟩ ?_; intro ar cm bo sc sa sx ss sl bs sb ln sr ap up rp fr ge le lt nz mm ma sm fl al ci hL F hP hA hT hM hC; refine zB ?_; refine zA hL hT [] (by cbv) hq0 ?_; refine zB ?_; refine zA hL hT [] (by cbv) hq0 ?_; refine zD ?_
 cases h
 refine ⟨_, _, by cbv, ?_, ?_⟩; exact LLe.r; exact ALe.v LLe.r ALe.nil
theorem qkM {a0 a1 : ByteArray} {r : Bool} (h : qAF.f a0 a1 = some r) : AC Tryz.prog 180 [.v (.s (.string a0)), .v (.s (.string a1))] [.v (.jk), .v (.jk)] [.v (.s (.bool r))] := by
 unfold qAF.f at h
 show AC _ _ [.v (.s (.string a0)), .v (.s (.string a1))] _ _
 refine run3 Tryz.func180 (by rfl) (by rfl) (by cbv) ⟨by decide, rfl⟩ ?_; intro ar cm bo sc sa sx ss sl bs sb ln sr ap up rp fr ge le lt nz mm ma sm fl al ci hL F hP hA hT hM hC; refine zB ?_; refine zA hL hT [] (by cbv) hq0 ?_; refine zB ?_; obtain ⟨r1, h_r1, h⟩ := bnd h; obtain ⟨r2, h_r2, h⟩ := bnd h; refine zA hL hT [(1, .call [false] [.v (.jk)] [.v (.s (.bool r1))]), (4, .call [false] [.v (.jk)] [.v (.s (.bool r2))])] (by cbv) ?_ ?_
 exact hq (hC (qCI h_r1)) (hq zn (hq (fun g4 => (hq g4 (hq (hC (qCI (gd_t h_r2 g4))) hq0))) (hq (fun g5 => (hq g5 hq0)) (hq (fun q6 => (hq q6 hq0)) (hq zn (hq zn (hq zn (hq (fun g10 => (hq g10 (hq g10 hq0))) (hq zn (hq (fun q12 => (hq (bo_m q12) hq0)) hq0)))))))))); refine zD ?_
 cases h
 refine ⟨_, _, by cbv, ?_, ?_⟩; exact LLe.r; exact ALe.v LLe.r ALe.nil
theorem qQG {a0 : ByteArray} {r : Bool} (h : qwC.f a0 = some r) : AC Tryz.prog 181 [.v (.s (.string a0))] [.v (.jk)] [.v (.s (.bool r))] := by
 unfold qwC.f at h
 show AC _ _ [.v (.s (.string a0))] _ _
 refine run3 Tryz.func181 (by rfl) (by rfl) (by cbv) ⟨by decide, rfl⟩ ?_; intro ar cm bo sc sa sx ss sl bs sb ln sr ap up rp fr ge le lt nz mm ma sm fl al ci hL F hP hA hT hM hC; refine zB ?_; refine zA hL hT [] (by cbv) hq0 ?_; refine zB ?_; refine zA hL hT [] (by cbv) hq0 ?_; refine zD ?_
 cases h
 refine ⟨_, _, by cbv, ?_, ?_⟩; exact LLe.r; exact ALe.v LLe.r ALe.nil
theorem qGH {a0 : List ByteArray} {a1 : ByteArray} {r : Int × Bool} (h : qm.f a0 a1 = some r) : AC Tryz.prog 171 [.v (.im false (rowsOf Str_c a0)), .v (.s (.string a1))] [.v (.jk), .v (.jk)] [.v (.s (.int .i64 r.1)), .v (.s (.bool r.2))] := by
 unfold qm.f at h; let qhB := rowsOf Str_c; let qDD := @lenI ByteArray
 show AC _ _ [.v (.im false (qhB a0)), .v (.s (.string a1))] _ _
 refine run3 Tryz.func171 (by rfl) (by rfl) (by cbv) ⟨by decide, rfl⟩ ?_; intro ar cm bo sc sa sx ss sl bs sb ln sr ap up rp fr ge le lt nz mm ma sm fl al ci hL F hP hA hT hM hC; refine zB ?_; refine zA hL hT [] (by cbv) hq0 ?_; refine zB ?_; refine zA hL hT [] (by cbv) hq0 ?_; rw [show ln (qhB a0) = qDD a0 from ln_eq Str_c _]; refine zB ?_; refine zA hL hT [] (by cbv) hq0 ?_; obtain ⟨K2, h_K2, h⟩ := joinE h
 refine zI K2 (r := r) (fun (y1 : Int) => ⟨54, 100000, [(0, .t (.im false (qhB a0))), (1, .t (.s (.string a1))), (6, .t (.s (.int .i64 (qDD a0)))), (7, .t (.s (.int .i64 y1)))], []⟩) ?_ ?_
 ·
  skip
  refine Run.block ?_; refine zJ (fun (z8 : Int) (z9 : Int) => ⟨54, 100000, [(0, .t (.im false (qhB a0))), (1, .t (.s (.string a1))), (6, .t (.s (.int .i64 (qDD a0)))), (7, .t (.s (.int .i64 z8))), (8, .t (.s (.int .i64 z9)))], []⟩) (x0 := 0) (x1 := (qDD a0)) h (Weak.of _ [] hA (by cbv) ?_) (fun _ _ => rfl) ?_
  · repeat first|exact hq0|refine hq (by first|exact Tt|rfl) ?_
  intro k z8 z9 h; rw [qm.l0] at h; refine zB (zB ?_); refine zA hL hT [] (by cbv) ?_ ?_; exact zt; refine zC (by cbv) hq0 (fun c10 => ?_) (fun c10 => ?_)
  ·
   have h := if_t c10 h; refine zE ?_; refine Run.block ?_; refine zB ?_; refine zA hL hT [] (by cbv) ?_ ?_; exact hq Tt (hq Tt (hq Tt (hq (by decide : (0 : Int) ≤ 1) (hq (by decide : (1 : Int) < 64) hq0)))); refine zB ?_; obtain ⟨x11, h_x11, h⟩ := bnd h; obtain ⟨r12, h_r12, h⟩ := bnd h; refine zA hL hT [(2, .el [.s (.string x11)]), (5, .call [false, false] [.v (.jk), .v (.jk)] [.v (.s (.bool r12))])] (by cbv) ?_ ?_
   exact hq (qJ h_x11) (hq (qa (f := Str_c) h_x11) (hq (qk (f := Str_c) h_x11) (hq (hC (qkM h_r12)) hq0))); refine zC (by cbv) hq0 (fun c13 => ?_) (fun c13 => ?_)
   ·
    have h := if_t c13 h; refine zA hL hT [] (by cbv) ?_ ?_; exact zt; refine ⟨(ar .add .i64 (ar .or .i64 (ar .shr .u64 (ar .or .u64 (ar .add .i64 z8 z9) 0) 1) 0) 1), z9, h, Weak.of _ [] hA (by cbv) ?_⟩
    repeat first|exact hq0|refine hq (by first|exact Tt|rfl) ?_
   have h := if_f c13 h; refine zA hL hT [] (by cbv) hq0 ?_; refine ⟨z8, (ar .or .i64 (ar .shr .u64 (ar .or .u64 (ar .add .i64 z8 z9) 0) 1) 0), h, Weak.of _ [] hA (by cbv) ?_⟩
   repeat first|exact hq0|refine hq (by first|exact Tt|rfl) ?_
  have h := if_f c10 h; refine zG ?_; refine ⟨z8, h, Weak.of _ [] hA (by cbv) ?_⟩
  repeat first|exact hq0|refine hq (by first|exact Tt|rfl) ?_
 intro y1 h; rw [h_K2] at h; refine zB ?_; obtain ⟨x14, h_x14, h⟩ := bnd h; obtain ⟨x15, h_x15, h⟩ := bnd h; obtain ⟨r16, h_r16, h⟩ := bnd h; obtain ⟨r17, h_r17, h⟩ := bnd h; refine zA hL hT [(7, .el [.s (.string x14)]), (14, .el [.s (.string x15)]), (16, .call [false] [.v (.jk)] [.v (.s (.bool r16))]), (19, .call [false] [.v (.jk)] [.v (.s (.bool r17))])] (by cbv) ?_ ?_; exact hq Tt (hq zn (hq zn (hq (fun g20 => (hq g20 (hq g20 (hq (qJ (gd_t h_x14 g20)) (hq (qa (f := Str_c) (gd_t h_x14 g20)) (hq (qk (f := Str_c) (gd_t h_x14 g20)) hq0)))))) (hq (fun g21 => (hq g21 hq0)) (hq zn (hq (fun g23 => (hq g23 (hq g23 hq0))) (hq (fun g24 => (hq g24 hq0)) (hq zn (hq zn (hq (fun g27 => (hq g27 (hq g27 (hq (qJ (gd_t h_x15 g27)) (hq (qa (f := Str_c) (gd_t h_x15 g27)) (hq (qk (f := Str_c) (gd_t h_x15 g27)) hq0)))))) (hq (fun g28 => (hq g28 hq0)) (hq (fun g29 => (hq g29 (hq (hC (qQG (gd_t h_r16 g29))) hq0))) (hq (fun g30 => (hq g30 hq0)) (hq zn (hq (fun g32 => (hq g32 (hq (hC (qQG (gd_t h_r17 g32))) hq0))) (hq (fun g33 => (hq g33 (hq (fun q34 => (hq (bo_a g33 q34) hq0)) (hq zn hq0)))) (hq (fun g36 => (hq g36 (hq zn (hq (fun q38 => (hq (bo_a g36 (bo_m q38)) hq0)) hq0)))) (hq (fun q39 => (hq q39 hq0)) (hq zn hq0)))))))))))))))))))
 refine zD ?_
 cases h
 refine ⟨_, _, by cbv, ?_, ?_⟩; exact LLe.r; exact ALe.v LLe.r (ALe.v LLe.r ALe.nil)
set_option maxHeartbeats 4000000 in
set_option maxRecDepth 100000 in
theorem qBJ (w : World) (g2 c2 : Nat)
 (v' : Value) (w' : World) (hrun : (Builtin.append_ #[44, 44] 44 #[.slice none 0 0, .slice (some ⟨g2, 0, none⟩) 1 c2]).run Tryz.prog w = .ok v' w') :
 Calls Tryz.prog 172 #[.slice none 0 0, .int .i64 0, .slice (some ⟨g2, 0, none⟩) 1 c2] w fun ex w2 => ex = .returned v' ∧ w2 = w' := by
 go_enter Tryz.func172, Tryz.ntmps172
 go_wp2_with (at_builtin; refine qQD rfl (qaE rfl rfl rfl hrun) ?_)
 all_goals go_ret
 all_goals exact ⟨rfl, rfl⟩
set_option maxHeartbeats 4000000 in
set_option maxRecDepth 100000 in
theorem qUJ (w : World) (g c g2 c2 n : Nat) (hnc : n ≤ c)
 (v' : Value) (w' : World) (hrun : (Builtin.append_ #[44, 44] 44 #[.slice (some ⟨g, 0, none⟩) n c, .slice (some ⟨g2, 0, none⟩) 1 c2]).run Tryz.prog w = .ok v' w') :
 Calls Tryz.prog 172 #[.slice (some ⟨g, 0, none⟩) n c, .int .i64 n, .slice (some ⟨g2, 0, none⟩) 1 c2] w fun ex w2 => ex = .returned v' ∧ w2 = w' := by
 go_enter Tryz.func172, Tryz.ntmps172
 go_wp2_with (at_builtin; refine qQD rfl (qaE rfl rfl rfl hrun) ?_)
 all_goals go_ret
 all_goals exact ⟨rfl, rfl⟩
set_option maxHeartbeats 4000000 in
set_option maxRecDepth 100000 in
theorem qoJ (w : World) (g c g2 c2 n i : Nat) (cur cur2 A B : Array Value) (hi : i < n) (hroom : n + 1 ≤ c) (hc63 : c ≤ maxLen) (hne : g2 ≠ g) (hg : w.heap[g]? = some (.cells cur 9 (0, 0))) (hcs : cur.size = c * 1) (hg2 : w.heap[g2]? = some (.cells cur2 9 (0, 0)))
 (hcp1 : ∀ ty dc sc, (Builtin.copy_ #[44, 44] ty #[.slice (some ⟨g, i + 1, none⟩) (n + 1 - (i + 1)) dc, .slice (some ⟨g, i, none⟩) (n + 1 - i) sc]).run Tryz.prog w.drew = .ok (goInt (n - i : Nat)) (w.drew.setRow g A))
 (hcp2 : ∀ ty dc, (Builtin.copy_ #[44, 44] ty #[.slice (some ⟨g, i, none⟩) (n + 1 - i) dc, .slice (some ⟨g2, 0, none⟩) 1 c2]).run Tryz.prog (w.drew.setRow g A) = .ok (goInt (1 : Nat)) ((w.drew.setRow g A).setRow g B)) :
 Calls Tryz.prog 172 #[.slice (some ⟨g, 0, none⟩) n c, .int .i64 i, .slice (some ⟨g2, 0, none⟩) 1 c2] w fun ex w2 => ex = .returned (.slice (some ⟨g, 0, none⟩) (n + 1) c) ∧ w2 = (w.drew.setRow g A).setRow g B := by
 have mixed := mixed; have TE : TyOk Tryz.prog 9 _ := qUF 9 _ rfl; have TS : TyOk Tryz.prog 44 _ := qUF 44 _ rfl; obtain ⟨ti, hti, htz, htb, _⟩ := TE.info; have u92 := TS.isS rfl
 have hz1 : ¬ ((1 : Int) = 0) := by omega
 have hz2 : ¬ ((i : Int) = (n : Int)) := by omega
 have hw1 : IntKind.i64.wrap ((i : Int) + (1 : Int)) = (i : Int) + (1 : Int) := by unfold maxLen at hc63; rw [IntKind.wrap_i64]; omega
 have hw2 : IntKind.i64.wrap ((n : Int) + (1 : Int)) = (n : Int) + (1 : Int) := by unfold maxLen at hc63; rw [IntKind.wrap_i64]; omega
 have hb1 : (0 : Int) ≤ (i : Int) + (1 : Int) := by omega
 have hin : i ≤ n := by omega
 have htn : ((i : Int) + (1 : Int)).toNat = i + 1 := by omega
 have hb2 : ¬ (c = i + 1) := by omega
 have hb3 : (i : Int) ≤ (n : Int) + (1 : Int) := by omega
 have hb4 : ¬ (c = i) := by omega
 have hov : ∀ lb cb o, (callFunc 182 #[.slice (some ⟨g2, 0, none⟩) 1 c2, .slice (some ⟨g, o, none⟩) lb cb]).run Tryz.prog w = .ok (.value (.bool false)) w := fun lb cb o => by
  rw [run_callFunc_extern Tryz.func182 (by kernel_rfl) (by kernel_rfl) (by kernel_rfl) (e := Extern.SlicesOverlaps.overlaps #[44, 44] #[4]) (by kernel_rfl),
   Lib.run_overlaps_apart w 44 4 9 u92 1 (fun w => by simp [sizeOf, typeInfo, hti, htz]) ⟨g2, 0, none⟩ ⟨g, o, none⟩ 1 c2 lb cb hne 9 9 cur2.size cur.size (by simp [World.shape?, hg2]) (by simp [World.shape?, hg]) (by omega) (by simp [World.frozen?, hg2]) (by simp [World.frozen?, hg2])]
  rfl
 go_enter Tryz.func172, Tryz.ntmps172
 go_wp2_with (simp only [hov])
 go_region_law_o (refine qBL rfl (qhE rfl (by simp [Act.eval, Act.put]; rfl) (by simp [Act.eval, Act.put]; rfl) (hcp1 _ _ _)) ?_)
 go_wp2_with (at_builtin; refine qQD rfl (qhE rfl rfl rfl (hcp2 _ _)) ?_)
 go_ret
 exact ⟨rfl, rfl⟩
set_option maxHeartbeats 4000000 in
set_option maxRecDepth 100000 in
theorem qCJ (w : World) (g c g2 c2 n i G : Nat) (R A B : Array Value) (hi : i < n) (hnc : n ≤ c) (hroom : c < n + 1) (hc63 : n + 1 ≤ maxLen) (hG : n + 1 ≤ G) (hGm : G ≤ maxLen)
 (hrz : ∀ ty, (Builtin.append_ #[44, 3] ty #[.slice (some ⟨g, 0, none⟩) i c, .int .i64 ((n : Int) + 1 - i)]).run Tryz.prog w = .ok (.slice (some ⟨w.heap.size, 0, none⟩) (n + 1) G) (w.drew.alloc (.cells R 9)))
 (hcp2 : ∀ ty dc, (Builtin.copy_ #[44, 44] ty #[.slice (some ⟨w.heap.size, i, none⟩) (n + 1 - i) dc, .slice (some ⟨g2, 0, none⟩) 1 c2]).run Tryz.prog (w.alloc (.cells R 9)).drew = .ok (goInt (1 : Nat)) ((w.alloc (.cells R 9)).drew.setRow w.heap.size A))
 (hcp1 : ∀ ty dc sc, (Builtin.copy_ #[44, 44] ty #[.slice (some ⟨w.heap.size, i + 1, none⟩) (n + 1 - (i + 1)) dc, .slice (some ⟨g, i, none⟩) (n - i) sc]).run Tryz.prog ((w.alloc (.cells R 9)).drew.setRow w.heap.size A).drew = .ok (goInt (n - i : Nat)) (((w.alloc (.cells R 9)).drew.setRow w.heap.size A).drew.setRow w.heap.size B)) :
 Calls Tryz.prog 172 #[.slice (some ⟨g, 0, none⟩) n c, .int .i64 i, .slice (some ⟨g2, 0, none⟩) 1 c2] w fun ex w2 => ex = .returned (.slice (some ⟨w.heap.size, 0, none⟩) (n + 1) G) ∧ w2 = ((w.alloc (.cells R 9)).drew.setRow w.heap.size A).drew.setRow w.heap.size B := by
 have mixed := mixed
 have hz1 : ¬ ((1 : Int) = 0) := by omega
 have hz2 : ¬ ((i : Int) = (n : Int)) := by omega
 have hz3 : (c : Int) < (n : Int) + (1 : Int) := by omega
 have hw1 : IntKind.i64.wrap ((i : Int) + (1 : Int)) = (i : Int) + (1 : Int) := by unfold maxLen at hc63; rw [IntKind.wrap_i64]; omega
 have hw2 : IntKind.i64.wrap ((n : Int) + (1 : Int)) = (n : Int) + (1 : Int) := by unfold maxLen at hc63; rw [IntKind.wrap_i64]; omega
 have hw3 : IntKind.i64.wrap ((n : Int) + (1 : Int) - (i : Int)) = (n : Int) + (1 : Int) - (i : Int) := by unfold maxLen at hc63; rw [IntKind.wrap_i64]; omega
 have hb1 : (0 : Int) ≤ (i : Int) + (1 : Int) := by omega
 have hin : i ≤ n := by omega
 have htn : ((i : Int) + (1 : Int)).toNat = i + 1 := by omega
 have hGi : ¬ (G = i) := by omega
 have hGim : ¬ (G = i + 1) := by omega
 have hci : ¬ (c = i) := by omega
 have hb3 : (i : Int) ≤ (n : Int) := by omega
 go_enter Tryz.func172, Tryz.ntmps172
 go_wp2_with (first
  | (at_builtin; refine qQD rfl (qaE rfl rfl rfl (hrz _)) ?_)
  | (at_builtin; refine qQD rfl (qhE rfl rfl rfl (hcp2 _ _)) ?_))
 go_region_law_o (refine qBL rfl (qhE rfl (by simp [Act.eval, Act.put]; rfl) (by simp [Act.eval, Act.put]; rfl) (hcp1 _ _ _)) ?_)
 go_wp2
 go_ret
 exact ⟨rfl, rfl⟩
theorem qaI : Roads Tryz.prog 172 44 9 1 3 where
 end0 := fun w g2 c2 v' w' h => qBJ w g2 c2 v' w' h
 end1 := fun w g c g2 c2 n v' w' hnc h => qUJ w g c g2 c2 n hnc v' w' h
 inn := fun w g c g2 c2 n i cur cur2 A B h1 h2 h3 h4 h5 h6 h7 h8 h9 => qoJ w g c g2 c2 n i cur cur2 A B h1 h2 h3 h4 h5 h6 h7 (by simpa using h8) (by simpa using h9)
 grow := fun w g c g2 c2 n i G R A B h1 h2 h3 h4 h5 h6 h7 h8 h9 => qCJ w g c g2 c2 n i G R A B h1 h2 h3 h4 h5 h6 h7 (by simpa using h8) (by simpa using h9)
theorem qpJ {a0 a2 : List ByteArray} {a1 : Int} {r : List ByteArray} (h : qRE.f a0 a1 a2 = some r) : AC Tryz.prog 172 [.v (.ow 9 (rowsOf Str_c a0)), .v (.s (.int .i64 a1)), .v (.ow 9 (rowsOf Str_c a2))] [.v .jk, .v .jk, .v .jk] [.v (.ow 9 (rowsOf Str_c r))] := by
 unfold qRE.f insO at h
 split at h
 ·
  rename_i hc
  obtain ⟨h1, c0, c1, c2, c3⟩ := hc
  obtain ⟨i, rfl⟩ : ∃ k : Nat, a1 = k := ⟨a1.toNat, by omega⟩
  obtain ⟨x, rfl⟩ := List.length_eq_one_iff.1 h1; simp only [zoI] at h; subst h
  have hr : rowsOf Str_c (a0.take ((i : Nat) : Int).toNat ++ [x] ++ a0.drop ((i : Nat) : Int).toNat) = (rowsOf Str_c a0).take i ++ [Str_c x] ++ (rowsOf Str_c a0).drop i := by simp [rowsOf, List.map_take, List.map_drop]
  rw [hr]; have hl := rowsOf_len Str_c a0; simp only [List.length_singleton] at c2 c3; exact zX ⟨_, Tryz.func172, by rfl, by rfl⟩ (qrE (qUF 9 _ rfl)) (qaI.raw (qUF 44 _ rfl) rfl (qUF 9 _ rfl) (by simp) (qvI (qUF 3 _ rfl) rfl)) (by omega) (by rw [hl]; show (a0.length + 1) * 16 ≤ _; omega) (by omega)
 cases h
set_option maxHeartbeats 4000000 in
set_option maxRecDepth 100000 in
theorem qbH (w : World) (g2 c2 : Nat)
 (v' : Value) (w' : World) (hrun : (Builtin.append_ #[43, 43] 43 #[.slice none 0 0, .slice (some ⟨g2, 0, none⟩) 1 c2]).run Tryz.prog w = .ok v' w') :
 Calls Tryz.prog 173 #[.slice none 0 0, .int .i64 0, .slice (some ⟨g2, 0, none⟩) 1 c2] w fun ex w2 => ex = .returned v' ∧ w2 = w' := by
 go_enter Tryz.func173, Tryz.ntmps173
 go_wp2_with (at_builtin; refine qQD rfl (qaE rfl rfl rfl hrun) ?_)
 all_goals go_ret
 all_goals exact ⟨rfl, rfl⟩
set_option maxHeartbeats 4000000 in
set_option maxRecDepth 100000 in
theorem qDI (w : World) (g c g2 c2 n : Nat) (hnc : n ≤ c)
 (v' : Value) (w' : World) (hrun : (Builtin.append_ #[43, 43] 43 #[.slice (some ⟨g, 0, none⟩) n c, .slice (some ⟨g2, 0, none⟩) 1 c2]).run Tryz.prog w = .ok v' w') :
 Calls Tryz.prog 173 #[.slice (some ⟨g, 0, none⟩) n c, .int .i64 n, .slice (some ⟨g2, 0, none⟩) 1 c2] w fun ex w2 => ex = .returned v' ∧ w2 = w' := by
 go_enter Tryz.func173, Tryz.ntmps173
 go_wp2_with (at_builtin; refine qQD rfl (qaE rfl rfl rfl hrun) ?_)
 all_goals go_ret
 all_goals exact ⟨rfl, rfl⟩
set_option maxHeartbeats 4000000 in
set_option maxRecDepth 100000 in
theorem qbI (w : World) (g c g2 c2 n i : Nat) (cur cur2 A B : Array Value) (hi : i < n) (hroom : n + 1 ≤ c) (hc63 : c ≤ maxLen) (hne : g2 ≠ g) (hg : w.heap[g]? = some (.cells cur 46 (0, 0))) (hcs : cur.size = c * 5) (hg2 : w.heap[g2]? = some (.cells cur2 46 (0, 0)))
 (hcp1 : ∀ ty dc sc, (Builtin.copy_ #[43, 43] ty #[.slice (some ⟨g, (i + 1) * 5, none⟩) (n + 1 - (i + 1)) dc, .slice (some ⟨g, i * 5, none⟩) (n + 1 - i) sc]).run Tryz.prog w.drew = .ok (goInt (n - i : Nat)) (w.drew.setRow g A))
 (hcp2 : ∀ ty dc, (Builtin.copy_ #[43, 43] ty #[.slice (some ⟨g, i * 5, none⟩) (n + 1 - i) dc, .slice (some ⟨g2, 0, none⟩) 1 c2]).run Tryz.prog (w.drew.setRow g A) = .ok (goInt (1 : Nat)) ((w.drew.setRow g A).setRow g B)) :
 Calls Tryz.prog 173 #[.slice (some ⟨g, 0, none⟩) n c, .int .i64 i, .slice (some ⟨g2, 0, none⟩) 1 c2] w fun ex w2 => ex = .returned (.slice (some ⟨g, 0, none⟩) (n + 1) c) ∧ w2 = (w.drew.setRow g A).setRow g B := by
 have mixed := mixed; have TE : TyOk Tryz.prog 46 _ := qUF 46 _ rfl; have TS : TyOk Tryz.prog 43 _ := qUF 43 _ rfl; obtain ⟨ti, hti, htz, htb, _⟩ := TE.info; have u92 := TS.isS rfl
 have hz1 : ¬ ((1 : Int) = 0) := by omega
 have hz2 : ¬ ((i : Int) = (n : Int)) := by omega
 have hw1 : IntKind.i64.wrap ((i : Int) + (1 : Int)) = (i : Int) + (1 : Int) := by unfold maxLen at hc63; rw [IntKind.wrap_i64]; omega
 have hw2 : IntKind.i64.wrap ((n : Int) + (1 : Int)) = (n : Int) + (1 : Int) := by unfold maxLen at hc63; rw [IntKind.wrap_i64]; omega
 have hb1 : (0 : Int) ≤ (i : Int) + (1 : Int) := by omega
 have hin : i ≤ n := by omega
 have htn : ((i : Int) + (1 : Int)).toNat = i + 1 := by omega
 have hb2 : ¬ (c = i + 1) := by omega
 have hb3 : (i : Int) ≤ (n : Int) + (1 : Int) := by omega
 have hb4 : ¬ (c = i) := by omega
 have hov : ∀ lb cb o, (callFunc 184 #[.slice (some ⟨g2, 0, none⟩) 1 c2, .slice (some ⟨g, o, none⟩) lb cb]).run Tryz.prog w = .ok (.value (.bool false)) w := fun lb cb o => by
  rw [run_callFunc_extern Tryz.func184 (by kernel_rfl) (by kernel_rfl) (by kernel_rfl) (e := Extern.SlicesOverlaps.overlaps #[43, 43] #[4]) (by kernel_rfl),
   Lib.run_overlaps_apart w 43 4 46 u92 5 (fun w => by simp [sizeOf, typeInfo, hti, htz]) ⟨g2, 0, none⟩ ⟨g, o, none⟩ 1 c2 lb cb hne 46 46 cur2.size cur.size (by simp [World.shape?, hg2]) (by simp [World.shape?, hg]) (by omega) (by simp [World.frozen?, hg2]) (by simp [World.frozen?, hg2])]
  rfl
 go_enter Tryz.func173, Tryz.ntmps173
 go_wp2_with (simp only [hov])
 go_region_law_o (refine qBL rfl (qhE rfl (by simp [Act.eval, Act.put]; rfl) (by simp [Act.eval, Act.put]; rfl) (hcp1 _ _ _)) ?_)
 go_wp2_with (at_builtin; refine qQD rfl (qhE rfl rfl rfl (hcp2 _ _)) ?_)
 go_ret
 exact ⟨rfl, rfl⟩
set_option maxHeartbeats 4000000 in
set_option maxRecDepth 100000 in
theorem qcH (w : World) (g c g2 c2 n i G : Nat) (R A B : Array Value) (hi : i < n) (hnc : n ≤ c) (hroom : c < n + 1) (hc63 : n + 1 ≤ maxLen) (hG : n + 1 ≤ G) (hGm : G ≤ maxLen)
 (hrz : ∀ ty, (Builtin.append_ #[43, 3] ty #[.slice (some ⟨g, 0, none⟩) i c, .int .i64 ((n : Int) + 1 - i)]).run Tryz.prog w = .ok (.slice (some ⟨w.heap.size, 0, none⟩) (n + 1) G) (w.drew.alloc (.cells R 46)))
 (hcp2 : ∀ ty dc, (Builtin.copy_ #[43, 43] ty #[.slice (some ⟨w.heap.size, i * 5, none⟩) (n + 1 - i) dc, .slice (some ⟨g2, 0, none⟩) 1 c2]).run Tryz.prog (w.alloc (.cells R 46)).drew = .ok (goInt (1 : Nat)) ((w.alloc (.cells R 46)).drew.setRow w.heap.size A))
 (hcp1 : ∀ ty dc sc, (Builtin.copy_ #[43, 43] ty #[.slice (some ⟨w.heap.size, (i + 1) * 5, none⟩) (n + 1 - (i + 1)) dc, .slice (some ⟨g, i * 5, none⟩) (n - i) sc]).run Tryz.prog ((w.alloc (.cells R 46)).drew.setRow w.heap.size A).drew = .ok (goInt (n - i : Nat)) (((w.alloc (.cells R 46)).drew.setRow w.heap.size A).drew.setRow w.heap.size B)) :
 Calls Tryz.prog 173 #[.slice (some ⟨g, 0, none⟩) n c, .int .i64 i, .slice (some ⟨g2, 0, none⟩) 1 c2] w fun ex w2 => ex = .returned (.slice (some ⟨w.heap.size, 0, none⟩) (n + 1) G) ∧ w2 = ((w.alloc (.cells R 46)).drew.setRow w.heap.size A).drew.setRow w.heap.size B := by
 have mixed := mixed
 have hz1 : ¬ ((1 : Int) = 0) := by omega
 have hz2 : ¬ ((i : Int) = (n : Int)) := by omega
 have hz3 : (c : Int) < (n : Int) + (1 : Int) := by omega
 have hw1 : IntKind.i64.wrap ((i : Int) + (1 : Int)) = (i : Int) + (1 : Int) := by unfold maxLen at hc63; rw [IntKind.wrap_i64]; omega
 have hw2 : IntKind.i64.wrap ((n : Int) + (1 : Int)) = (n : Int) + (1 : Int) := by unfold maxLen at hc63; rw [IntKind.wrap_i64]; omega
 have hw3 : IntKind.i64.wrap ((n : Int) + (1 : Int) - (i : Int)) = (n : Int) + (1 : Int) - (i : Int) := by unfold maxLen at hc63; rw [IntKind.wrap_i64]; omega
 have hb1 : (0 : Int) ≤ (i : Int) + (1 : Int) := by omega
 have hin : i ≤ n := by omega
 have htn : ((i : Int) + (1 : Int)).toNat = i + 1 := by omega
 have hGi : ¬ (G = i) := by omega
 have hGim : ¬ (G = i + 1) := by omega
 have hci : ¬ (c = i) := by omega
 have hb3 : (i : Int) ≤ (n : Int) := by omega
 go_enter Tryz.func173, Tryz.ntmps173
 go_wp2_with (first
  | (at_builtin; refine qQD rfl (qaE rfl rfl rfl (hrz _)) ?_)
  | (at_builtin; refine qQD rfl (qhE rfl rfl rfl (hcp2 _ _)) ?_))
 go_region_law_o (refine qBL rfl (qhE rfl (by simp [Act.eval, Act.put]; rfl) (by simp [Act.eval, Act.put]; rfl) (hcp1 _ _ _)) ?_)
 go_wp2
 go_ret
 exact ⟨rfl, rfl⟩
theorem qHH : Roads Tryz.prog 173 43 46 5 3 where
 end0 := fun w g2 c2 v' w' h => qbH w g2 c2 v' w' h
 end1 := fun w g c g2 c2 n v' w' hnc h => qDI w g c g2 c2 n hnc v' w' h
 inn := fun w g c g2 c2 n i cur cur2 A B h1 h2 h3 h4 h5 h6 h7 h8 h9 => qbI w g c g2 c2 n i cur cur2 A B h1 h2 h3 h4 h5 h6 h7 h8 h9
 grow := fun w g c g2 c2 n i G R A B h1 h2 h3 h4 h5 h6 h7 h8 h9 => qcH w g c g2 c2 n i G R A B h1 h2 h3 h4 h5 h6 h7 h8 h9
theorem qcI {a0 a2 : List Json} {a1 : Int} {r : List Json} (h : qjD.f a0 a1 a2 = some r) : AC Tryz.prog 173 [.v (.ow 46 (rowsOf qYD a0)), .v (.s (.int .i64 a1)), .v (.ow 46 (rowsOf qYD a2))] [.v .jk, .v .jk, .v .jk] [.v (.ow 46 (rowsOf qYD r))] := by
 unfold qjD.f insO at h
 split at h
 ·
  rename_i hc
  obtain ⟨h1, c0, c1, c2, c3⟩ := hc
  obtain ⟨i, rfl⟩ : ∃ k : Nat, a1 = k := ⟨a1.toNat, by omega⟩
  obtain ⟨x, rfl⟩ := List.length_eq_one_iff.1 h1; simp only [zoI] at h; subst h
  have hr : rowsOf qYD (a0.take ((i : Nat) : Int).toNat ++ [x] ++ a0.drop ((i : Nat) : Int).toNat) = (rowsOf qYD a0).take i ++ [qYD x] ++ (rowsOf qYD a0).drop i := by simp [rowsOf, List.map_take, List.map_drop]
  rw [hr]; have hl := rowsOf_len qYD a0; simp only [List.length_singleton] at c2 c3; exact zX ⟨_, Tryz.func173, by rfl, by rfl⟩ (qrE (qUF 46 _ rfl)) (qHH.raw (qUF 43 _ rfl) rfl (qUF 46 _ rfl) (by simp) (qvI (qUF 3 _ rfl) rfl)) (by omega) (by rw [hl]; show (a0.length + 1) * 80 ≤ _; omega) (by omega)
 cases h
theorem qFU {a0 : List ByteArray} {a1 : List Int} {r : Json} (h : qwD.f a0 a1 = some r) : AC Tryz.prog 164 [.v (.im false (rowsOf Str_c a0)), .v (.im false (rowsOf Int_c a1))] [.v (.jk), .v (.jk)] [.ag [.s (.int .i64 r.Kind), .s (.int .i64 r.N), .s (.string r.S), .ow 46 (rowsOf qYD r.List_), .ow 9 (rowsOf Str_c r.Names)]] := by
 unfold qwD.f at h; let qB := rowsOf Int_c; let qmD := rowsOf qYD; let qhB := rowsOf Str_c; let qDD := @lenI ByteArray
 show AC _ _ [.v (.im false (qhB a0)), .v (.im false (qB a1))] _ _
 refine run3 Tryz.func164 (by rfl) (by rfl) (by cbv) ⟨by decide, rfl⟩ ?_; intro ar cm bo sc sa sx ss sl bs sb ln sr ap up rp fr ge le lt nz mm ma sm fl al ci hL F hP hA hT hM hC; refine zB ?_; refine zA hL hT [] (by cbv) hq0 ?_; refine zB ?_; refine zA hL hT [] (by cbv) ?_ ?_; exact zt; refine zB (zB ?_); refine zA hL hT [] (by cbv) hq0 ?_; rw [show ln (qhB a0) = qDD a0 from ln_eq Str_c _]
 refine Run.block ?_; refine zL (fun (z23 : List Json) (z24 : List ByteArray) (z25 : Int) => ⟨45, 100000, [(1, .t (.im false (qB a1))), (4, .pt 1 0 0), (5, .pt 2 0 0), (11, .t (.im false (qhB a0))), (12, .t (.s (.int .i64 (qDD a0)))), (13, .t (.s (.int .i64 z25)))], [(1, .box 46 [.t (.s (.int .i64 0)), .t (.s (.int .i64 0)), .t (.s (.string ByteArray.empty)), .t (.s (.slice none 0 0)), .t (.s (.slice none 0 0))]), (2, .box 46 [.t (.s (.int .i64 5)), .t (.s (.int .i64 0)), .t (.s (.string ByteArray.empty)), .rf 3, .rf 4]), (3, .row 0 46 5 (qmD z23)), (4, .row 0 9 1 (qhB z24))]⟩) (x0 := []) (x1 := []) (x2 := 0) h ((Weak.nilB (l := [.t (.s (.int .i64 5)), .t (.s (.int .i64 0)), .t (.s (.string ByteArray.empty))]) hT 4097 3 13288 46 rfl (by cbv) (by cbv) (by cbv)).trans ((Weak.nilB (l := [.t (.s (.int .i64 5)), .t (.s (.int .i64 0)), .t (.s (.string ByteArray.empty)), .rf 13288]) hT 4097 4 13289 9 rfl (by cbv) (by cbv) (by cbv)).trans (Weak.of _ [(1, 0), (2, 4097), (3, 13288), (4, 13289)] hA (by cbv) ?_))) (fun _ _ _ => rfl) ?_
 · repeat first|exact hq0|refine hq (by first|exact Tt|rfl) ?_
 intro k z23 z24 z25 h; rw [qwD.l0] at h; refine zB ?_; refine zA hL hT [] (by cbv) ?_ ?_; exact zt; refine zB ?_; refine zC (by cbv) hq0 (fun c26 => ?_) (fun c26 => ?_)
 ·
  have h := if_t c26 h; refine zE (zB ?_); refine Run.block ?_; refine zB ?_; obtain ⟨x27, h_x27, h⟩ := bnd h; refine zA hL hT [(1, .el [.s (.string x27)])] (by cbv) ?_ ?_; exact hq (qJ h_x27) (hq (qa (f := Str_c) h_x27) (hq (qk (f := Str_c) h_x27) hq0)); refine zB ?_; obtain ⟨⟨qCg, qDg⟩, h_r28, h⟩ := bnd h; refine zA hL hT [(3, .call [false, false] [.v (.jk), .v (.jk)] [.v (.s (.int .i64 qCg)), .v (.s (.bool qDg))])] (by cbv) ?_ ?_
  exact hq Tt (hq (hC (AC.args (qGH h_r28) (ALe.v (LLe.im (RLe.eq (qz qhN _))) (ALe.v LLe.r ALe.nil)))) hq0); refine zB ?_; obtain ⟨l29, h_l29, h⟩ := bnd h; obtain ⟨r30, h_r30, h⟩ := bnd h; refine zA hL hT [(5, .call [true, false, true] [.v (.jk), .v (.jk), .v (.jk)] [.v (.ow 9 (qhB r30))])] (by cbv) ?_ ?_; exact hq Tt (hq (hC (AC.args (qpJ h_r30) (ALe.v LLe.r (ALe.v LLe.r (ALe.v (LLe.ow (qLB (f := Str_c) h_l29 (RLe.cons rfl LLe.r RLe.nil))) ALe.nil))))) zt)
  obtain ⟨x31, h_x31, h⟩ := bnd h; obtain ⟨l32, h_l32, h⟩ := bnd h; obtain ⟨r33, h_r33, h⟩ := bnd h; refine zF hL hT hM [(5, .el [.s (.int .i64 x31)]), (9, .call [true, false, true] [.v (.jk), .v (.jk), .v (.jk)] [.v (.ow 46 (qmD r33))])] (by cbv) (by cbv) (by cbv) (by cbv) (by cbv) ?_ ?_; exact hq Tt (hq (qJ h_x31) (hq (qa (f := Int_c) h_x31) (hq (qk (f := Int_c) h_x31) (hq (hC (AC.args (qcI h_r33) (ALe.v LLe.r (ALe.v LLe.r (ALe.v (LLe.ow (qmO qfM h_l32 (RLe.cons rfl (LLe.c (LLe.c (LLe.c (LLe.cons zK (LLe.cons zK LLe.nil))))) RLe.nil))) ALe.nil))))) zt))))
  refine zA hL hT [] (by cbv) ?_ ?_; exact zt; refine ⟨r33, r30, (ar .add .i64 z25 1), h, Weak.of _ [(1, 1), (2, 2), (3, 116393), (4, 112293)] hA (by cbv) ?_⟩
  repeat first|exact hq0|refine hq (by first|exact Tt|rfl) ?_
 have h := if_f c26 h; refine zG (zB ?_); refine zA hL hT [] (by cbv) ?_ ?_; exact hq Tt zt; refine zD ?_
 cases h
 refine ⟨_, _, by cbv, ?_, ?_⟩; exact LLe.r; exact ALe.ag rfl LLe.r ALe.nil
theorem qZR {qw : Int} {qi : List Cond} {qx : Int} {qMB : Bool} {qy : Int} {qEB : List Int} {qU : Bool} {qN qh qhC : Int} {qn : List Int} {a2 : Int} {r : Json} (h : qTD.f (Query.mk qw qi qx qMB qy qEB qU qN qh) (Row.mk qhC qn) a2 = some r) : AC Tryz.prog 147 [.ag [.s (.int .i64 qw), .im false (rowsOf qR qi), .s (.int .i64 qx), .s (.bool qMB), .s (.int .i64 qy), .im false (rowsOf Int_c qEB), .s (.bool qU), .s (.int .i64 qN), .s (.int .i64 qh)], .ag [.s (.int .i64 qhC), .im false (rowsOf Int_c qn)], .v (.s (.int .i64 a2))] [.ag [.jk, .jk, .jk, .jk, .jk, .jk, .jk, .jk, .jk], .ag [.jk, .jk], .v (.jk)] [.ag [.s (.int .i64 r.Kind), .s (.int .i64 r.N), .s (.string r.S), .ow 46 (rowsOf qYD r.List_), .ow 9 (rowsOf Str_c r.Names)]] := by
 unfold qTD.f at h; let qE := rowsOf qR; let qB := rowsOf Int_c; let qmD := rowsOf qYD; let qhB := rowsOf Str_c; let qW := @lenI Int
 show AC _ _ [.ag [.s (.int .i64 qw), .im false (qE qi), .s (.int .i64 qx), .s (.bool qMB), .s (.int .i64 qy), .im false (qB qEB), .s (.bool qU), .s (.int .i64 qN), .s (.int .i64 qh)], .ag [.s (.int .i64 qhC), .im false (qB qn)], .v (.s (.int .i64 a2))] _ _
 refine run3 Tryz.func147 (by rfl) (by rfl) (by cbv) ⟨by decide, rfl⟩ ?_; intro ar cm bo sc sa sx ss sl bs sb ln sr ap up rp fr ge le lt nz mm ma sm fl al ci hL F hP hA hT hM hC; refine zB ?_; refine zA hL hT [] (by cbv) hq0 ?_; refine zB ?_; obtain ⟨l1, h_l1, h⟩ := bnd h; obtain ⟨l2, h_l2, h⟩ := bnd h; refine zF hL hT hM [] (by cbv) (by cbv) (by cbv) (by cbv) (by cbv) ?_ ?_; exact zt; refine Run.row (rows := [[.s (.string (ByteArray.mk #[105, 100]))]]) 4096 (qhB l1) (by cbv) (qLB (f := Str_c) h_l1 (RLe.cons rfl LLe.r RLe.nil)) ?_
 refine Run.row (rows := [[.s (.int .i64 qhC)]]) 4099 (qB l2) (by cbv) (qLB (f := Int_c) h_l2 (RLe.cons rfl LLe.r RLe.nil)) ?_; obtain ⟨K5, h_K5, h⟩ := joinE h; refine zM K5 (r := r) (fun (y3 : List ByteArray) (y4 : List Int) => ⟨55, 100000, [(2, .t (.s (.int .i64 a2))), (3, .pt 1 0 0), (6, .pt 2 0 0), (7, .rf 3), (8, .rf 4)], [(1, .box 32 [.t (.s (.int .i64 qw)), .t (.im false (qE qi)), .t (.s (.int .i64 qx)), .t (.s (.bool qMB)), .t (.s (.int .i64 qy)), .t (.im false (qB qEB)), .t (.s (.bool qU)), .t (.s (.int .i64 qN)), .t (.s (.int .i64 qh))]), (2, .box 46 [.t (.s (.int .i64 0)), .t (.s (.int .i64 0)), .t (.s (.string ByteArray.empty)), .t (.s (.slice none 0 0)), .t (.s (.slice none 0 0))]), (3, .row 0 9 1 (qhB y3)), (4, .row 0 3 1 (qB y4))]⟩) ?_ ?_
 ·
  skip
  refine zB ?_; refine zA hL hT [] (by cbv) ?_ ?_; exact zt; rw [show ln (qB qEB) = qW qEB from ln_eq Int_c _]; refine Run.block ?_; refine zL (fun (z26 : List ByteArray) (z27 : List Int) (z28 : Int) => ⟨55, 100000, [(2, .t (.s (.int .i64 a2))), (3, .pt 1 0 0), (4, .pt 2 0 0), (6, .pt 3 0 0), (7, .rf 4), (8, .rf 5), (16, .t (.im false (qB qEB))), (17, .t (.s (.int .i64 (qW qEB)))), (18, .t (.s (.int .i64 z28)))], [(1, .box 32 [.t (.s (.int .i64 qw)), .t (.im false (qE qi)), .t (.s (.int .i64 qx)), .t (.s (.bool qMB)), .t (.s (.int .i64 qy)), .t (.im false (qB qEB)), .t (.s (.bool qU)), .t (.s (.int .i64 qN)), .t (.s (.int .i64 qh))]), (2, .box 56 [.t (.s (.int .i64 qhC)), .t (.im false (qB qn))]), (3, .box 46 [.t (.s (.int .i64 0)), .t (.s (.int .i64 0)), .t (.s (.string ByteArray.empty)), .t (.s (.slice none 0 0)), .t (.s (.slice none 0 0))]), (4, .row 0 9 1 (qhB z26)), (5, .row 0 3 1 (qB z27))]⟩) (x0 := l1) (x1 := l2) (x2 := 0) h (Weak.of _ [(1, 0), (2, 1), (3, 2), (4, 4096), (5, 4099)] hA (by cbv) ?_) (fun _ _ _ => rfl) ?_
  · repeat first|exact hq0|refine hq (by first|exact Tt|rfl) ?_
  intro k z26 z27 z28 h; rw [qTD.l0] at h; refine zB ?_; refine zA hL hT [] (by cbv) ?_ ?_; exact zt; refine zB ?_; refine zC (by cbv) hq0 (fun c29 => ?_) (fun c29 => ?_)
  ·
   have h := if_t c29 h; refine zE (zB ?_); refine Run.block ?_; refine zB ?_; obtain ⟨x30, h_x30, h⟩ := bnd h; refine zA hL hT [(1, .el [.s (.int .i64 x30)])] (by cbv) ?_ ?_; exact hq (qJ h_x30) (hq (qa (f := Int_c) h_x30) (hq (qk (f := Int_c) h_x30) hq0)); refine zB (zB ?_); obtain ⟨l31, h_l31, h⟩ := bnd h; obtain ⟨r32, h_r32, h⟩ := bnd h; refine zA hL hT [(5, .call [false, false] [.v (.jk), .v (.jk)] [.v (.s (.bool r32))])] (by cbv) ?_ ?_
   exact hq Tt (hq (cut_0 h_l31) (hq (cut_1 h_l31) (hq (cut_2 (f := Int_c) h_l31) (hq (qad qqe _) (hq (hC (AC.args (qFK h_r32) (ALe.v (LLe.im (RLe.eq (qOS Int_c h_l31))) (ALe.v LLe.r ALe.nil)))) hq0))))); rw [show sr (qB qEB) 0 z28 = qB l31 from qOS Int_c h_l31]; refine zC (by cbv) hq0 (fun c33 => ?_) (fun c33 => ?_)
   ·
    have h := if_t c33 h; refine zG ?_; refine zA hL hT [] (by cbv) ?_ ?_; exact zt; refine ⟨z26, z27, (ar .add .i64 z28 1), h, Weak.of _ [(1, 1), (2, 2), (3, 3), (4, 4), (5, 5)] hA (by cbv) ?_⟩
    repeat first|exact hq0|refine hq (by first|exact Tt|rfl) ?_
   have h := if_f c33 h; refine zE (zB ?_); obtain ⟨r34, h_r34, h⟩ := bnd h; obtain ⟨u35, h_u35, h⟩ := bnd h; obtain ⟨l36, h_l36, h⟩ := bnd h; obtain ⟨l37, h_l37, h⟩ := bnd h; refine zA hL hT [(2, .call [false] [.v (.jk)] [.v (.s (.string r34))])] (by cbv) ?_ ?_; exact hq (hC (qYR h_r34)) (hq (sm_t h_u35) (hq (qGD (P := Tryz.prog) (f := Str_c) RLe.r (qLB (f := Str_c) h_l36 (RLe.cons rfl LLe.r RLe.nil)) h_l37) hq0))
   refine Run.row (rows := (ap (qhB z26) ([[.s (.string (sa (ByteArray.mk #[99]) r34))]]))) 112293 (qhB l37) (by cbv) (qFD (f := Str_c) RLe.r (qLB (f := Str_c) h_l36 (RLe.cons rfl LLe.r RLe.nil)) h_l37) ?_; obtain ⟨r38, h_r38, h⟩ := bnd h; obtain ⟨l39, h_l39, h⟩ := bnd h; obtain ⟨l40, h_l40, h⟩ := bnd h; refine zA hL hT [(3, .call [false, false] [.ag [.jk, .jk], .v (.jk)] [.v (.s (.int .i64 r38))])] (by cbv) ?_ ?_
   exact hq Tt (hq (hC (qzI h_r38)) (hq (qGD (P := Tryz.prog) (f := Int_c) RLe.r (qLB (f := Int_c) h_l39 (RLe.cons rfl LLe.r RLe.nil)) h_l40) hq0)); refine Run.row (rows := (ap (qB z27) ([[.s (.int .i64 r38)]]))) 116389 (qB l40) (by cbv) (qFD (f := Int_c) RLe.r (qLB (f := Int_c) h_l39 (RLe.cons rfl LLe.r RLe.nil)) h_l40) ?_; refine zA hL hT [] (by cbv) ?_ ?_; exact zt; refine ⟨l37, l40, (ar .add .i64 z28 1), h, Weak.of _ [(1, 1), (2, 2), (3, 3), (4, 112293), (5, 116389)] hA (by cbv) ?_⟩
   repeat first|exact hq0|refine hq (by first|exact Tt|rfl) ?_
  have h := if_f c29 h; refine zG ?_; refine ⟨z26, z27, h, Weak.of _ [(1, 1), (2, 3), (3, 4), (4, 5)] hA (by cbv) ?_⟩
  repeat first|exact hq0|refine hq (by first|exact Tt|rfl) ?_
 intro y3 y4 h; rw [h_K5] at h; obtain ⟨K43, h_K43, h⟩ := joinE h; refine zM K43 (r := r) (fun (y41 : List ByteArray) (y42 : List Int) => ⟨55, 100000, [(6, .pt 1 0 0), (7, .rf 2), (8, .rf 3)], [(1, .box 46 [.t (.s (.int .i64 0)), .t (.s (.int .i64 0)), .t (.s (.string ByteArray.empty)), .t (.s (.slice none 0 0)), .t (.s (.slice none 0 0))]), (2, .row 0 9 1 (qhB y41)), (3, .row 0 3 1 (qB y42))]⟩) ?_ ?_
 ·
  skip
  refine zB ?_; refine zA hL hT [] (by cbv) ?_ ?_; exact zt; refine zC (by cbv) hq0 (fun c44 => ?_) (fun c44 => ?_)
  ·
   have h := if_t c44 h; refine zB ?_; obtain ⟨l45, h_l45, h⟩ := bnd h; obtain ⟨l46, h_l46, h⟩ := bnd h; refine zA hL hT [] (by cbv) ?_ ?_; exact hq (qGD (P := Tryz.prog) (f := Str_c) RLe.r (qLB (f := Str_c) h_l45 (RLe.cons rfl LLe.r RLe.nil)) h_l46) hq0; refine Run.row (rows := (ap (qhB y3) ([[.s (.string (ByteArray.mk #[107, 105, 100, 115]))]]))) 104098 (qhB l46) (by cbv) (qFD (f := Str_c) RLe.r (qLB (f := Str_c) h_l45 (RLe.cons rfl LLe.r RLe.nil)) h_l46) ?_
   obtain ⟨l47, h_l47, h⟩ := bnd h; obtain ⟨l48, h_l48, h⟩ := bnd h; refine zA hL hT [] (by cbv) ?_ ?_; exact hq (qGD (P := Tryz.prog) (f := Int_c) RLe.r (qLB (f := Int_c) h_l47 (RLe.cons rfl LLe.r RLe.nil)) h_l48) hq0; refine ⟨l46, l48, h, (Weak.row (rows := (ap (qB y4) ([[.s (.int .i64 a2)]]))) 108195 (qB l48) (by cbv) (qFD (f := Int_c) RLe.r (qLB (f := Int_c) h_l47 (RLe.cons rfl LLe.r RLe.nil)) h_l48)).trans (Weak.of _ [(1, 2), (2, 104098), (3, 108195)] hA (by cbv) ?_)⟩
   repeat first|exact hq0|refine hq (by first|exact Tt|rfl) ?_
  have h := if_f c44 h; refine zE ?_; refine ⟨y3, y4, h, Weak.of _ [(1, 2), (2, 3), (3, 4)] hA (by cbv) ?_⟩
  repeat first|exact hq0|refine hq (by first|exact Tt|rfl) ?_
 intro y41 y42 h; rw [h_K43] at h; refine zB ?_; obtain ⟨⟨qRb, qEg, qFg, qKZ, qLZ⟩, h_r49, h⟩ := bnd h; obtain ⟨⟨qSb, qGg, qHg, qMZ, qNZ⟩, h_r50, h⟩ := bnd h; refine zA hL hT [(2, .call [false, false] [.v (.jk), .v (.jk)] [.ag [.s (.int .i64 qRb), .s (.int .i64 qEg), .s (.string qFg), .ow 46 (qmD qKZ), .ow 9 (qhB qLZ)]]), (3, .call [true] [.ag [.jk, .jk, .jk, .jk, .jk]] [.ag [.s (.int .i64 qSb), .s (.int .i64 qGg), .s (.string qHg), .ow 46 (qmD qMZ), .ow 9 (qhB qNZ)]])] (by cbv) ?_ ?_
 exact hq (hC (AC.args (qFU h_r49) (ALe.v (LLe.im (RLe.eq (qz qhN _))) (ALe.v (LLe.im (RLe.eq (qz qJC _))) ALe.nil)))) (hq (hC (qZL h_r50)) zt); refine zD ?_
 cases h
 refine ⟨_, _, by cbv, ?_, ?_⟩; exact LLe.r; exact ALe.ag rfl LLe.r ALe.nil
end Go.Proofs.YtbhleignjmcdiaaGreatDoor.L