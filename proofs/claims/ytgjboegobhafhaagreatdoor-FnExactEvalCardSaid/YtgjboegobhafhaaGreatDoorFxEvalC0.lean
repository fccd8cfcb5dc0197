/- The contracts of the program's functions. -/
import Derived.Test.YtgjboegobhafhaaGreatDoorProg
import Derived.Test.YtgjboegobhafhaaGreatDoorFxEvalU
import Derived.KernelRfl
namespace Go.Proofs.YtgjboegobhafhaaGreatDoor.L
open Go Go.Proofs
theorem Tt : True := True.intro
set_option linter.unusedVariables false
set_option linter.unusedSimpArgs false
set_option maxRecDepth 8000
def Int_c (x : Int) : List T := [.s (.int .i64 x)]
theorem qnW : ∀ x, (Int_c x).length = 1 := fun _ => rfl
theorem qiU : ∀ x, (Int_c x).length = 1 ∧ ∀ c ∈ Int_c x, ∃ v, c = T.s v := fun x => ⟨rfl, by simp [Int_c]⟩
theorem qBD : ∀ x, fzL (Int_c x) = Int_c x := fun _ => rfl
def Row_i (x : Row) : List T := [.s (.int .i64 x.Id), .im false (rowsOf Int_c x.Cells)]
theorem qoW : ∀ x, (Row_i x).length = 2 := fun _ => rfl
def RowS_i (x : (List Row)) : List T := [.im false (rowsOf Row_i x)]
def Cond_c (x : Cond) : List T := [.s (.int .i64 x.Col), .s (.int .i64 x.Op), .s (.int .i64 x.V)]
theorem qIJ : ∀ x, fzL (Cond_c x) = Cond_c x := fun _ => rfl
def Row_o (x : Row) : List T := [.s (.int .i64 x.Id), .ow 3 (rowsOf Int_c x.Cells)]
theorem qjI : ∀ x, (Row_o x).length = 2 := fun _ => rfl
theorem qbR : ∀ x, fzL (Row_o x) = Row_i x := by
 intro x
 simp only [Row_o, Row_i, fzL, T.fz, qOR qBD]
def qXD (x : (List Row)) : List T := [.ow 91 (rowsOf Row_o x)]
theorem qkV : ∀ x, (qXD x).length = 1 := fun _ => rfl
theorem qJJ : ∀ x, fzL (qXD x) = RowS_i x := by
 intro x
 simp only [qXD, RowS_i, fzL, T.fz, qOR qbR]
def Str_c (x : ByteArray) : List T := [.s (.string x)]
theorem qEF : ∀ x, fzL (Str_c x) = Str_c x := fun _ => rfl
mutual
def qu : Json → List T
 | ⟨x_Kind, x_N, x_S, x_List_, x_Names⟩ => [.s (.int .i64 x_Kind), .s (.int .i64 x_N), .s (.string x_S), .im false (qHP x_List_), .im false (rowsOf Str_c x_Names)]
def qHP : List Json → Rws
 | [] => []
 | x :: l => qu x :: qHP l
end
theorem qYQ : ∀ l, qHP l = rowsOf qu l
 | [] => rfl
 | x :: l => by rw [qHP, qYQ l]; rfl
def qjU (x : Json) : List T := [.s (.int .i64 x.Kind), .s (.int .i64 x.N), .s (.string x.S), .im false (rowsOf qu x.List_), .im false (rowsOf Str_c x.Names)]
theorem qeD : ∀ x, qu x = qjU x
 | ⟨x_Kind, x_N, x_S, x_List_, x_Names⟩ => by rw [qu, qYQ]; rfl
theorem qIP : ∀ x, (qu x).length = 5 := fun x => by rw [qeD]; rfl
mutual
def qLC : Json → List T
 | ⟨x_Kind, x_N, x_S, x_List_, x_Names⟩ => [.s (.int .i64 x_Kind), .s (.int .i64 x_N), .s (.string x_S), .im true (qJP x_List_), .im true (rowsOf Str_c x_Names)]
def qJP : List Json → Rws
 | [] => []
 | x :: l => qLC x :: qJP l
end
theorem qZQ : ∀ l, qJP l = rowsOf qLC l
 | [] => rfl
 | x :: l => by rw [qJP, qZQ l]; rfl
def qpW (x : Json) : List T := [.s (.int .i64 x.Kind), .s (.int .i64 x.N), .s (.string x.S), .im true (rowsOf qLC x.List_), .im true (rowsOf Str_c x.Names)]
theorem qTD : ∀ x, qLC x = qpW x
 | ⟨x_Kind, x_N, x_S, x_List_, x_Names⟩ => by rw [qLC, qZQ]; rfl
theorem qKP : ∀ x, (qLC x).length = 5 := fun x => by rw [qTD]; rfl
mutual
theorem qET {P : Program} : ∀ x, KLL P (qu x) (qLC x)
 | ⟨x_Kind, x_N, x_S, x_List_, x_Names⟩ => by
  rw [qeD, qTD]
  exact (KLL.c (KLL.c (KLL.c (KLL.cons (KLL.im (qzN x_List_)) (KLL.cons (KLL.im KRe.r) KLL.r)))))
theorem qzN {P : Program} : ∀ l, KRe P (rowsOf qu l) (rowsOf qLC l)
 | [] => KRe.nil
 | x :: l => KRe.cons (by rw [qIP, qKP]) (qET x) (qzN l)
end
mutual
theorem qFT {P : Program} : ∀ x, LLe P (qLC x) (qu x)
 | ⟨x_Kind, x_N, x_S, x_List_, x_Names⟩ => by
  rw [qeD, qTD]
  exact (LLe.c (LLe.c (LLe.c (LLe.cons (LLe.k (qEH x_List_)) (LLe.cons (LLe.k RLe.r) LLe.nil)))))
theorem qEH {P : Program} : ∀ l, RLe P (rowsOf qLC l) (rowsOf qu l)
 | [] => RLe.nil
 | x :: l => RLe.cons (by rw [qIP, qKP]) (qFT x) (qEH l)
end
theorem qGT {P : Program} : ∀ x, LLe P (fzL (qLC x)) (qu x)
 | ⟨x_Kind, x_N, x_S, x_List_, x_Names⟩ => by
  rw [qeD, qTD]
  exact (LLe.c (LLe.c (LLe.c (LLe.cons (LLe.im (qEH x_List_)) (LLe.cons LLe.r LLe.nil)))))
theorem qAO : ∀ x, (fzL (qLC x)).length = 5 := fun x => by rw [qTD]; rfl
theorem qaQ {P : Program} : ∀ l, RLe P (fzR (rowsOf qLC l)) (rowsOf qu l)
 | [] => RLe.nil
 | x :: l => RLe.cons (by rw [qAO, qIP]) (qGT x) (qaQ l)
theorem qHT {P : Program} : ∀ x, KLL P (fzL (qLC x)) (qLC x)
 | ⟨x_Kind, x_N, x_S, x_List_, x_Names⟩ => by
  rw [qTD]
  exact (KLL.c (KLL.c (KLL.c (KLL.cons (KLL.im KRe.r) (KLL.cons (KLL.im KRe.r) KLL.r)))))
theorem qbQ {P : Program} : ∀ l, KRe P (fzR (rowsOf qLC l)) (rowsOf qLC l)
 | [] => KRe.nil
 | x :: l => KRe.cons (by rw [qAO, qKP]) (qHT x) (qbQ l)
theorem qKJ {P : Program} (l : List Json) : LLe P [.im true (Ls.fr (rowsOf qLC l))] [.im true (rowsOf qLC l)] := LLe.kk (qbQ l)
mutual
def qdB : Json → List T
 | ⟨x_Kind, x_N, x_S, x_List_, x_Names⟩ => [.s (.int .i64 x_Kind), .s (.int .i64 x_N), .s (.string x_S), .ow 34 (qLP x_List_), .ow 9 (rowsOf Str_c x_Names)]
def qLP : List Json → Rws
 | [] => []
 | x :: l => qdB x :: qLP l
end
theorem qcQ : ∀ l, qLP l = rowsOf qdB l
 | [] => rfl
 | x :: l => by rw [qLP, qcQ l]; rfl
def qcR (x : Json) : List T := [.s (.int .i64 x.Kind), .s (.int .i64 x.N), .s (.string x.S), .ow 34 (rowsOf qdB x.List_), .ow 9 (rowsOf Str_c x.Names)]
theorem qUD : ∀ x, qdB x = qcR x
 | ⟨x_Kind, x_N, x_S, x_List_, x_Names⟩ => by rw [qdB, qcQ]; rfl
theorem qdQ : ∀ x, (qcR x).length = 5 := fun _ => rfl
mutual
theorem qUG : ∀ x, fzL (qdB x) = qu x
 | ⟨x_Kind, x_N, x_S, x_List_, x_Names⟩ => by
  rw [qUD, qeD]
  simp only [qcR, qjU, fzL, T.fz, qOR qEF, qeQ x_List_]
theorem qeQ : ∀ l, fzR (rowsOf qdB l) = rowsOf qu l
 | [] => rfl
 | x :: l => by
  show fzR (qdB x :: rowsOf qdB l) = qu x :: rowsOf qu l
  rw [fzR, qUG x, qeQ l]
end
def u8_c (x : Int) : List T := [.s (.int .u8 x)]
def tab : List (Nat × Ty) := [(3, Ty.mk false 1 8 0 [] [.int .i64 0] (some .i64) false false false false none),
 (4, Ty.mk false 1 1 0 [] [.bool false] (none) true false false false none),
 (5, Ty.mk false 1 1 0 [] [.int .u8 0] (some .u8) false false false false none),
 (9, Ty.mk false 1 16 0 [] [.string ByteArray.empty] (none) false false false true none),
 (22, Ty.mk false 1 24 127 [] [.slice none 0 0] (none) false false true false none),
 (23, Ty.mk false 1 24 3 [] [.slice none 0 0] (none) false false true false none),
 (25, Ty.mk true 9 104 0 [(0, 1), (1, 1), (2, 1), (3, 1), (4, 1), (5, 1), (6, 1), (7, 1), (8, 1)] [.int .i64 0, .slice none 0 0, .int .i64 0, .bool false, .int .i64 0, .slice none 0 0, .bool false, .int .i64 0, .int .i64 0] (none) false false false false none),
 (26, Ty.mk false 1 24 104 [] [.slice none 0 0] (none) false false true false none),
 (31, Ty.mk false 1 24 34 [] [.slice none 0 0] (none) false false true false none),
 (32, Ty.mk false 1 24 9 [] [.slice none 0 0] (none) false false true false none),
 (34, Ty.mk true 5 80 0 [(0, 1), (1, 1), (2, 1), (3, 1), (4, 1)] [.int .i64 0, .int .i64 0, .string ByteArray.empty, .slice none 0 0, .slice none 0 0] (none) false false false false none),
 (36, Ty.mk false 1 24 123 [] [.slice none 0 0] (none) false false true false none),
 (38, Ty.mk true 9 104 0 [(0, 1), (1, 1), (2, 1), (3, 1), (4, 1), (5, 1), (6, 1), (7, 1), (8, 1)] [.int .i64 0, .slice none 0 0, .int .i64 0, .bool false, .int .i64 0, .slice none 0 0, .bool false, .int .i64 0, .int .i64 0] (none) false false false false none),
 (39, Ty.mk false 1 24 91 [] [.slice none 0 0] (none) false false true false none),
 (50, Ty.mk true 1 24 0 [(0, 1)] [.slice none 0 0] (none) false false false false none),
 (51, Ty.mk false 1 24 26 [] [.slice none 0 0] (none) false false true false none),
 (53, Ty.mk true 3 56 0 [(0, 1), (1, 1), (2, 1)] [.slice none 0 0, .int .i64 0, .slice none 0 0] (none) false false false false none),
 (57, Ty.mk true 1 24 0 [(0, 1)] [.slice none 0 0] (none) false false false false none),
 (58, Ty.mk false 1 24 39 [] [.slice none 0 0] (none) false false true false none),
 (60, Ty.mk true 3 56 0 [(0, 1), (1, 1), (2, 1)] [.slice none 0 0, .int .i64 0, .slice none 0 0] (none) false false false false none),
 (91, Ty.mk true 2 32 0 [(0, 1), (1, 1)] [.int .i64 0, .slice none 0 0] (none) false false false false none),
 (104, Ty.mk true 2 32 0 [(0, 1), (1, 1)] [.int .i64 0, .slice none 0 0] (none) false false false false none),
 (123, Ty.mk true 3 24 0 [(0, 1), (1, 1), (2, 1)] [.int .i64 0, .int .i64 0, .int .i64 0] (none) false false false false none),
 (127, Ty.mk true 3 24 0 [(0, 1), (1, 1), (2, 1)] [.int .i64 0, .int .i64 0, .int .i64 0] (none) false false false false none),
 (139, Ty.mk false 1 24 5 [] [.slice none 0 0] (none) false false true false none),
 (152, Ty.mk false 1 8 0 [] [.int .u64 0] (some .u64) false false false false none)]
theorem qVG : TabOk Tryz.prog tab := TabOk.of (l := [(3, false), (4, false), (5, false), (9, false), (22, false), (23, false), (25, false), (26, false), (31, false), (32, false), (34, false), (36, false), (38, false), (39, false), (50, false), (51, false), (53, false), (57, false), (58, false), (60, false), (91, false), (104, false), (123, false), (127, false), (139, false), (152, false)]) (by kernel_rfl)
theorem mixed : Tryz.prog.follows .mixedOrders = true := by rfl
theorem run3 {f : FuncId} {fn : Func} {c : Code} {args outs res : List A} {σ : St} {ds : List (Option Nat)} (hf : Tryz.prog.funcs[f]? = some fn) (hnm : (fn.name == "runtime.NumGoroutine") = false) (hb : fn.body = some c) (he : entry tab fn.ntmps args = some (σ, ds)) (hds : (idsOf ds).Nodup ∧ ds.length = (acells args).length)
  (h : let ar := Ls.ar; let cm := Ls.cm; let bo := Ls.bo; let sc := Ls.sc; let sa := Ls.sa; let sx := Ls.sx; let ss := Ls.ss; let sl := Ls.sl; let bs := Ls.bs; let sb := Ls.sb; let ln := Ls.ln; let sr := Ls.sr; let ap := Ls.ap; let up := Ls.up; let rp := Ls.rp; let fr := Ls.fr; let ge := Ls.ge; let le := Ls.le; let lt := Ls.lt; let nz := Ls.nz; let mm := Ls.mm; let ma := Ls.ma; let sm := Ls.sm; let fl := Ls.fl; let al := Ls.al; let ci := Ls.ci; (⟨ar, cm, bo, sc, sa, sx, ss, sl, bs, sb, ln, sr, ap, up, rp, fr, ge, le, lt, nz, mm, ma, sm, fl, al, ci⟩ : Lf) = Ls → ∀ F : Fr, F.P = Tryz.prog → (∀ i v, F.anc i = some v → i ∈ idsOf ds) → TabOk F.P tab → F.P.follows .mixedOrders = true → (∀ {f a o r}, AC Tryz.prog f a o r → AC F.P f a o r) → Run F σ c (endQ (EndL Tryz.prog tab fn.results.toList ds outs res))) : AC Tryz.prog f args outs res :=
 AC.of_run2 qVG hf hnm hb he hds fun F hP hA => h rfl F hP hA (hP ▸ qVG) (hP ▸ mixed) fun h => hP ▸ h
theorem qTE {a0 : Int} {r : ByteArray} (h : qiB.f a0 = some r) : AC Tryz.prog 81 [.v (.s (.int .i64 a0))] [.v (.jk)] [.v (.s (.string r))] := by
 unfold qiB.f at h
 let eu8_c := rowsOf u8_c
 show AC Tryz.prog 81 [.v (.s (.int .i64 a0))] _ _
 refine run3 Tryz.func81 (by rfl) (by rfl) (by cbv) ⟨by decide, rfl⟩ ?_
 intro ar cm bo sc sa sx ss sl bs sb ln sr ap up rp fr ge le lt nz mm ma sm fl al ci hL F hP hA hT hM hC
 refine Run.seq ?_
 refine Run.region hL hT [] (by cbv) hq0 ?_
 refine Run.seq ?_
 refine Run.seq ?_
 refine Run.region hL hT [] (by cbv) ?_ ?_
 · exact (hq Tt hq0)
 refine Run.cond (by cbv) (hq0) (fun c1 => ?_) (fun c1 => ?_)
 ·
  have h := if_t c1 h
  refine Run.seq ?_
  refine Run.region hL hT [] (by cbv) hq0 ?_
  refine Run.ret ?_
  cases h
  refine ⟨_, _, by cbv, ?_, ?_⟩
  · exact LLe.r
  · exact (ALe.v LLe.r ALe.nil)
 ·
  have h := if_f c1 h
  refine Run.skip ?_
  refine Run.seq ?_
  refine Run.region hL hT [] (by cbv) hq0 ?_
  refine Run.seq ?_
  refine Run.block ?_
  refine Run.loop2 (fun (z4 : Int) (z5 : ByteArray) => ⟨20, 100000, [(0, .t (.s (.int .i64 z4))), (3, .t (.s (.string z5)))], []⟩) (x0 := a0) (x1 := (ByteArray.mk #[])) h (Weak.of _ [] hA (by cbv) ?_) (fun _ _ => rfl) ?_
  · repeat (first | exact hq0 | refine hq (by first | exact Tt | rfl) ?_)
  ·
   intro k z4 z5 h
   rw [qiB.l0] at h
   refine Run.seq ?_
   refine Run.seq ?_
   refine Run.region hL hT [] (by cbv) ?_ ?_
   · exact (hq Tt hq0)
   refine Run.cond (by cbv) (hq0) (fun c6 => ?_) (fun c6 => ?_)
   ·
    have h := if_t c6 h
    refine Run.skip ?_
    refine Run.block ?_
    refine Run.seq ?_
    obtain ⟨l7, h_l7, h⟩ := bnd h
    obtain ⟨s8, h_s8, h⟩ := bnd h
    obtain ⟨u9, h_u9, h⟩ := bnd h
    refine Run.region hL hT [(5, .hd [104100] (.t (.s (.string s8))) [])] (by cbv) ?_ ?_
    · exact (hq Tt (hq (show Ls.nz 10 from (by decide : (10 : Int) ≠ 0)) (hq Tt (hq (qOL (ns := [(IntKind.wrap .u8 (w64 (48 + (Int.tmod z4 10))))]) hT (by rfl) (by rfl) (by rfl) (by rfl) (by rfl) (by rfl) (by rfl) (qdO h_l7 h_s8)) (hq (sm_t h_u9) hq0)))))
    refine Run.row (rows := [[.s (.int .u8 (ar .or .u8 (ar .add .i64 48 (ar .rem .i64 z4 10)) 0))]]) 104100 (eu8_c l7) (by cbv) (qvB (f := u8_c) h_l7 (RLe.cons rfl LLe.r RLe.nil)) ?_
    refine Run.region hL hT [] (by cbv) ?_ ?_
    · exact (hq Tt (hq (show Ls.nz 10 from (by decide : (10 : Int) ≠ 0)) hq0))
    refine ⟨(ar .quo .i64 z4 10), (sa s8 z5), h, Weak.of _ [] hA (by cbv) ?_⟩
    repeat (first | exact hq0 | refine hq (by first | exact Tt | rfl) ?_)
   ·
    have h := if_f c6 h
    refine Run.exit ?_
    refine Run.seq ?_
    obtain ⟨u10, h_u10, h⟩ := bnd h
    refine Run.region hL hT [] (by cbv) ?_ ?_
    · exact (hq (sm_t h_u10) hq0)
    refine Run.ret ?_
    cases h
    refine ⟨_, _, by cbv, ?_, ?_⟩
    · exact LLe.r
    · exact (ALe.v LLe.r ALe.nil)
theorem qAG {a0 : List ByteArray} {a1 : Int} {r : (List ByteArray) × Int} (h : qVB.f a0 a1 = some r) : AC Tryz.prog 39 [.v (.ow 9 (rowsOf Str_c a0)), .v (.s (.int .i64 a1))] [.v (.ow 9 (rowsOf Str_c r.1)), .v (.jk)] [.v (.s (.int .i64 r.2))] := by
 unfold qVB.f at h
 let qR := rowsOf Str_c
 let qkB := @lenI ByteArray
 show AC Tryz.prog 39 [.v (.ow 9 (qR a0)), .v (.s (.int .i64 a1))] _ _
 refine run3 Tryz.func39 (by rfl) (by rfl) (by cbv) ⟨by decide, rfl⟩ ?_
 intro ar cm bo sc sa sx ss sl bs sb ln sr ap up rp fr ge le lt nz mm ma sm fl al ci hL F hP hA hT hM hC
 refine Run.seq ?_
 refine Run.region hL hT [] (by cbv) hq0 ?_
 refine Run.seq ?_
 refine Run.seq ?_
 refine Run.region hL hT [] (by cbv) hq0 ?_
 refine Run.block ?_
 refine Run.loop3 (fun (z4 : List ByteArray) (z5 : Int) (z6 : Int) => ⟨20, 100000, [(0, .rf 0), (1, .t (.s (.int .i64 z5))), (5, .t (.s (.int .i64 z6)))], [(0, .row 0 9 1 (qR z4))]⟩) (x0 := a0) (x1 := a1) (x2 := 0) h (Weak.of _ [(0, 0)] hA (by cbv) ?_) (fun _ _ _ => rfl) ?_
 · repeat (first | exact hq0 | refine hq (by first | exact Tt | rfl) ?_)
 ·
  intro k z4 z5 z6 h
  rw [qVB.l0] at h
  refine Run.seq ?_
  refine Run.seq ?_
  refine Run.region hL hT [] (by cbv) ?_ ?_
  · exact (hq Tt hq0)
  rw [show ln (qR z4) = qkB z4 from ln_eq Str_c _]
  refine Run.cond (by cbv) (hq0) (fun c7 => ?_) (fun c7 => ?_)
  ·
   have h := if_t c7 h
   refine Run.skip ?_
   refine Run.seq ?_
   refine Run.block ?_
   refine Run.seq ?_
   obtain ⟨r8, h_r8, h⟩ := bnd h
   obtain ⟨x9, h_x9, h⟩ := bnd h
   obtain ⟨l10, h_l10, h⟩ := bnd h
   refine Run.region hL hT [(3, .call [false] [.v (.jk)] [.v (.s (.string r8))])] (by cbv) ?_ ?_
   · exact (hq (hC (qTE h_r8)) (hq (qM h_x9) (hq (qb (f := Str_c) h_x9) (hq (qM h_x9) (hq (qb (f := Str_c) h_x9) hq0)))))
   refine Run.row (rows := (up (qR z4) z6 0 [.s (.string r8)])) 0 (qR l10) (by cbv) (qcH (f := Str_c) h_x9 h_l10 rfl LLe.r) ?_
   refine Run.region hL hT [] (by cbv) ?_ ?_
   · exact (hq Tt hq0)
   refine Run.region hL hT [] (by cbv) ?_ ?_
   · exact (hq Tt hq0)
   refine ⟨l10, (ar .add .i64 z5 1), (ar .add .i64 z6 1), h, Weak.of _ [(0, 0)] hA (by cbv) ?_⟩
   repeat (first | exact hq0 | refine hq (by first | exact Tt | rfl) ?_)
  ·
   have h := if_f c7 h
   refine Run.exit ?_
   refine Run.seq ?_
   refine Run.region hL hT [] (by cbv) hq0 ?_
   refine Run.ret ?_
   cases h
   refine ⟨_, _, by cbv, ?_, ?_⟩
   · exact LLe.r
   · exact (ALe.v LLe.r ALe.nil)
theorem qLJ (self : (List Json) → Int → Option ((List Json) × Int)) (hself : ∀ {a0 : List Json} {a1 : Int} {r : (List Json) × Int} (h : self a0 a1 = some r), AC Tryz.prog 38 [.v (.ow 34 (rowsOf qdB a0)), .v (.s (.int .i64 a1))] [.v (.ow 34 (rowsOf qdB r.1)), .v (.jk)] [.v (.s (.int .i64 r.2))]) {a0 : List Json} {a1 : Int} {r : (List Json) × Int} (h : qt.b self a0 a1 = some r) : AC Tryz.prog 38 [.v (.ow 34 (rowsOf qdB a0)), .v (.s (.int .i64 a1))] [.v (.ow 34 (rowsOf qdB r.1)), .v (.jk)] [.v (.s (.int .i64 r.2))] := by
 unfold qt.b at h
 let qOB := rowsOf qdB
 let qR := rowsOf Str_c
 let qEB := @lenI Json
 show AC Tryz.prog 38 [.v (.ow 34 (qOB a0)), .v (.s (.int .i64 a1))] _ _
 refine run3 Tryz.func38 (by rfl) (by rfl) (by cbv) ⟨by decide, rfl⟩ ?_
 intro ar cm bo sc sa sx ss sl bs sb ln sr ap up rp fr ge le lt nz mm ma sm fl al ci hL F hP hA hT hM hC
 refine Run.seq ?_
 refine Run.region hL hT [] (by cbv) hq0 ?_
 refine Run.seq ?_
 refine Run.seq ?_
 refine Run.region hL hT [] (by cbv) hq0 ?_
 refine Run.block ?_
 refine Run.loop3 (fun (z4 : List Json) (z5 : Int) (z6 : Int) => ⟨49, 100000, [(0, .rf 0), (1, .t (.s (.int .i64 z5))), (5, .t (.s (.int .i64 z6)))], [(0, .row 0 34 5 (qOB z4))]⟩) (x0 := a0) (x1 := a1) (x2 := 0) h (Weak.of _ [(0, 0)] hA (by cbv) ?_) (fun _ _ _ => rfl) ?_
 · repeat (first | exact hq0 | refine hq (by first | exact Tt | rfl) ?_)
 ·
  intro k z4 z5 z6 h
  rw [qt.l0] at h
  refine Run.seq ?_
  refine Run.seq ?_
  refine Run.region hL hT [] (by cbv) ?_ ?_
  · exact (hq Tt hq0)
  rw [show ln (qOB z4) = qEB z4 from ln_eq qdB _]
  refine Run.cond (by cbv) (hq0) (fun c7 => ?_) (fun c7 => ?_)
  ·
   have h := if_t c7 h
   refine Run.skip ?_
   refine Run.seq ?_
   refine Run.block ?_
   refine Run.seq ?_
   obtain ⟨⟨qUS, x8v_N, x8v_S, qfQ, qgQ⟩, h_x8, h⟩ := bnd h
   obtain ⟨l9, h_l9, h⟩ := bnd h
   refine Run.region hL hT [] (by cbv) ?_ ?_
   · exact (hq (qM h_x8) (hq (qb (f := qdB) h_x8) (hq (qM h_x8) (hq (qb (f := qdB) h_x8) hq0))))
   refine Run.row (rows := (up (qOB z4) z6 0 [.s (.int .i64 z5)])) 0 (qOB l9) (by cbv) (qQR qUD h_x8 h_l9 rfl LLe.r) ?_
   refine Run.seq ?_
   refine Run.region hL hT [] (by cbv) ?_ ?_
   · exact (hq Tt hq0)
   refine Run.seq ?_
   obtain ⟨⟨qVX, qtX, quX, qEX, qFX⟩, h_x10, h⟩ := bnd h
   obtain ⟨l11, h_l11, h⟩ := bnd h
   refine Run.region hL hT [] (by cbv) ?_ ?_
   · exact (hq (qM h_x10) (hq (qb (f := qdB) h_x10) (hq (qM h_x10) (hq (qb (f := qdB) h_x10) hq0))))
   refine Run.row (rows := (up (qOB l9) z6 1 [.s (.int .i64 (ar .add .i64 z5 1))])) 0 (qOB l11) (by cbv) (qQR qUD h_x10 h_l11 rfl LLe.r) ?_
   refine Run.seq ?_
   refine Run.region hL hT [] (by cbv) ?_ ?_
   · exact (hq Tt hq0)
   refine Run.seq ?_
   obtain ⟨r12, h_r12, h⟩ := bnd h
   obtain ⟨⟨qWX, qvX, qwX, qGX, qHX⟩, h_x13, h⟩ := bnd h
   obtain ⟨l14, h_l14, h⟩ := bnd h
   refine Run.region hL hT [(3, .call [false] [.v (.jk)] [.v (.s (.string r12))])] (by cbv) ?_ ?_
   · exact (hq (hC (qTE h_r12)) (hq (qM h_x13) (hq (qb (f := qdB) h_x13) (hq (qM h_x13) (hq (qb (f := qdB) h_x13) hq0)))))
   refine Run.row (rows := (up (qOB l11) z6 2 [.s (.string r12)])) 0 (qOB l14) (by cbv) (qQR qUD h_x13 h_l14 rfl LLe.r) ?_
   refine Run.seq ?_
   refine Run.region hL hT [] (by cbv) ?_ ?_
   · exact (hq Tt hq0)
   refine Run.seq ?_
   obtain ⟨⟨qkU, qXX, qYX, qIT, qJT⟩, h_x15, h⟩ := bnd h
   obtain ⟨⟨r16v_1, r16v_2⟩, h_r16, h⟩ := bnd h
   refine Run.weak ?_ (Weak.take (rows := qOB l14) (e2 := 34) (r2 := qOB qIT) hT 0 z6 3 131672 1131672 (by cbv) (by cbv) (by cbv) (qcC h_x15) (qcD qdB h_x15) ((congrArg (fun q => q[3]?) (qAF qUD h_x15)).trans rfl) rfl (up (qOB l14) z6 3 [.jk]) rfl)
   refine Run.region hL hT [(4, .lk [.s (.int .i64 qkU), .s (.int .i64 qXX), .s (.string qYX), .jk, .ow 9 (qR qJT)] [(3, 1131672)]), (6, .call [true, false] [.v (.ow 34 (qOB r16v_1)), .v (.jk)] [.v (.s (.int .i64 r16v_2))])] (by cbv) ?_ ?_
   · exact (hq (qM h_x15) (hq (up_lt qdB h_x15) (hq Tt (hq (qM h_x15) (hq (up_lt qdB h_x15) (hq (qxV qUD h_x15) (hq (hC (hself h_r16)) hq0)))))))
   obtain ⟨l17, h_l17, h⟩ := bnd h
   refine Run.weak ?_ (Weak.back (rows := (up (qOB l14) z6 3 [.jk])) (r2 := qOB r16v_1) 0 z6 3 131672 1131672 (by cbv) (by cbv) (by cbv) (by cbv) (qcC h_x15) (up_lt qdB h_x15) ((congrArg (fun q => q[3]?) (qyV qUD h_x15)).trans rfl) (up (up (qOB l14) z6 3 [.jk]) z6 3 [.ow 34 (qOB r16v_1)]) rfl)
   refine Run.weak ?_ (Weak.row (rows := (up (up (qOB l14) z6 3 [.jk]) z6 3 [.ow 34 (qOB r16v_1)])) 0 (qOB l17) (by cbv) (qES qUD h_x15 h_l17 (ltn (qdQ _) (by decide)) rfl LLe.r))
   obtain ⟨⟨qlU, qZX, qaX, qKT, qLT⟩, h_x18, h⟩ := bnd h
   obtain ⟨⟨r19v_1, r19v_2⟩, h_r19, h⟩ := bnd h
   refine Run.weak ?_ (Weak.take (rows := qOB l17) (e2 := 9) (r2 := qR qLT) hT 0 z6 4 135768 1135768 (by cbv) (by cbv) (by cbv) (qcC h_x18) (qcD qdB h_x18) ((congrArg (fun q => q[4]?) (qAF qUD h_x18)).trans rfl) rfl (up (qOB l17) z6 4 [.jk]) rfl)
   refine Run.region hL hT [(4, .lk [.s (.int .i64 qlU), .s (.int .i64 qZX), .s (.string qaX), .ow 34 (qOB qKT), .jk] [(4, 1135768)]), (6, .call [true, false] [.v (.ow 9 (qR r19v_1)), .v (.jk)] [.v (.s (.int .i64 r19v_2))])] (by cbv) ?_ ?_
   · exact (hq (qM h_x18) (hq (up_lt qdB h_x18) (hq Tt (hq (qM h_x18) (hq (up_lt qdB h_x18) (hq (qxV qUD h_x18) (hq (hC (qAG h_r19)) hq0)))))))
   obtain ⟨l20, h_l20, h⟩ := bnd h
   refine Run.weak ?_ (Weak.back (rows := (up (qOB l17) z6 4 [.jk])) (r2 := qR r19v_1) 0 z6 4 135768 1135768 (by cbv) (by cbv) (by cbv) (by cbv) (qcC h_x18) (up_lt qdB h_x18) ((congrArg (fun q => q[4]?) (qyV qUD h_x18)).trans rfl) (up (up (qOB l17) z6 4 [.jk]) z6 4 [.ow 9 (qR r19v_1)]) rfl)
   refine Run.weak ?_ (Weak.row (rows := (up (up (qOB l17) z6 4 [.jk]) z6 4 [.ow 9 (qR r19v_1)])) 0 (qOB l20) (by cbv) (qES qUD h_x18 h_l20 (ltn (qdQ _) (by decide)) rfl LLe.r))
   refine Run.region hL hT [] (by cbv) ?_ ?_
   · exact (hq Tt hq0)
   refine ⟨l20, r19v_2, (ar .add .i64 z6 1), h, Weak.of _ [(0, 0)] hA (by cbv) ?_⟩
   repeat (first | exact hq0 | refine hq (by first | exact Tt | rfl) ?_)
  ·
   have h := if_f c7 h
   refine Run.exit ?_
   refine Run.seq ?_
   refine Run.region hL hT [] (by cbv) hq0 ?_
   refine Run.ret ?_
   cases h
   refine ⟨_, _, by cbv, ?_, ?_⟩
   · exact LLe.r
   · exact (ALe.v LLe.r ALe.nil)
theorem qWG : ∀ (k : Nat) {a0 : List Json} {a1 : Int} {r : (List Json) × Int} (h : qt.g k a0 a1 = some r), AC Tryz.prog 38 [.v (.ow 34 (rowsOf qdB a0)), .v (.s (.int .i64 a1))] [.v (.ow 34 (rowsOf qdB r.1)), .v (.jk)] [.v (.s (.int .i64 r.2))]
 | 0 => fun h => by cases h
 | k + 1 => fun h => qLJ (qt.g k) (qWG k) h
theorem qfJ {a0 : List Json} {a1 : Int} {r : (List Json) × Int} (h : qt.f a0 a1 = some r) : AC Tryz.prog 38 [.v (.ow 34 (rowsOf qdB a0)), .v (.s (.int .i64 a1))] [.v (.ow 34 (rowsOf qdB r.1)), .v (.jk)] [.v (.s (.int .i64 r.2))] := qWG 1000 h
theorem qSK {qU : Int} {a0v_N : Int} {a0v_S : ByteArray} {qE : List Json} {qH : List ByteArray} {a1 : Int} {r : Json × Int} (h : qnE.f (Json.mk qU a0v_N a0v_S qE qH) a1 = some r) : AC Tryz.prog 12 [.ag [.s (.int .i64 qU), .s (.int .i64 a0v_N), .s (.string a0v_S), .ow 34 (rowsOf qdB qE), .ow 9 (rowsOf Str_c qH)], .v (.s (.int .i64 a1))] [.ag [.jk, .jk, .jk, .ow 34 (rowsOf qdB r.1.List_), .ow 9 (rowsOf Str_c r.1.Names)], .v (.jk)] [.v (.s (.int .i64 r.2))] := by
 unfold qnE.f at h
 let qOB := rowsOf qdB
 let qR := rowsOf Str_c
 show AC Tryz.prog 12 [.ag [.s (.int .i64 qU), .s (.int .i64 a0v_N), .s (.string a0v_S), .ow 34 (qOB qE), .ow 9 (qR qH)], .v (.s (.int .i64 a1))] _ _
 refine run3 Tryz.func12 (by rfl) (by rfl) (by cbv) ⟨by decide, rfl⟩ ?_
 intro ar cm bo sc sa sx ss sl bs sb ln sr ap up rp fr ge le lt nz mm ma sm fl al ci hL F hP hA hT hM hC
 refine Run.seq ?_
 refine Run.region hL hT [] (by cbv) hq0 ?_
 refine Run.seq ?_
 obtain ⟨⟨r1v_1, r1v_2⟩, h_r1, h⟩ := bnd h
 refine Run.region hL hT [(3, .call [true, false] [.v (.ow 34 (qOB r1v_1)), .v (.jk)] [.v (.s (.int .i64 r1v_2))])] (by cbv) ?_ ?_
 · exact (hq Tt (hq (hC (qfJ h_r1)) hq0))
 refine Run.seq ?_
 obtain ⟨⟨r2v_1, r2v_2⟩, h_r2, h⟩ := bnd h
 refine Run.region hL hT [(3, .call [true, false] [.v (.ow 9 (qR r2v_1)), .v (.jk)] [.v (.s (.int .i64 r2v_2))])] (by cbv) ?_ ?_
 · exact (hq Tt (hq (hC (qAG h_r2)) hq0))
 refine Run.seq ?_
 refine Run.region hL hT [] (by cbv) hq0 ?_
 refine Run.ret ?_
 cases h
 refine ⟨_, _, by cbv, ?_, ?_⟩
 · exact LLe.r
 · exact (ALe.v LLe.r ALe.nil)
theorem qBG {a0 : List ByteArray} {a1 : Int} {r : Int} (h : qbB.f a0 a1 = some r) : AC Tryz.prog 41 [.v (.im false (rowsOf Str_c a0)), .v (.s (.int .i64 a1))] [.v (.jk), .v (.jk)] [.v (.s (.int .i64 r))] := by
 unfold qbB.f at h
 let qR := rowsOf Str_c
 let qkB := @lenI ByteArray
 show AC Tryz.prog 41 [.v (.im false (qR a0)), .v (.s (.int .i64 a1))] _ _
 refine run3 Tryz.func41 (by rfl) (by rfl) (by cbv) ⟨by decide, rfl⟩ ?_
 intro ar cm bo sc sa sx ss sl bs sb ln sr ap up rp fr ge le lt nz mm ma sm fl al ci hL F hP hA hT hM hC
 refine Run.seq ?_
 refine Run.region hL hT [] (by cbv) hq0 ?_
 refine Run.seq ?_
 refine Run.seq ?_
 refine Run.region hL hT [] (by cbv) hq0 ?_
 refine Run.block ?_
 refine Run.loop2 (fun (z4 : Int) (z5 : Int) => ⟨22, 100000, [(0, .t (.im false (qR a0))), (1, .t (.s (.int .i64 z4))), (5, .t (.s (.int .i64 z5)))], []⟩) (x0 := a1) (x1 := 0) h (Weak.of _ [] hA (by cbv) ?_) (fun _ _ => rfl) ?_
 · repeat (first | exact hq0 | refine hq (by first | exact Tt | rfl) ?_)
 ·
  intro k z4 z5 h
  rw [qbB.l0] at h
  refine Run.seq ?_
  refine Run.seq ?_
  refine Run.region hL hT [] (by cbv) ?_ ?_
  · exact (hq Tt hq0)
  rw [show ln (qR a0) = qkB a0 from ln_eq Str_c _]
  refine Run.cond (by cbv) (hq0) (fun c6 => ?_) (fun c6 => ?_)
  ·
   have h := if_t c6 h
   refine Run.skip ?_
   refine Run.seq ?_
   refine Run.block ?_
   refine Run.seq ?_
   refine Run.seq ?_
   obtain ⟨x7, h_x7, h⟩ := bnd h
   obtain ⟨r8, h_r8, h⟩ := bnd h
   refine Run.draw hL hT hM [(2, .el [.s (.string x7)]), (5, .call [false] [.v (.jk)] [.v (.s (.string r8))])] (by cbv) (by cbv) (by cbv) (by cbv) (by cbv) ?_ ?_
   · exact (hq (qM h_x7) (hq (qb (f := Str_c) h_x7) (hq (qx (f := Str_c) h_x7) (hq (hC (qTE h_r8)) hq0))))
   refine Run.cond (by cbv) (hq0) (fun c9 => ?_) (fun c9 => ?_)
   ·
    have h := if_t c9 h
    refine Run.seq ?_
    refine Run.region hL hT [] (by cbv) hq0 ?_
    refine Run.ret ?_
    cases h
    refine ⟨_, _, by cbv, ?_, ?_⟩
    · exact LLe.r
    · exact (ALe.v LLe.r ALe.nil)
   ·
    have h := if_f c9 h
    refine Run.skip ?_
    refine Run.region hL hT [] (by cbv) ?_ ?_
    · exact (hq Tt hq0)
    refine Run.region hL hT [] (by cbv) ?_ ?_
    · exact (hq Tt hq0)
    refine ⟨(ar .add .i64 z4 1), (ar .add .i64 z5 1), h, Weak.of _ [] hA (by cbv) ?_⟩
    repeat (first | exact hq0 | refine hq (by first | exact Tt | rfl) ?_)
  ·
   have h := if_f c6 h
   refine Run.exit ?_
   refine Run.seq ?_
   refine Run.region hL hT [] (by cbv) hq0 ?_
   refine Run.ret ?_
   cases h
   refine ⟨_, _, by cbv, ?_, ?_⟩
   · exact LLe.r
   · exact (ALe.v LLe.r ALe.nil)
theorem qMJ (self : (List Json) → Int → Option Int) (hself : ∀ {a0 : List Json} {a1 : Int} {r : Int} (h : self a0 a1 = some r), AC Tryz.prog 40 [.v (.im false (rowsOf qu a0)), .v (.s (.int .i64 a1))] [.v (.jk), .v (.jk)] [.v (.s (.int .i64 r))]) {a0 : List Json} {a1 : Int} {r : Int} (h : qBB.b self a0 a1 = some r) : AC Tryz.prog 40 [.v (.im false (rowsOf qu a0)), .v (.s (.int .i64 a1))] [.v (.jk), .v (.jk)] [.v (.s (.int .i64 r))] := by
 unfold qBB.b at h
 let qr := rowsOf qu
 let qR := rowsOf Str_c
 let qEB := @lenI Json
 show AC Tryz.prog 40 [.v (.im false (qr a0)), .v (.s (.int .i64 a1))] _ _
 refine run3 Tryz.func40 (by rfl) (by rfl) (by cbv) ⟨by decide, rfl⟩ ?_
 intro ar cm bo sc sa sx ss sl bs sb ln sr ap up rp fr ge le lt nz mm ma sm fl al ci hL F hP hA hT hM hC
 refine Run.seq ?_
 refine Run.region hL hT [] (by cbv) hq0 ?_
 refine Run.seq ?_
 refine Run.seq ?_
 refine Run.region hL hT [] (by cbv) hq0 ?_
 refine Run.block ?_
 refine Run.loop2 (fun (z4 : Int) (z5 : Int) => ⟨59, 100000, [(0, .t (.im false (qr a0))), (1, .t (.s (.int .i64 z4))), (5, .t (.s (.int .i64 z5)))], []⟩) (x0 := a1) (x1 := 0) h (Weak.of _ [] hA (by cbv) ?_) (fun _ _ => rfl) ?_
 · repeat (first | exact hq0 | refine hq (by first | exact Tt | rfl) ?_)
 ·
  intro k z4 z5 h
  rw [qBB.l0] at h
  refine Run.seq ?_
  refine Run.seq ?_
  refine Run.region hL hT [] (by cbv) ?_ ?_
  · exact (hq Tt hq0)
  rw [show ln (qr a0) = qEB a0 from ln_eq qu _]
  refine Run.cond (by cbv) (hq0) (fun c6 => ?_) (fun c6 => ?_)
  ·
   have h := if_t c6 h
   refine Run.skip ?_
   refine Run.seq ?_
   refine Run.block ?_
   refine Run.seq ?_
   refine Run.seq ?_
   obtain ⟨⟨qXH, x7v_N, x7v_S, qCG, qDG⟩, h_x7, h⟩ := bnd h
   refine Run.region hL hT [(2, .el [.s (.int .i64 qXH), .s (.int .i64 x7v_N), .s (.string x7v_S), .im false (qr qCG), .im false (qR qDG)])] (by cbv) ?_ ?_
   · exact (hq (qM h_x7) (hq (qb (f := qu) h_x7) (hq (qAF qeD h_x7) (hq Tt hq0))))
   refine Run.cond (by cbv) (hq0) (fun c8 => ?_) (fun c8 => ?_)
   ·
    have h := if_t c8 h
    refine Run.seq ?_
    refine Run.region hL hT [] (by cbv) hq0 ?_
    refine Run.ret ?_
    cases h
    refine ⟨_, _, by cbv, ?_, ?_⟩
    · exact LLe.r
    · exact (ALe.v LLe.r ALe.nil)
   ·
    have h := if_f c8 h
    refine Run.skip ?_
    refine Run.seq ?_
    refine Run.region hL hT [] (by cbv) ?_ ?_
    · exact (hq Tt hq0)
    refine Run.seq ?_
    refine Run.seq ?_
    refine Run.region hL hT [(2, .el [.s (.int .i64 qXH), .s (.int .i64 x7v_N), .s (.string x7v_S), .im false (qr qCG), .im false (qR qDG)])] (by cbv) ?_ ?_
    · exact (hq (qM h_x7) (hq (qb (f := qu) h_x7) (hq (qAF qeD h_x7) (hq Tt hq0))))
    refine Run.cond (by cbv) (hq0) (fun c9 => ?_) (fun c9 => ?_)
    ·
     have h := if_t c9 h
     refine Run.seq ?_
     refine Run.region hL hT [] (by cbv) hq0 ?_
     refine Run.ret ?_
     cases h
     refine ⟨_, _, by cbv, ?_, ?_⟩
     · exact LLe.r
     · exact (ALe.v LLe.r ALe.nil)
    ·
     have h := if_f c9 h
     refine Run.skip ?_
     refine Run.seq ?_
     refine Run.region hL hT [] (by cbv) ?_ ?_
     · exact (hq Tt hq0)
     refine Run.seq ?_
     refine Run.seq ?_
     obtain ⟨r10, h_r10, h⟩ := bnd h
     refine Run.draw hL hT hM [(2, .el [.s (.int .i64 qXH), .s (.int .i64 x7v_N), .s (.string x7v_S), .im false (qr qCG), .im false (qR qDG)]), (6, .call [false] [.v (.jk)] [.v (.s (.string r10))])] (by cbv) (by cbv) (by cbv) (by cbv) (by cbv) ?_ ?_
     · exact (hq (qM h_x7) (hq (qb (f := qu) h_x7) (hq (qAF qeD h_x7) (hq (hC (qTE h_r10)) hq0))))
     refine Run.cond (by cbv) (hq0) (fun c11 => ?_) (fun c11 => ?_)
     ·
      have h := if_t c11 h
      refine Run.seq ?_
      refine Run.region hL hT [] (by cbv) hq0 ?_
      refine Run.ret ?_
      cases h
      refine ⟨_, _, by cbv, ?_, ?_⟩
      · exact LLe.r
      · exact (ALe.v LLe.r ALe.nil)
     ·
      have h := if_f c11 h
      refine Run.skip ?_
      refine Run.seq ?_
      refine Run.region hL hT [] (by cbv) ?_ ?_
      · exact (hq Tt hq0)
      refine Run.seq ?_
      obtain ⟨r12, h_r12, h⟩ := bnd h
      refine Run.region hL hT [(2, .el [.s (.int .i64 qXH), .s (.int .i64 x7v_N), .s (.string x7v_S), .im false (qr qCG), .im false (qR qDG)]), (6, .call [false, false] [.v (.jk), .v (.jk)] [.v (.s (.int .i64 r12))])] (by cbv) ?_ ?_
      · exact (hq (qM h_x7) (hq (qb (f := qu) h_x7) (hq (qAF qeD h_x7) (hq (hC (hself h_r12)) hq0))))
      refine Run.seq ?_
      refine Run.seq ?_
      refine Run.region hL hT [] (by cbv) ?_ ?_
      · exact (hq Tt hq0)
      refine Run.cond (by cbv) (hq0) (fun c13 => ?_) (fun c13 => ?_)
      ·
       have h := if_t c13 h
       refine Run.seq ?_
       refine Run.region hL hT [] (by cbv) hq0 ?_
       refine Run.ret ?_
       cases h
       refine ⟨_, _, by cbv, ?_, ?_⟩
       · exact LLe.r
       · exact (ALe.v LLe.r ALe.nil)
      ·
       have h := if_f c13 h
       refine Run.skip ?_
       refine Run.seq ?_
       obtain ⟨r14, h_r14, h⟩ := bnd h
       refine Run.region hL hT [(2, .el [.s (.int .i64 qXH), .s (.int .i64 x7v_N), .s (.string x7v_S), .im false (qr qCG), .im false (qR qDG)]), (6, .call [false, false] [.v (.jk), .v (.jk)] [.v (.s (.int .i64 r14))])] (by cbv) ?_ ?_
       · exact (hq (qM h_x7) (hq (qb (f := qu) h_x7) (hq (qAF qeD h_x7) (hq (hC (qBG h_r14)) hq0))))
       refine Run.seq ?_
       refine Run.region hL hT [] (by cbv) ?_ ?_
       · exact (hq Tt hq0)
       refine Run.cond (by cbv) (hq0) (fun c15 => ?_) (fun c15 => ?_)
       ·
        have h := if_t c15 h
        refine Run.seq ?_
        refine Run.region hL hT [] (by cbv) hq0 ?_
        refine Run.ret ?_
        cases h
        refine ⟨_, _, by cbv, ?_, ?_⟩
        · exact LLe.r
        · exact (ALe.v LLe.r ALe.nil)
       ·
        have h := if_f c15 h
        refine Run.skip ?_
        refine Run.region hL hT [] (by cbv) ?_ ?_
        · exact (hq Tt hq0)
        refine ⟨r14, (ar .add .i64 z5 1), h, Weak.of _ [] hA (by cbv) ?_⟩
        repeat (first | exact hq0 | refine hq (by first | exact Tt | rfl) ?_)
  ·
   have h := if_f c6 h
   refine Run.exit ?_
   refine Run.seq ?_
   refine Run.region hL hT [] (by cbv) hq0 ?_
   refine Run.ret ?_
   cases h
   refine ⟨_, _, by cbv, ?_, ?_⟩
   · exact LLe.r
   · exact (ALe.v LLe.r ALe.nil)
theorem qXG : ∀ (k : Nat) {a0 : List Json} {a1 : Int} {r : Int} (h : qBB.g k a0 a1 = some r), AC Tryz.prog 40 [.v (.im false (rowsOf qu a0)), .v (.s (.int .i64 a1))] [.v (.jk), .v (.jk)] [.v (.s (.int .i64 r))]
 | 0 => fun h => by cases h
 | k + 1 => fun h => qMJ (qBB.g k) (qXG k) h
theorem qgJ {a0 : List Json} {a1 : Int} {r : Int} (h : qBB.f a0 a1 = some r) : AC Tryz.prog 40 [.v (.im false (rowsOf qu a0)), .v (.s (.int .i64 a1))] [.v (.jk), .v (.jk)] [.v (.s (.int .i64 r))] := qXG 1000 h
theorem qdH {qU : Int} {a0v_N : Int} {a0v_S : ByteArray} {qE : List Json} {qH : List ByteArray} {a1 : Int} {r : Int} (h : qEE.f (Json.mk qU a0v_N a0v_S qE qH) a1 = some r) : AC Tryz.prog 13 [.ag [.s (.int .i64 qU), .s (.int .i64 a0v_N), .s (.string a0v_S), .im false (rowsOf qu qE), .im false (rowsOf Str_c qH)], .v (.s (.int .i64 a1))] [.ag [.jk, .jk, .jk, .jk, .jk], .v (.jk)] [.v (.s (.int .i64 r))] := by
 unfold qEE.f at h
 let qr := rowsOf qu
 let qR := rowsOf Str_c
 show AC Tryz.prog 13 [.ag [.s (.int .i64 qU), .s (.int .i64 a0v_N), .s (.string a0v_S), .im false (qr qE), .im false (qR qH)], .v (.s (.int .i64 a1))] _ _
 refine run3 Tryz.func13 (by rfl) (by rfl) (by cbv) ⟨by decide, rfl⟩ ?_
 intro ar cm bo sc sa sx ss sl bs sb ln sr ap up rp fr ge le lt nz mm ma sm fl al ci hL F hP hA hT hM hC
 refine Run.seq ?_
 refine Run.region hL hT [] (by cbv) hq0 ?_
 refine Run.seq ?_
 obtain ⟨r1, h_r1, h⟩ := bnd h
 refine Run.region hL hT [(3, .call [false, false] [.v (.jk), .v (.jk)] [.v (.s (.int .i64 r1))])] (by cbv) ?_ ?_
 · exact (hq Tt (hq (hC (qgJ h_r1)) hq0))
 refine Run.seq ?_
 refine Run.seq ?_
 refine Run.region hL hT [] (by cbv) ?_ ?_
 · exact (hq Tt hq0)
 refine Run.cond (by cbv) (hq0) (fun c2 => ?_) (fun c2 => ?_)
 ·
  have h := if_t c2 h
  refine Run.seq ?_
  refine Run.region hL hT [] (by cbv) hq0 ?_
  refine Run.ret ?_
  cases h
  refine ⟨_, _, by cbv, ?_, ?_⟩
  · exact LLe.r
  · exact (ALe.v LLe.r ALe.nil)
 ·
  have h := if_f c2 h
  refine Run.skip ?_
  refine Run.seq ?_
  obtain ⟨r3, h_r3, h⟩ := bnd h
  refine Run.region hL hT [(3, .call [false, false] [.v (.jk), .v (.jk)] [.v (.s (.int .i64 r3))])] (by cbv) ?_ ?_
  · exact (hq Tt (hq (hC (qBG h_r3)) hq0))
  refine Run.seq ?_
  refine Run.seq ?_
  refine Run.region hL hT [] (by cbv) ?_ ?_
  · exact (hq Tt hq0)
  refine Run.cond (by cbv) (hq0) (fun c4 => ?_) (fun c4 => ?_)
  ·
   have h := if_t c4 h
   refine Run.seq ?_
   refine Run.region hL hT [] (by cbv) hq0 ?_
   refine Run.ret ?_
   cases h
   refine ⟨_, _, by cbv, ?_, ?_⟩
   · exact LLe.r
   · exact (ALe.v LLe.r ALe.nil)
  ·
   have h := if_f c4 h
   refine Run.skip ?_
   refine Run.seq ?_
   refine Run.region hL hT [] (by cbv) hq0 ?_
   refine Run.ret ?_
   cases h
   refine ⟨_, _, by cbv, ?_, ?_⟩
   · exact LLe.r
   · exact (ALe.v LLe.r ALe.nil)
theorem qhG {a0 : List Int} {a1 : Int} {r : Int} (h : qXE.f a0 a1 = some r) : AC Tryz.prog 45 [.v (.im false (rowsOf Int_c a0)), .v (.s (.int .i64 a1))] [.v (.jk), .v (.jk)] [.v (.s (.int .i64 r))] := by
 unfold qXE.f at h
 let qB := rowsOf Int_c
 let qh := @lenI Int
 show AC Tryz.prog 45 [.v (.im false (qB a0)), .v (.s (.int .i64 a1))] _ _
 refine run3 Tryz.func45 (by rfl) (by rfl) (by cbv) ⟨by decide, rfl⟩ ?_
 intro ar cm bo sc sa sx ss sl bs sb ln sr ap up rp fr ge le lt nz mm ma sm fl al ci hL F hP hA hT hM hC
 refine Run.seq ?_
 refine Run.region hL hT [] (by cbv) hq0 ?_
 refine Run.seq ?_
 refine Run.region hL hT [] (by cbv) ?_ ?_
 · exact (hq Tt hq0)
 rw [show ln (qB a0) = qh a0 from ln_eq Int_c _]
 refine Run.seq ?_
 refine Run.seq ?_
 refine Run.region hL hT [] (by cbv) ?_ ?_
 · exact (hq Tt hq0)
 refine Run.cond (by cbv) (hq0) (fun c1 => ?_) (fun c1 => ?_)
 ·
  have h := if_t c1 h
  refine Run.seq ?_
  refine Run.region hL hT [] (by cbv) hq0 ?_
  refine Run.ret ?_
  cases h
  refine ⟨_, _, by cbv, ?_, ?_⟩
  · exact LLe.r
  · exact (ALe.v LLe.r ALe.nil)
 ·
  have h := if_f c1 h
  refine Run.skip ?_
  refine Run.seq ?_
  refine Run.region hL hT [] (by cbv) hq0 ?_
  refine Run.ret ?_
  cases h
  refine ⟨_, _, by cbv, ?_, ?_⟩
  · exact LLe.r
  · exact (ALe.v LLe.r ALe.nil)
theorem qTK {qO : List Int} {a1 : Int} {r : Int} (h : qoE.f (Schema.mk qO) a1 = some r) : AC Tryz.prog 42 [.ag [.im false (rowsOf Int_c qO)], .v (.s (.int .i64 a1))] [.ag [.jk], .v (.jk)] [.v (.s (.int .i64 r))] := by
 unfold qoE.f at h
 let qB := rowsOf Int_c
 show AC Tryz.prog 42 [.ag [.im false (qB qO)], .v (.s (.int .i64 a1))] _ _
 refine run3 Tryz.func42 (by rfl) (by rfl) (by cbv) ⟨by decide, rfl⟩ ?_
 intro ar cm bo sc sa sx ss sl bs sb ln sr ap up rp fr ge le lt nz mm ma sm fl al ci hL F hP hA hT hM hC
 refine Run.seq ?_
 refine Run.region hL hT [] (by cbv) hq0 ?_
 refine Run.seq ?_
 obtain ⟨r1, h_r1, h⟩ := bnd h
 refine Run.region hL hT [(3, .call [false, false] [.v (.jk), .v (.jk)] [.v (.s (.int .i64 r1))])] (by cbv) ?_ ?_
 · exact (hq Tt (hq (hC (qhG h_r1)) hq0))
 refine Run.seq ?_
 refine Run.seq ?_
 refine Run.region hL hT [] (by cbv) ?_ ?_
 · exact (hq Tt hq0)
 refine Run.cond (by cbv) (hq0) (fun c2 => ?_) (fun c2 => ?_)
 ·
  have h := if_t c2 h
  refine Run.seq ?_
  refine Run.region hL hT [] (by cbv) hq0 ?_
  refine Run.ret ?_
  cases h
  refine ⟨_, _, by cbv, ?_, ?_⟩
  · exact LLe.r
  · exact (ALe.v LLe.r ALe.nil)
 ·
  have h := if_f c2 h
  refine Run.skip ?_
  refine Run.seq ?_
  refine Run.region hL hT [] (by cbv) hq0 ?_
  refine Run.ret ?_
  cases h
  refine ⟨_, _, by cbv, ?_, ?_⟩
  · exact LLe.r
  · exact (ALe.v LLe.r ALe.nil)
theorem qMP {qCD : Int} {qKB : List Int} {a1 : Int} {r : Int} (h : qtG.f (Row.mk qCD qKB) a1 = some r) : AC Tryz.prog 66 [.ag [.s (.int .i64 qCD), .im false (rowsOf Int_c qKB)], .v (.s (.int .i64 a1))] [.ag [.jk, .jk], .v (.jk)] [.v (.s (.int .i64 r))] := by
 unfold qtG.f at h
 let qB := rowsOf Int_c
 show AC Tryz.prog 66 [.ag [.s (.int .i64 qCD), .im false (qB qKB)], .v (.s (.int .i64 a1))] _ _
 refine run3 Tryz.func66 (by rfl) (by rfl) (by cbv) ⟨by decide, rfl⟩ ?_
 intro ar cm bo sc sa sx ss sl bs sb ln sr ap up rp fr ge le lt nz mm ma sm fl al ci hL F hP hA hT hM hC
 refine Run.seq ?_
 refine Run.region hL hT [] (by cbv) hq0 ?_
 refine Run.seq ?_
 obtain ⟨r1, h_r1, h⟩ := bnd h
 refine Run.region hL hT [(3, .call [false, false] [.v (.jk), .v (.jk)] [.v (.s (.int .i64 r1))])] (by cbv) ?_ ?_
 · exact (hq Tt (hq (hC (qhG h_r1)) hq0))
 refine Run.seq ?_
 refine Run.seq ?_
 refine Run.region hL hT [] (by cbv) ?_ ?_
 · exact (hq Tt hq0)
 refine Run.cond (by cbv) (hq0) (fun c2 => ?_) (fun c2 => ?_)
 ·
  have h := if_t c2 h
  refine Run.seq ?_
  refine Run.region hL hT [] (by cbv) hq0 ?_
  refine Run.ret ?_
  cases h
  refine ⟨_, _, by cbv, ?_, ?_⟩
  · exact LLe.r
  · exact (ALe.v LLe.r ALe.nil)
 ·
  have h := if_f c2 h
  refine Run.skip ?_
  refine Run.seq ?_
  refine Run.region hL hT [] (by cbv) hq0 ?_
  refine Run.ret ?_
  cases h
  refine ⟨_, _, by cbv, ?_, ?_⟩
  · exact LLe.r
  · exact (ALe.v LLe.r ALe.nil)
theorem qIN {a0 : List Row} {a1 : Int} {r : Int} (h : qkC.f a0 a1 = some r) : AC Tryz.prog 24 [.v (.im false (rowsOf Row_i a0)), .v (.s (.int .i64 a1))] [.v (.jk), .v (.jk)] [.v (.s (.int .i64 r))] := by
 unfold qkC.f at h
 let qB := rowsOf Int_c
 let qMB := rowsOf Row_i
 let qDB := @lenI Row
 show AC Tryz.prog 24 [.v (.im false (qMB a0)), .v (.s (.int .i64 a1))] _ _
 refine run3 Tryz.func24 (by rfl) (by rfl) (by cbv) ⟨by decide, rfl⟩ ?_
 intro ar cm bo sc sa sx ss sl bs sb ln sr ap up rp fr ge le lt nz mm ma sm fl al ci hL F hP hA hT hM hC
 refine Run.seq ?_
 refine Run.region hL hT [] (by cbv) hq0 ?_
 refine Run.seq ?_
 refine Run.region hL hT [] (by cbv) ?_ ?_
 · exact (hq Tt hq0)
 rw [show ln (qMB a0) = qDB a0 from ln_eq Row_i _]
 refine Run.seq ?_
 refine Run.seq ?_
 refine Run.region hL hT [] (by cbv) ?_ ?_
 · exact (hq Tt hq0)
 refine Run.cond (by cbv) (hq0) (fun c1 => ?_) (fun c1 => ?_)
 ·
  have h := if_t c1 h
  refine Run.seq ?_
  refine Run.region hL hT [] (by cbv) hq0 ?_
  refine Run.ret ?_
  cases h
  refine ⟨_, _, by cbv, ?_, ?_⟩
  · exact LLe.r
  · exact (ALe.v LLe.r ALe.nil)
 ·
  have h := if_f c1 h
  refine Run.skip ?_
  refine Run.seq ?_
  refine Run.seq ?_
  refine Run.region hL hT [] (by cbv) hq0 ?_
  refine Run.block ?_
  refine Run.loop2 (fun (z5 : Int) (z6 : Int) => ⟨27, 100000, [(0, .t (.im false (qMB a0))), (1, .t (.s (.int .i64 z5))), (5, .t (.s (.int .i64 z6)))], []⟩) (x0 := (ar .sub .i64 a1 (qDB a0))) (x1 := 0) h (Weak.of _ [] hA (by cbv) ?_) (fun _ _ => rfl) ?_
  · repeat (first | exact hq0 | refine hq (by first | exact Tt | rfl) ?_)
  ·
   intro k z5 z6 h
   rw [qkC.l0] at h
   refine Run.seq ?_
   refine Run.seq ?_
   refine Run.region hL hT [] (by cbv) ?_ ?_
   · exact (hq Tt hq0)
   rw [show ln (qMB a0) = qDB a0 from ln_eq Row_i _]
   refine Run.cond (by cbv) (hq0) (fun c7 => ?_) (fun c7 => ?_)
   ·
    have h := if_t c7 h
    refine Run.skip ?_
    refine Run.seq ?_
    refine Run.block ?_
    refine Run.seq ?_
    obtain ⟨⟨qBO, qFH⟩, h_x8, h⟩ := bnd h
    obtain ⟨r9, h_r9, h⟩ := bnd h
    refine Run.region hL hT [(2, .el [.s (.int .i64 qBO), .im false (qB qFH)]), (5, .call [false, false] [.ag [.jk, .jk], .v (.jk)] [.v (.s (.int .i64 r9))])] (by cbv) ?_ ?_
    · exact (hq (qM h_x8) (hq (qb (f := Row_i) h_x8) (hq (qx (f := Row_i) h_x8) (hq (hC (qMP h_r9)) hq0))))
    refine Run.seq ?_
    refine Run.region hL hT [] (by cbv) ?_ ?_
    · exact (hq Tt hq0)
    refine Run.cond (by cbv) (hq0) (fun c10 => ?_) (fun c10 => ?_)
    ·
     have h := if_t c10 h
     refine Run.seq ?_
     refine Run.region hL hT [] (by cbv) hq0 ?_
     refine Run.ret ?_
     cases h
     refine ⟨_, _, by cbv, ?_, ?_⟩
     · exact LLe.r
     · exact (ALe.v LLe.r ALe.nil)
    ·
     have h := if_f c10 h
     refine Run.skip ?_
     refine Run.region hL hT [] (by cbv) ?_ ?_
     · exact (hq Tt hq0)
     refine ⟨r9, (ar .add .i64 z6 1), h, Weak.of _ [] hA (by cbv) ?_⟩
     repeat (first | exact hq0 | refine hq (by first | exact Tt | rfl) ?_)
   ·
    have h := if_f c7 h
    refine Run.exit ?_
    refine Run.seq ?_
    refine Run.region hL hT [] (by cbv) hq0 ?_
    refine Run.ret ?_
    cases h
    refine ⟨_, _, by cbv, ?_, ?_⟩
    · exact LLe.r
    · exact (ALe.v LLe.r ALe.nil)
theorem qEM {a0 : List (List Row)} {a1 : Int} {r : Int} (h : qQC.f a0 a1 = some r) : AC Tryz.prog 43 [.v (.im false (rowsOf RowS_i a0)), .v (.s (.int .i64 a1))] [.v (.jk), .v (.jk)] [.v (.s (.int .i64 r))] := by
 unfold qQC.f at h
 let qUB := rowsOf RowS_i
 let qMB := rowsOf Row_i
 let qFC := @lenI (List Row)
 show AC Tryz.prog 43 [.v (.im false (qUB a0)), .v (.s (.int .i64 a1))] _ _
 refine run3 Tryz.func43 (by rfl) (by rfl) (by cbv) ⟨by decide, rfl⟩ ?_
 intro ar cm bo sc sa sx ss sl bs sb ln sr ap up rp fr ge le lt nz mm ma sm fl al ci hL F hP hA hT hM hC
 refine Run.seq ?_
 refine Run.region hL hT [] (by cbv) hq0 ?_
 refine Run.seq ?_
 refine Run.region hL hT [] (by cbv) ?_ ?_
 · exact (hq Tt hq0)
 rw [show ln (qUB a0) = qFC a0 from ln_eq RowS_i _]
 refine Run.seq ?_
 refine Run.seq ?_
 refine Run.region hL hT [] (by cbv) ?_ ?_
 · exact (hq Tt hq0)
 refine Run.cond (by cbv) (hq0) (fun c1 => ?_) (fun c1 => ?_)
 ·
  have h := if_t c1 h
  refine Run.seq ?_
  refine Run.region hL hT [] (by cbv) hq0 ?_
  refine Run.ret ?_
  cases h
  refine ⟨_, _, by cbv, ?_, ?_⟩
  · exact LLe.r
  · exact (ALe.v LLe.r ALe.nil)
 ·
  have h := if_f c1 h
  refine Run.skip ?_
  refine Run.seq ?_
  refine Run.seq ?_
  refine Run.region hL hT [] (by cbv) hq0 ?_
  refine Run.block ?_
  refine Run.loop2 (fun (z5 : Int) (z6 : Int) => ⟨27, 100000, [(0, .t (.im false (qUB a0))), (1, .t (.s (.int .i64 z5))), (5, .t (.s (.int .i64 z6)))], []⟩) (x0 := (ar .sub .i64 a1 (qFC a0))) (x1 := 0) h (Weak.of _ [] hA (by cbv) ?_) (fun _ _ => rfl) ?_
  · repeat (first | exact hq0 | refine hq (by first | exact Tt | rfl) ?_)
  ·
   intro k z5 z6 h
   rw [qQC.l0] at h
   refine Run.seq ?_
   refine Run.seq ?_
   refine Run.region hL hT [] (by cbv) ?_ ?_
   · exact (hq Tt hq0)
   rw [show ln (qUB a0) = qFC a0 from ln_eq RowS_i _]
   refine Run.cond (by cbv) (hq0) (fun c7 => ?_) (fun c7 => ?_)
   ·
    have h := if_t c7 h
    refine Run.skip ?_
    refine Run.seq ?_
    refine Run.block ?_
    refine Run.seq ?_
    obtain ⟨x8, h_x8, h⟩ := bnd h
    obtain ⟨r9, h_r9, h⟩ := bnd h
    refine Run.region hL hT [(2, .el [.im false (qMB x8)]), (5, .call [false, false] [.v (.jk), .v (.jk)] [.v (.s (.int .i64 r9))])] (by cbv) ?_ ?_
    · exact (hq (qM h_x8) (hq (qb (f := RowS_i) h_x8) (hq (qx (f := RowS_i) h_x8) (hq (hC (qIN h_r9)) hq0))))
    refine Run.seq ?_
    refine Run.region hL hT [] (by cbv) ?_ ?_
    · exact (hq Tt hq0)
    refine Run.cond (by cbv) (hq0) (fun c10 => ?_) (fun c10 => ?_)
    ·
     have h := if_t c10 h
     refine Run.seq ?_
     refine Run.region hL hT [] (by cbv) hq0 ?_
     refine Run.ret ?_
     cases h
     refine ⟨_, _, by cbv, ?_, ?_⟩
     · exact LLe.r
     · exact (ALe.v LLe.r ALe.nil)
    ·
     have h := if_f c10 h
     refine Run.skip ?_
     refine Run.region hL hT [] (by cbv) ?_ ?_
     · exact (hq Tt hq0)
     refine ⟨r9, (ar .add .i64 z6 1), h, Weak.of _ [] hA (by cbv) ?_⟩
     repeat (first | exact hq0 | refine hq (by first | exact Tt | rfl) ?_)
   ·
    have h := if_f c7 h
    refine Run.exit ?_
    refine Run.seq ?_
    refine Run.region hL hT [] (by cbv) hq0 ?_
    refine Run.ret ?_
    cases h
    refine ⟨_, _, by cbv, ?_, ?_⟩
    · exact LLe.r
    · exact (ALe.v LLe.r ALe.nil)
theorem qFM {qF : List Int} {qV : Int} {qT : List (List Row)} {a1 : Int} {r : Int} (h : qPF.f (Store.mk (Schema.mk qF) qV qT) a1 = some r) : AC Tryz.prog 14 [.ag [.im false (rowsOf Int_c qF), .s (.int .i64 qV), .im false (rowsOf RowS_i qT)], .v (.s (.int .i64 a1))] [.ag [.jk, .jk, .jk], .v (.jk)] [.v (.s (.int .i64 r))] := by
 unfold qPF.f at h
 let qB := rowsOf Int_c
 let qUB := rowsOf RowS_i
 show AC Tryz.prog 14 [.ag [.im false (qB qF), .s (.int .i64 qV), .im false (qUB qT)], .v (.s (.int .i64 a1))] _ _
 refine run3 Tryz.func14 (by rfl) (by rfl) (by cbv) ⟨by decide, rfl⟩ ?_
 intro ar cm bo sc sa sx ss sl bs sb ln sr ap up rp fr ge le lt nz mm ma sm fl al ci hL F hP hA hT hM hC
 refine Run.seq ?_
 refine Run.region hL hT [] (by cbv) hq0 ?_
 refine Run.seq ?_
 obtain ⟨r1, h_r1, h⟩ := bnd h
 refine Run.region hL hT [(3, .call [false, false] [.ag [.jk], .v (.jk)] [.v (.s (.int .i64 r1))])] (by cbv) ?_ ?_
 · exact (hq Tt (hq (hC (qTK h_r1)) hq0))
 refine Run.seq ?_
 refine Run.seq ?_
 refine Run.region hL hT [] (by cbv) ?_ ?_
 · exact (hq Tt hq0)
 refine Run.cond (by cbv) (hq0) (fun c2 => ?_) (fun c2 => ?_)
 ·
  have h := if_t c2 h
  refine Run.seq ?_
  refine Run.region hL hT [] (by cbv) hq0 ?_
  refine Run.ret ?_
  cases h
  refine ⟨_, _, by cbv, ?_, ?_⟩
  · exact LLe.r
  · exact (ALe.v LLe.r ALe.nil)
 ·
  have h := if_f c2 h
  refine Run.skip ?_
  refine Run.seq ?_
  obtain ⟨r3, h_r3, h⟩ := bnd h
  refine Run.region hL hT [(3, .call [false, false] [.v (.jk), .v (.jk)] [.v (.s (.int .i64 r3))])] (by cbv) ?_ ?_
  · exact (hq Tt (hq (hC (qEM h_r3)) hq0))
  refine Run.seq ?_
  refine Run.seq ?_
  refine Run.region hL hT [] (by cbv) ?_ ?_
  · exact (hq Tt hq0)
  refine Run.cond (by cbv) (hq0) (fun c4 => ?_) (fun c4 => ?_)
  ·
   have h := if_t c4 h
   refine Run.seq ?_
   refine Run.region hL hT [] (by cbv) hq0 ?_
   refine Run.ret ?_
   cases h
   refine ⟨_, _, by cbv, ?_, ?_⟩
   · exact LLe.r
   · exact (ALe.v LLe.r ALe.nil)
  ·
   have h := if_f c4 h
   refine Run.skip ?_
   refine Run.seq ?_
   refine Run.region hL hT [] (by cbv) hq0 ?_
   refine Run.ret ?_
   cases h
   refine ⟨_, _, by cbv, ?_, ?_⟩
   · exact LLe.r
   · exact (ALe.v LLe.r ALe.nil)
theorem qGM {a0 : List Cond} {a1 : Int} {r : Int} (h : qQF.f a0 a1 = some r) : AC Tryz.prog 44 [.v (.im false (rowsOf Cond_c a0)), .v (.s (.int .i64 a1))] [.v (.jk), .v (.jk)] [.v (.s (.int .i64 r))] := by
 unfold qQF.f at h
 let qJ := rowsOf Cond_c
 let qWB := @lenI Cond
 show AC Tryz.prog 44 [.v (.im false (qJ a0)), .v (.s (.int .i64 a1))] _ _
 refine run3 Tryz.func44 (by rfl) (by rfl) (by cbv) ⟨by decide, rfl⟩ ?_
 intro ar cm bo sc sa sx ss sl bs sb ln sr ap up rp fr ge le lt nz mm ma sm fl al ci hL F hP hA hT hM hC
 refine Run.seq ?_
 refine Run.region hL hT [] (by cbv) hq0 ?_
 refine Run.seq ?_
 refine Run.region hL hT [] (by cbv) ?_ ?_
 · exact (hq Tt hq0)
 rw [show ln (qJ a0) = qWB a0 from ln_eq Cond_c _]
 refine Run.seq ?_
 refine Run.seq ?_
 refine Run.region hL hT [] (by cbv) ?_ ?_
 · exact (hq Tt hq0)
 refine Run.cond (by cbv) (hq0) (fun c1 => ?_) (fun c1 => ?_)
 ·
  have h := if_t c1 h
  refine Run.seq ?_
  refine Run.region hL hT [] (by cbv) hq0 ?_
  refine Run.ret ?_
  cases h
  refine ⟨_, _, by cbv, ?_, ?_⟩
  · exact LLe.r
  · exact (ALe.v LLe.r ALe.nil)
 ·
  have h := if_f c1 h
  refine Run.skip ?_
  refine Run.seq ?_
  refine Run.region hL hT [] (by cbv) hq0 ?_
  refine Run.ret ?_
  cases h
  refine ⟨_, _, by cbv, ?_, ?_⟩
  · exact LLe.r
  · exact (ALe.v LLe.r ALe.nil)
theorem qHM {qW : Int} {qS : List Cond} {qX : Int} {qi : Bool} {qY : Int} {qe : List Int} {qj : Bool} {qK : Int} {qQ : Int} {a1 : Int} {r : Int} (h : qRF.f (Query.mk qW qS qX qi qY qe qj qK qQ) a1 = some r) : AC Tryz.prog 15 [.ag [.s (.int .i64 qW), .im false (rowsOf Cond_c qS), .s (.int .i64 qX), .s (.bool qi), .s (.int .i64 qY), .im false (rowsOf Int_c qe), .s (.bool qj), .s (.int .i64 qK), .s (.int .i64 qQ)], .v (.s (.int .i64 a1))] [.ag [.jk, .jk, .jk, .jk, .jk, .jk, .jk, .jk, .jk], .v (.jk)] [.v (.s (.int .i64 r))] := by
 unfold qRF.f at h
 let qJ := rowsOf Cond_c
 let qB := rowsOf Int_c
 show AC Tryz.prog 15 [.ag [.s (.int .i64 qW), .im false (qJ qS), .s (.int .i64 qX), .s (.bool qi), .s (.int .i64 qY), .im false (qB qe), .s (.bool qj), .s (.int .i64 qK), .s (.int .i64 qQ)], .v (.s (.int .i64 a1))] _ _
 refine run3 Tryz.func15 (by rfl) (by rfl) (by cbv) ⟨by decide, rfl⟩ ?_
 intro ar cm bo sc sa sx ss sl bs sb ln sr ap up rp fr ge le lt nz mm ma sm fl al ci hL F hP hA hT hM hC
 refine Run.seq ?_
 refine Run.region hL hT [] (by cbv) hq0 ?_
 refine Run.seq ?_
 obtain ⟨r1, h_r1, h⟩ := bnd h
 refine Run.region hL hT [(3, .call [false, false] [.v (.jk), .v (.jk)] [.v (.s (.int .i64 r1))])] (by cbv) ?_ ?_
 · exact (hq Tt (hq (hC (qGM h_r1)) hq0))
 refine Run.seq ?_
 refine Run.seq ?_
 refine Run.region hL hT [] (by cbv) ?_ ?_
 · exact (hq Tt hq0)
 refine Run.cond (by cbv) (hq0) (fun c2 => ?_) (fun c2 => ?_)
 ·
  have h := if_t c2 h
  refine Run.seq ?_
  refine Run.region hL hT [] (by cbv) hq0 ?_
  refine Run.ret ?_
  cases h
  refine ⟨_, _, by cbv, ?_, ?_⟩
  · exact LLe.r
  · exact (ALe.v LLe.r ALe.nil)
 ·
  have h := if_f c2 h
  refine Run.skip ?_
  refine Run.seq ?_
  obtain ⟨r3, h_r3, h⟩ := bnd h
  refine Run.region hL hT [(3, .call [false, false] [.v (.jk), .v (.jk)] [.v (.s (.int .i64 r3))])] (by cbv) ?_ ?_
  · exact (hq Tt (hq (hC (qhG h_r3)) hq0))
  refine Run.seq ?_
  refine Run.seq ?_
  refine Run.region hL hT [] (by cbv) ?_ ?_
  · exact (hq Tt hq0)
  refine Run.cond (by cbv) (hq0) (fun c4 => ?_) (fun c4 => ?_)
  ·
   have h := if_t c4 h
   refine Run.seq ?_
   refine Run.region hL hT [] (by cbv) hq0 ?_
   refine Run.ret ?_
   cases h
   refine ⟨_, _, by cbv, ?_, ?_⟩
   · exact LLe.r
   · exact (ALe.v LLe.r ALe.nil)
  ·
   have h := if_f c4 h
   refine Run.skip ?_
   refine Run.seq ?_
   refine Run.region hL hT [] (by cbv) hq0 ?_
   refine Run.ret ?_
   cases h
   refine ⟨_, _, by cbv, ?_, ?_⟩
   · exact LLe.r
   · exact (ALe.v LLe.r ALe.nil)
theorem qNP {a0 : Int} {a1 : Int} {r : Int} (h : quG.f a0 a1 = some r) : AC Tryz.prog 101 [.v (.s (.int .i64 a0)), .v (.s (.int .i64 a1))] [.v (.jk), .v (.jk)] [.v (.s (.int .i64 r))] := by
 unfold quG.f at h
 show AC Tryz.prog 101 [.v (.s (.int .i64 a0)), .v (.s (.int .i64 a1))] _ _
 refine run3 Tryz.func101 (by rfl) (by rfl) (by cbv) ⟨by decide, rfl⟩ ?_
 intro ar cm bo sc sa sx ss sl bs sb ln sr ap up rp fr ge le lt nz mm ma sm fl al ci hL F hP hA hT hM hC
 refine Run.seq ?_
 refine Run.region hL hT [] (by cbv) hq0 ?_
 refine Run.seq ?_
 refine Run.seq ?_
 refine Run.region hL hT [] (by cbv) ?_ ?_
 · exact (hq Tt hq0)
 refine Run.cond (by cbv) (hq0) (fun c1 => ?_) (fun c1 => ?_)
 ·
  have h := if_t c1 h
  refine Run.seq ?_
  refine Run.region hL hT [] (by cbv) hq0 ?_
  refine Run.ret ?_
  cases h
  refine ⟨_, _, by cbv, ?_, ?_⟩
  · exact LLe.r
  · exact (ALe.v LLe.r ALe.nil)
 ·
  have h := if_f c1 h
  refine Run.skip ?_
  refine Run.seq ?_
  refine Run.region hL hT [] (by cbv) hq0 ?_
  refine Run.ret ?_
  cases h
  refine ⟨_, _, by cbv, ?_, ?_⟩
  · exact LLe.r
  · exact (ALe.v LLe.r ALe.nil)
theorem qOP {a0 : Int} {a1 : Int} {r : Int} (h : qvG.f a0 a1 = some r) : AC Tryz.prog 102 [.v (.s (.int .i64 a0)), .v (.s (.int .i64 a1))] [.v (.jk), .v (.jk)] [.v (.s (.int .i64 r))] := by
 unfold qvG.f at h
 show AC Tryz.prog 102 [.v (.s (.int .i64 a0)), .v (.s (.int .i64 a1))] _ _
 refine run3 Tryz.func102 (by rfl) (by rfl) (by cbv) ⟨by decide, rfl⟩ ?_
 intro ar cm bo sc sa sx ss sl bs sb ln sr ap up rp fr ge le lt nz mm ma sm fl al ci hL F hP hA hT hM hC
 refine Run.seq ?_
 refine Run.region hL hT [] (by cbv) hq0 ?_
 refine Run.seq ?_
 refine Run.seq ?_
 refine Run.region hL hT [] (by cbv) ?_ ?_
 · exact (hq Tt hq0)
 refine Run.cond (by cbv) (hq0) (fun c1 => ?_) (fun c1 => ?_)
 ·
  have h := if_t c1 h
  refine Run.seq ?_
  refine Run.region hL hT [] (by cbv) hq0 ?_
  refine Run.ret ?_
  cases h
  refine ⟨_, _, by cbv, ?_, ?_⟩
  · exact LLe.r
  · exact (ALe.v LLe.r ALe.nil)
 ·
  have h := if_f c1 h
  refine Run.skip ?_
  refine Run.seq ?_
  refine Run.region hL hT [] (by cbv) hq0 ?_
  refine Run.ret ?_
  cases h
  refine ⟨_, _, by cbv, ?_, ?_⟩
  · exact LLe.r
  · exact (ALe.v LLe.r ALe.nil)
theorem qUK {qW : Int} {qS : List Cond} {qX : Int} {qi : Bool} {qY : Int} {qe : List Int} {qj : Bool} {qK : Int} {qQ : Int} {a1 : Int} {r : Int} (h : qpE.f (Query.mk qW qS qX qi qY qe qj qK qQ) a1 = some r) : AC Tryz.prog 67 [.ag [.s (.int .i64 qW), .im false (rowsOf Cond_c qS), .s (.int .i64 qX), .s (.bool qi), .s (.int .i64 qY), .im false (rowsOf Int_c qe), .s (.bool qj), .s (.int .i64 qK), .s (.int .i64 qQ)], .v (.s (.int .i64 a1))] [.ag [.jk, .jk, .jk, .jk, .jk, .jk, .jk, .jk, .jk], .v (.jk)] [.v (.s (.int .i64 r))] := by
 unfold qpE.f at h
 let qJ := rowsOf Cond_c
 let qB := rowsOf Int_c
 show AC Tryz.prog 67 [.ag [.s (.int .i64 qW), .im false (qJ qS), .s (.int .i64 qX), .s (.bool qi), .s (.int .i64 qY), .im false (qB qe), .s (.bool qj), .s (.int .i64 qK), .s (.int .i64 qQ)], .v (.s (.int .i64 a1))] _ _
 refine run3 Tryz.func67 (by rfl) (by rfl) (by cbv) ⟨by decide, rfl⟩ ?_
 intro ar cm bo sc sa sx ss sl bs sb ln sr ap up rp fr ge le lt nz mm ma sm fl al ci hL F hP hA hT hM hC
 refine Run.seq ?_
 refine Run.region hL hT [] (by cbv) hq0 ?_
 refine Run.seq ?_
 refine Run.seq ?_
 refine Run.region hL hT [] (by cbv) ?_ ?_
 · exact (hq Tt (hq Tt hq0))
 refine Run.cond (by cbv) (hq0) (fun c1 => ?_) (fun c1 => ?_)
 ·
  have h := if_t c1 h
  refine Run.seq ?_
  refine Run.region hL hT [] (by cbv) hq0 ?_
  refine Run.ret ?_
  cases h
  refine ⟨_, _, by cbv, ?_, ?_⟩
  · exact LLe.r
  · exact (ALe.v LLe.r ALe.nil)
 ·
  have h := if_f c1 h
  refine Run.skip ?_
  refine Run.seq ?_
  obtain ⟨r2, h_r2, h⟩ := bnd h
  obtain ⟨r3, h_r3, h⟩ := bnd h
  refine Run.region hL hT [(3, .call [false, false] [.v (.jk), .v (.jk)] [.v (.s (.int .i64 r2))]), (4, .call [false, false] [.v (.jk), .v (.jk)] [.v (.s (.int .i64 r3))])] (by cbv) ?_ ?_
  · exact (hq Tt (hq (hC (qOP h_r2)) (hq (hC (qNP h_r3)) hq0)))
  refine Run.ret ?_
  cases h
  refine ⟨_, _, by cbv, ?_, ?_⟩
  · exact LLe.r
  · exact (ALe.v LLe.r ALe.nil)
theorem qYH {qU : Int} {a0v_N : Int} {a0v_S : ByteArray} {qE : List Json} {qH : List ByteArray} {a1 : ByteArray} {qYG : Int} {a2v_N : Int} {a2v_S : ByteArray} {qXF : List Json} {qYF : List ByteArray} {r : Json} (h : qPC.f (Json.mk qU a0v_N a0v_S qE qH) a1 (Json.mk qYG a2v_N a2v_S qXF qYF) = some r) : AC Tryz.prog 103 [.ag [.s (.int .i64 qU), .s (.int .i64 a0v_N), .s (.string a0v_S), .im true (rowsOf qLC qE), .im true (rowsOf Str_c qH)], .v (.s (.string a1)), .ag [.s (.int .i64 qYG), .s (.int .i64 a2v_N), .s (.string a2v_S), .im true (rowsOf qLC qXF), .im true (rowsOf Str_c qYF)]] [.ag [.jk, .jk, .jk, .jk, .jk], .v (.jk), .ag [.jk, .jk, .jk, .jk, .jk]] [.ag [.s (.int .i64 r.Kind), .s (.int .i64 r.N), .s (.string r.S), .im true (rowsOf qLC r.List_), .im true (rowsOf Str_c r.Names)]] := by
 unfold qPC.f at h
 let qQB := rowsOf qLC
 let qOB := rowsOf qdB
 let qR := rowsOf Str_c
 let qkB := @lenI ByteArray
 show AC Tryz.prog 103 [.ag [.s (.int .i64 qU), .s (.int .i64 a0v_N), .s (.string a0v_S), .im true (qQB qE), .im true (qR qH)], .v (.s (.string a1)), .ag [.s (.int .i64 qYG), .s (.int .i64 a2v_N), .s (.string a2v_S), .im true (qQB qXF), .im true (qR qYF)]] _ _
 refine run3 Tryz.func103 (by rfl) (by rfl) (by cbv) ⟨by decide, rfl⟩ ?_
 intro ar cm bo sc sa sx ss sl bs sb ln sr ap up rp fr ge le lt nz mm ma sm fl al ci hL F hP hA hT hM hC
 refine Run.seq ?_
 refine Run.region hL hT [] (by cbv) hq0 ?_
 refine Run.seq ?_
 refine Run.region hL hT [] (by cbv) ?_ ?_
 · exact (hq Tt hq0)
 refine Run.seq ?_
 refine Run.region hL hT [] (by cbv) hq0 ?_
 obtain ⟨K4, h_K4, h⟩ := joinE h
 refine Run.join3 K4 (r := r) (fun (y1 : List Json) (y2 : List ByteArray) (y3 : Bool) => ⟨83, 100000, [(1, .t (.s (.string a1))), (5, .pt 1 0 0), (6, .pt 2 0 0), (7, .pt 3 0 0), (8, .t (.s (.bool y3)))], [(1, .box 34 [.t (.s (.int .i64 qYG)), .t (.s (.int .i64 a2v_N)), .t (.s (.string a2v_S)), .t (.im true (qQB qXF)), .t (.im true (qR qYF))]), (2, .box 34 [.t (.s (.int .i64 0)), .t (.s (.int .i64 0)), .t (.s (.string ByteArray.empty)), .t (.s (.slice none 0 0)), .t (.s (.slice none 0 0))]), (3, .box 34 [.t (.s (.int .i64 5)), .t (.s (.int .i64 0)), .t (.s (.string ByteArray.empty)), .rf 4, .rf 5]), (4, .row 0 34 5 (qQB y1)), (5, .row 0 9 1 (qR y2))]⟩) ?_ ?_
 ·
  skip
  refine Run.seq ?_
  refine Run.region hL hT [] (by cbv) hq0 ?_
  refine Run.block ?_
  refine Run.loop4 (fun (z45 : List Json) (z46 : List ByteArray) (z47 : Bool) (z48 : Int) => ⟨83, 100000, [(1, .t (.s (.string a1))), (3, .pt 1 0 0), (5, .pt 2 0 0), (6, .pt 3 0 0), (7, .pt 4 0 0), (8, .t (.s (.bool z47))), (9, .t (.s (.int .i64 z48)))], [(1, .box 34 [.t (.s (.int .i64 qU)), .t (.s (.int .i64 a0v_N)), .t (.s (.string a0v_S)), .t (.im true (qQB qE)), .t (.im true (qR qH))]), (2, .box 34 [.t (.s (.int .i64 qYG)), .t (.s (.int .i64 a2v_N)), .t (.s (.string a2v_S)), .t (.im true (qQB qXF)), .t (.im true (qR qYF))]), (3, .box 34 [.t (.s (.int .i64 0)), .t (.s (.int .i64 0)), .t (.s (.string ByteArray.empty)), .t (.s (.slice none 0 0)), .t (.s (.slice none 0 0))]), (4, .box 34 [.t (.s (.int .i64 5)), .t (.s (.int .i64 0)), .t (.s (.string ByteArray.empty)), .rf 5, .rf 6]), (5, .row 0 34 5 (qQB z45)), (6, .row 0 9 1 (qR z46))]⟩) (x0 := []) (x1 := []) (x2 := false) (x3 := 0) h ((Weak.nilB (l := [.t (.s (.int .i64 5)), .t (.s (.int .i64 0)), .t (.s (.string ByteArray.empty))]) hT 4097 3 17384 34 rfl (by cbv) (by cbv) (by cbv)).trans ((Weak.nilB (l := [.t (.s (.int .i64 5)), .t (.s (.int .i64 0)), .t (.s (.string ByteArray.empty)), .rf 17384]) hT 4097 4 17385 9 rfl (by cbv) (by cbv) (by cbv)).trans (Weak.of _ [(1, 0), (2, 1), (3, 2), (4, 4097), (5, 17384), (6, 17385)] hA (by cbv) ?_))) (fun _ _ _ _ => rfl) ?_
  · repeat (first | exact hq0 | refine hq (by first | exact Tt | rfl) ?_)
  ·
   intro k z45 z46 z47 z48 h
   rw [qPC.l0] at h
   refine Run.seq ?_
   refine Run.seq ?_
   refine Run.region hL hT [] (by cbv) ?_ ?_
   · exact (hq Tt (hq Tt hq0))
   rw [show ln (qR qH) = qkB qH from ln_eq Str_c _]
   refine Run.cond (by cbv) (hq0) (fun c49 => ?_) (fun c49 => ?_)
   ·
    have h := if_t c49 h
    refine Run.skip ?_
    refine Run.seq ?_
    refine Run.block ?_
    obtain ⟨K53, h_K53, h⟩ := joinE h
    refine Run.join3 K53 (r := r) (fun (y50 : List Json) (y51 : List ByteArray) (y52 : Bool) => ⟨83, 100000, [(1, .t (.s (.string a1))), (3, .pt 1 0 0), (5, .pt 2 0 0), (6, .pt 3 0 0), (7, .pt 4 0 0), (8, .t (.s (.bool y52))), (9, .t (.s (.int .i64 z48)))], [(1, .box 34 [.t (.s (.int .i64 qU)), .t (.s (.int .i64 a0v_N)), .t (.s (.string a0v_S)), .t (.im true (qQB qE)), .t (.im true (qR qH))]), (2, .box 34 [.t (.s (.int .i64 qYG)), .t (.s (.int .i64 a2v_N)), .t (.s (.string a2v_S)), .t (.im true (qQB qXF)), .t (.im true (qR qYF))]), (3, .box 34 [.t (.s (.int .i64 0)), .t (.s (.int .i64 0)), .t (.s (.string ByteArray.empty)), .t (.s (.slice none 0 0)), .t (.s (.slice none 0 0))]), (4, .box 34 [.t (.s (.int .i64 5)), .t (.s (.int .i64 0)), .t (.s (.string ByteArray.empty)), .rf 5, .rf 6]), (5, .row 0 34 5 (qQB y50)), (6, .row 0 9 1 (qR y51))]⟩) ?_ ?_
    ·
     skip
     refine Run.seq ?_
     obtain ⟨x54, h_x54, h⟩ := bnd h
     refine Run.region hL hT [(6, .el [.s (.string x54)])] (by cbv) ?_ ?_
     · exact (hq (fun _ => hq0) (hq (fun g56 => (hq g56 (hq Tt hq0))) (hq (fun _ => hq0) (hq (fun g58 => (hq g58 (hq g58 (hq (qM (gd_t h_x54 g58)) (hq (qb (f := Str_c) (gd_t h_x54 g58)) (hq (qx (f := Str_c) (gd_t h_x54 g58)) hq0)))))) (hq (fun g59 => (hq g59 hq0)) (hq (fun _ => hq0) (hq (fun g61 => (hq g61 (hq g61 hq0))) (hq (fun q62 => (hq q62 hq0)) (hq (fun _ => hq0) hq0)))))))))
     refine Run.cond (by cbv) (hq0) (fun c64 => ?_) (fun c64 => ?_)
     ·
      have h := if_t c64 h
      refine Run.seq ?_
      obtain ⟨l65, h_l65, h⟩ := bnd h
      obtain ⟨l66, h_l66, h⟩ := bnd h
      refine Run.region hL hT [] (by cbv) ?_ ?_
      · exact (hq Tt (hq (qLE (P := Tryz.prog) (f := Str_c) RLe.r (qvB (f := Str_c) h_l65 (RLe.cons rfl LLe.r RLe.nil)) h_l66) (hq Tt hq0)))
      refine Run.row (rows := (ap (qR z46) ([[.s (.string a1)]]))) 108196 (qR l66) (by cbv) (qKE (f := Str_c) RLe.r (qvB (f := Str_c) h_l65 (RLe.cons rfl LLe.r RLe.nil)) h_l66) ?_
      refine Run.seq ?_
      obtain ⟨l67, h_l67, h⟩ := bnd h
      obtain ⟨l68, h_l68, h⟩ := bnd h
      refine Run.region hL hT [] (by cbv) ?_ ?_
      · exact (hq Tt (hq Tt (hq (qLE (P := Tryz.prog) (f := qLC) RLe.r (qDE qTD h_l67 (RLe.cons rfl LLe.r RLe.nil)) h_l68) (hq Tt hq0))))
      refine Run.row (rows := (ap (qQB z45) ([[.s (.int .i64 qYG), .s (.int .i64 a2v_N), .s (.string a2v_S), .im true (qQB qXF), .im true (qR qYF)]]))) 112292 (qQB l68) (by cbv) (qKE (f := qLC) RLe.r (qDE qTD h_l67 (RLe.cons rfl LLe.r RLe.nil)) h_l68) ?_
      refine Run.region hL hT [] (by cbv) hq0 ?_
      refine ⟨l68, l66, true, h, Weak.of _ [(1, 1), (2, 2), (3, 3), (4, 4), (5, 112292), (6, 108196)] hA (by cbv) ?_⟩
      repeat (first | exact hq0 | refine hq (by first | exact Tt | rfl) ?_)
     ·
      have h := if_f c64 h
      refine Run.skip ?_
      refine ⟨z45, z46, z47, h, Weak.of _ [(1, 1), (2, 2), (3, 3), (4, 4), (5, 5), (6, 6)] hA (by cbv) ?_⟩
      repeat (first | exact hq0 | refine hq (by first | exact Tt | rfl) ?_)
    ·
     intro y50 y51 y52 h
     rw [h_K53] at h
     refine Run.seq ?_
     obtain ⟨x69, h_x69, h⟩ := bnd h
     refine Run.region hL hT [(3, .el [.s (.string x69)])] (by cbv) ?_ ?_
     · exact (hq Tt (hq (qM h_x69) (hq (qb (f := Str_c) h_x69) (hq (qx (f := Str_c) h_x69) hq0))))
     refine Run.cond (by cbv) (hq0) (fun c70 => ?_) (fun c70 => ?_)
     ·
      have h := if_t c70 h
      refine Run.seq ?_
      obtain ⟨l71, h_l71, h⟩ := bnd h
      obtain ⟨l72, h_l72, h⟩ := bnd h
      refine Run.draw hL hT hM [(5, .el [.s (.string x69)])] (by cbv) (by cbv) (by cbv) (by cbv) (by cbv) ?_ ?_
      · exact (hq Tt (hq Tt (hq (qM h_x69) (hq (qb (f := Str_c) h_x69) (hq (qx (f := Str_c) h_x69) (hq (qLE (P := Tryz.prog) (f := Str_c) RLe.r (qvB (f := Str_c) h_l71 (RLe.cons rfl LLe.r RLe.nil)) h_l72) (hq Tt hq0)))))))
      refine Run.row (rows := (ap (qR y51) ([[.s (.string x69)]]))) 104104 (qR l72) (by cbv) (qKE (f := Str_c) RLe.r (qvB (f := Str_c) h_l71 (RLe.cons rfl LLe.r RLe.nil)) h_l72) ?_
      obtain ⟨⟨qhQ, qHW, qIW, qCO, qDO⟩, h_x73, h⟩ := bnd h
      obtain ⟨l74, h_l74, h⟩ := bnd h
      obtain ⟨l75, h_l75, h⟩ := bnd h
      refine Run.draw hL hT hM [(5, .el [.s (.int .i64 qhQ), .s (.int .i64 qHW), .s (.string qIW), .im true (qQB qCO), .im true (qR qDO)])] (by cbv) (by cbv) (by cbv) (by cbv) (by cbv) ?_ ?_
      · exact (hq Tt (hq Tt (hq (qM h_x73) (hq (qb (f := qLC) h_x73) (hq (qAF qTD h_x73) (hq (qLE (P := Tryz.prog) (f := qLC) RLe.r (qDE qTD h_l74 (RLe.cons rfl LLe.r RLe.nil)) h_l75) (hq Tt hq0)))))))
      refine Run.row (rows := (ap (qQB y50) ([[.s (.int .i64 qhQ), .s (.int .i64 qHW), .s (.string qIW), .im true (qQB qCO), .im true (qR qDO)]]))) 108200 (qQB l75) (by cbv) (qKE (f := qLC) RLe.r (qDE qTD h_l74 (RLe.cons rfl LLe.r RLe.nil)) h_l75) ?_
      refine Run.region hL hT [] (by cbv) ?_ ?_
      · exact (hq Tt hq0)
      refine ⟨l75, l72, y52, (ar .add .i64 z48 1), h, Weak.of _ [(1, 1), (2, 2), (3, 3), (4, 4), (5, 108200), (6, 104104)] hA (by cbv) ?_⟩
      repeat (first | exact hq0 | refine hq (by first | exact Tt | rfl) ?_)
     ·
      have h := if_f c70 h
      refine Run.skip ?_
      refine Run.region hL hT [] (by cbv) ?_ ?_
      · exact (hq Tt hq0)
      refine ⟨y50, y51, y52, (ar .add .i64 z48 1), h, Weak.of _ [(1, 1), (2, 2), (3, 3), (4, 4), (5, 5), (6, 6)] hA (by cbv) ?_⟩
      repeat (first | exact hq0 | refine hq (by first | exact Tt | rfl) ?_)
   ·
    have h := if_f c49 h
    refine Run.exit ?_
    refine ⟨z45, z46, z47, h, Weak.of _ [(1, 2), (2, 3), (3, 4), (4, 5), (5, 6)] hA (by cbv) ?_⟩
    repeat (first | exact hq0 | refine hq (by first | exact Tt | rfl) ?_)
 ·
  intro y1 y2 y3 h
  rw [h_K4] at h
  refine Run.seq ?_
  refine Run.seq ?_
  refine Run.region hL hT [] (by cbv) hq0 ?_
  refine Run.cond (by cbv) (hq0) (fun c76 => ?_) (fun c76 => ?_)
  ·
   have h := if_t c76 h
   refine Run.seq ?_
   obtain ⟨l77, h_l77, h⟩ := bnd h
   obtain ⟨l78, h_l78, h⟩ := bnd h
   refine Run.region hL hT [] (by cbv) ?_ ?_
   · exact (hq Tt (hq (qLE (P := Tryz.prog) (f := Str_c) RLe.r (qvB (f := Str_c) h_l77 (RLe.cons rfl LLe.r RLe.nil)) h_l78) (hq Tt hq0)))
   refine Run.row (rows := (ap (qR y2) ([[.s (.string a1)]]))) 104100 (qR l78) (by cbv) (qKE (f := Str_c) RLe.r (qvB (f := Str_c) h_l77 (RLe.cons rfl LLe.r RLe.nil)) h_l78) ?_
   obtain ⟨l79, h_l79, h⟩ := bnd h
   obtain ⟨l80, h_l80, h⟩ := bnd h
   refine Run.region hL hT [] (by cbv) ?_ ?_
   · exact (hq Tt (hq Tt (hq (qLE (P := Tryz.prog) (f := qLC) RLe.r (qDE qTD h_l79 (RLe.cons rfl LLe.r RLe.nil)) h_l80) (hq Tt hq0))))
   refine Run.row (rows := (ap (qQB y1) ([[.s (.int .i64 qYG), .s (.int .i64 a2v_N), .s (.string a2v_S), .im true (qQB qXF), .im true (qR qYF)]]))) 108196 (qQB l80) (by cbv) (qKE (f := qLC) RLe.r (qDE qTD h_l79 (RLe.cons rfl LLe.r RLe.nil)) h_l80) ?_
   refine Run.seq ?_
   refine Run.region hL hT [] (by cbv) ?_ ?_
   · exact (hq Tt (hq Tt hq0))
   refine Run.weak ?_ (Weak.keepL (rows := qQB l80) 108196 (by cbv) (qQB l80) (qKJ _))
   refine Run.weak ?_ (Weak.keep (rows := qR l78) 104100 (by cbv) (qR l78) (qmB qEF _))
   refine Run.ret ?_
   cases h
   refine ⟨_, _, by cbv, ?_, ?_⟩
   · exact LLe.r
   · exact (ALe.ag rfl LLe.r ALe.nil)
  ·
   have h := if_f c76 h
   refine Run.skip ?_
   refine Run.seq ?_
   refine Run.region hL hT [] (by cbv) ?_ ?_
   · exact (hq Tt (hq Tt hq0))
   refine Run.weak ?_ (Weak.keepL (rows := qQB y1) 4 (by cbv) (qQB y1) (qKJ _))
   refine Run.weak ?_ (Weak.keep (rows := qR y2) 5 (by cbv) (qR y2) (qmB qEF _))
   refine Run.ret ?_
   cases h
   refine ⟨_, _, by cbv, ?_, ?_⟩
   · exact LLe.r
   · exact (ALe.ag rfl LLe.r ALe.nil)
theorem qVK {a0 : Int} {r : ByteArray} (h : qxB.f a0 = some r) : AC Tryz.prog 104 [.v (.s (.int .i64 a0))] [.v (.jk)] [.v (.s (.string r))] := by
 unfold qxB.f at h
 let eu8_c := rowsOf u8_c
 show AC Tryz.prog 104 [.v (.s (.int .i64 a0))] _ _
 refine run3 Tryz.func104 (by rfl) (by rfl) (by cbv) ⟨by decide, rfl⟩ ?_
 intro ar cm bo sc sa sx ss sl bs sb ln sr ap up rp fr ge le lt nz mm ma sm fl al ci hL F hP hA hT hM hC
 refine Run.seq ?_
 refine Run.region hL hT [] (by cbv) hq0 ?_
 refine Run.seq ?_
 refine Run.seq ?_
 refine Run.region hL hT [] (by cbv) ?_ ?_
 · exact (hq Tt hq0)
 refine Run.cond (by cbv) (hq0) (fun c1 => ?_) (fun c1 => ?_)
 ·
  have h := if_t c1 h
  refine Run.seq ?_
  refine Run.region hL hT [] (by cbv) hq0 ?_
  refine Run.ret ?_
  cases h
  refine ⟨_, _, by cbv, ?_, ?_⟩
  · exact LLe.r
  · exact (ALe.v LLe.r ALe.nil)
 ·
  have h := if_f c1 h
  refine Run.skip ?_
  refine Run.seq ?_
  refine Run.region hL hT [] (by cbv) ?_ ?_
  · exact (hq Tt hq0)
  refine Run.seq ?_
  refine Run.region hL hT [] (by cbv) hq0 ?_
  obtain ⟨K4, h_K4, h⟩ := joinE h
  refine Run.join2 K4 (r := r) (fun (y2 : Bool) (y3 : ByteArray) => ⟨31, 100000, [(3, .t (.s (.bool y2))), (4, .t (.s (.string y3)))], []⟩) ?_ ?_
  ·
   skip
   refine Run.block ?_
   refine Run.loop3 (fun (z8 : Int) (z9 : Bool) (z10 : ByteArray) => ⟨31, 100000, [(0, .t (.s (.int .i64 z8))), (3, .t (.s (.bool z9))), (4, .t (.s (.string z10)))], []⟩) (x0 := a0) (x1 := (cm .lss a0 0)) (x2 := (ByteArray.mk #[])) h (Weak.of _ [] hA (by cbv) ?_) (fun _ _ _ => rfl) ?_
   · repeat (first | exact hq0 | refine hq (by first | exact Tt | rfl) ?_)
   ·
    intro k z8 z9 z10 h
    rw [qxB.l0] at h
    refine Run.seq ?_
    refine Run.seq ?_
    refine Run.region hL hT [] (by cbv) ?_ ?_
    · exact (hq Tt hq0)
    refine Run.cond (by cbv) (hq0) (fun c11 => ?_) (fun c11 => ?_)
    ·
     have h := if_t c11 h
     refine Run.skip ?_
     refine Run.block ?_
     refine Run.seq ?_
     refine Run.region hL hT [] (by cbv) ?_ ?_
     · exact (hq Tt (hq (show Ls.nz 10 from (by decide : (10 : Int) ≠ 0)) hq0))
     refine Run.seq ?_
     refine Run.seq ?_
     refine Run.region hL hT [] (by cbv) ?_ ?_
     · exact (hq Tt hq0)
     refine Run.cond (by cbv) (hq0) (fun c12 => ?_) (fun c12 => ?_)
     ·
      have h := if_t c12 h
      refine Run.region hL hT [] (by cbv) ?_ ?_
      · exact (hq Tt hq0)
      refine Run.seq ?_
      obtain ⟨l13, h_l13, h⟩ := bnd h
      obtain ⟨s14, h_s14, h⟩ := bnd h
      obtain ⟨u15, h_u15, h⟩ := bnd h
      refine Run.region hL hT [(4, .hd [116387] (.t (.s (.string s14))) [])] (by cbv) ?_ ?_
      · exact (hq Tt (hq (qOL (ns := [(IntKind.wrap .u8 (w64 (48 + (w64 (0 - (Int.tmod z8 10))))))]) hT (by rfl) (by rfl) (by rfl) (by rfl) (by rfl) (by rfl) (by rfl) (qdO h_l13 h_s14)) (hq (sm_t h_u15) hq0)))
      refine Run.row (rows := [[.s (.int .u8 (ar .or .u8 (ar .add .i64 48 (ar .sub .i64 0 (ar .rem .i64 z8 10))) 0))]]) 116387 (eu8_c l13) (by cbv) (qvB (f := u8_c) h_l13 (RLe.cons rfl LLe.r RLe.nil)) ?_
      refine Run.region hL hT [] (by cbv) ?_ ?_
      · exact (hq Tt (hq (show Ls.nz 10 from (by decide : (10 : Int) ≠ 0)) hq0))
      refine ⟨(ar .quo .i64 z8 10), z9, (sa s14 z10), h, Weak.of _ [] hA (by cbv) ?_⟩
      repeat (first | exact hq0 | refine hq (by first | exact Tt | rfl) ?_)
     ·
      have h := if_f c12 h
      refine Run.skip ?_
      refine Run.seq ?_
      obtain ⟨l16, h_l16, h⟩ := bnd h
      obtain ⟨s17, h_s17, h⟩ := bnd h
      obtain ⟨u18, h_u18, h⟩ := bnd h
      refine Run.region hL hT [(4, .hd [112291] (.t (.s (.string s17))) [])] (by cbv) ?_ ?_
      · exact (hq Tt (hq (qOL (ns := [(IntKind.wrap .u8 (w64 (48 + (Int.tmod z8 10))))]) hT (by rfl) (by rfl) (by rfl) (by rfl) (by rfl) (by rfl) (by rfl) (qdO h_l16 h_s17)) (hq (sm_t h_u18) hq0)))
      refine Run.row (rows := [[.s (.int .u8 (ar .or .u8 (ar .add .i64 48 (ar .rem .i64 z8 10)) 0))]]) 112291 (eu8_c l16) (by cbv) (qvB (f := u8_c) h_l16 (RLe.cons rfl LLe.r RLe.nil)) ?_
      refine Run.region hL hT [] (by cbv) ?_ ?_
      · exact (hq Tt (hq (show Ls.nz 10 from (by decide : (10 : Int) ≠ 0)) hq0))
      refine ⟨(ar .quo .i64 z8 10), z9, (sa s17 z10), h, Weak.of _ [] hA (by cbv) ?_⟩
      repeat (first | exact hq0 | refine hq (by first | exact Tt | rfl) ?_)
    ·
     have h := if_f c11 h
     refine Run.exit ?_
     refine ⟨z9, z10, h, Weak.of _ [] hA (by cbv) ?_⟩
     repeat (first | exact hq0 | refine hq (by first | exact Tt | rfl) ?_)
  ·
   intro y2 y3 h
   rw [h_K4] at h
   refine Run.seq ?_
   refine Run.seq ?_
   refine Run.region hL hT [] (by cbv) hq0 ?_
   refine Run.cond (by cbv) (hq0) (fun c19 => ?_) (fun c19 => ?_)
   ·
    have h := if_t c19 h
    refine Run.seq ?_
    obtain ⟨u20, h_u20, h⟩ := bnd h
    refine Run.region hL hT [] (by cbv) ?_ ?_
    · exact (hq (sm_t h_u20) hq0)
    refine Run.ret ?_
    cases h
    refine ⟨_, _, by cbv, ?_, ?_⟩
    · exact LLe.r
    · exact (ALe.v LLe.r ALe.nil)
   ·
    have h := if_f c19 h
    refine Run.skip ?_
    refine Run.seq ?_
    refine Run.region hL hT [] (by cbv) hq0 ?_
    refine Run.ret ?_
    cases h
    refine ⟨_, _, by cbv, ?_, ?_⟩
    · exact LLe.r
    · exact (ALe.v LLe.r ALe.nil)
theorem qeB {a0 : Int} {a1 : Int} {a2 : Int} {r : Bool} (h : qsB.f a0 a1 a2 = some r) : AC Tryz.prog 83 [.v (.s (.int .i64 a0)), .v (.s (.int .i64 a1)), .v (.s (.int .i64 a2))] [.v (.jk), .v (.jk), .v (.jk)] [.v (.s (.bool r))] := by
 unfold qsB.f at h
 show AC Tryz.prog 83 [.v (.s (.int .i64 a0)), .v (.s (.int .i64 a1)), .v (.s (.int .i64 a2))] _ _
 refine run3 Tryz.func83 (by rfl) (by rfl) (by cbv) ⟨by decide, rfl⟩ ?_
 intro ar cm bo sc sa sx ss sl bs sb ln sr ap up rp fr ge le lt nz mm ma sm fl al ci hL F hP hA hT hM hC
 refine Run.seq ?_
 refine Run.region hL hT [] (by cbv) hq0 ?_
 refine Run.seq ?_
 refine Run.region hL hT [] (by cbv) ?_ ?_
 · exact (hq Tt (hq (fun _ => hq0) (hq (fun _ => hq0) (hq (fun g3 => (hq g3 (hq g3 (hq Tt hq0)))) (hq (fun q4 => (hq q4 hq0)) (hq (fun _ => hq0) hq0))))))
 refine Run.ret ?_
 cases h
 refine ⟨_, _, by cbv, ?_, ?_⟩
 · exact LLe.r
 · exact (ALe.v LLe.r ALe.nil)
theorem qiG {qCD : Int} {qKB : List Int} {a1 : Int} {r : Int} (h : qYE.f (Row.mk qCD qKB) a1 = some r) : AC Tryz.prog 105 [.ag [.s (.int .i64 qCD), .im false (rowsOf Int_c qKB)], .v (.s (.int .i64 a1))] [.ag [.jk, .jk], .v (.jk)] [.v (.s (.int .i64 r))] := by
 unfold qYE.f at h
 let qB := rowsOf Int_c
 let qh := @lenI Int
 show AC Tryz.prog 105 [.ag [.s (.int .i64 qCD), .im false (qB qKB)], .v (.s (.int .i64 a1))] _ _
 refine run3 Tryz.func105 (by rfl) (by rfl) (by cbv) ⟨by decide, rfl⟩ ?_
 intro ar cm bo sc sa sx ss sl bs sb ln sr ap up rp fr ge le lt nz mm ma sm fl al ci hL F hP hA hT hM hC
 refine Run.seq ?_
 refine Run.region hL hT [] (by cbv) hq0 ?_
 refine Run.seq ?_
 refine Run.seq ?_
 obtain ⟨r1, h_r1, h⟩ := bnd h
 refine Run.region hL hT [(5, .call [false, false, false] [.v (.jk), .v (.jk), .v (.jk)] [.v (.s (.bool r1))])] (by cbv) ?_ ?_
 · exact (hq Tt (hq Tt (hq (by rw [show ln (qB qKB) = qh qKB from ln_eq Int_c _]; exact (hC (qeB h_r1))) hq0)))
 rw [show ln (qB qKB) = qh qKB from ln_eq Int_c _]
 refine Run.cond (by cbv) (hq0) (fun c2 => ?_) (fun c2 => ?_)
 ·
  have h := if_t c2 h
  refine Run.seq ?_
  refine Run.region hL hT [] (by cbv) hq0 ?_
  refine Run.ret ?_
  cases h
  refine ⟨_, _, by cbv, ?_, ?_⟩
  · exact LLe.r
  · exact (ALe.v LLe.r ALe.nil)
 ·
  have h := if_f c2 h
  refine Run.skip ?_
  refine Run.seq ?_
  obtain ⟨x3, h_x3, h⟩ := bnd h
  refine Run.region hL hT [(3, .el [.s (.int .i64 x3)])] (by cbv) ?_ ?_
  · exact (hq Tt (hq (qM h_x3) (hq (qb (f := Int_c) h_x3) (hq (qx (f := Int_c) h_x3) hq0))))
  refine Run.ret ?_
  cases h
  refine ⟨_, _, by cbv, ?_, ?_⟩
  · exact LLe.r
  · exact (ALe.v LLe.r ALe.nil)
theorem qKF {a0 : Int} {r : Json} (h : qdD.f a0 = some r) : AC Tryz.prog 70 [.v (.s (.int .i64 a0))] [.v (.jk)] [.ag [.s (.int .i64 r.Kind), .s (.int .i64 r.N), .s (.string r.S), .im true (rowsOf qLC r.List_), .im true (rowsOf Str_c r.Names)]] := by
 unfold qdD.f at h
 show AC Tryz.prog 70 [.v (.s (.int .i64 a0))] _ _
 refine run3 Tryz.func70 (by rfl) (by rfl) (by cbv) ⟨by decide, rfl⟩ ?_
 intro ar cm bo sc sa sx ss sl bs sb ln sr ap up rp fr ge le lt nz mm ma sm fl al ci hL F hP hA hT hM hC
 refine Run.seq ?_
 refine Run.region hL hT [] (by cbv) hq0 ?_
 refine Run.seq ?_
 refine Run.region hL hT [] (by cbv) ?_ ?_
 · exact (hq Tt hq0)
 refine Run.ret ?_
 cases h
 refine ⟨_, _, by cbv, ?_, ?_⟩
 · exact LLe.r
 · exact (ALe.ag rfl (LLe.c (LLe.c (LLe.c (LLe.cons LLe.nilI (LLe.cons LLe.nilI LLe.nil))))) ALe.nil)
theorem qJN {qW : Int} {qS : List Cond} {qX : Int} {qi : Bool} {qY : Int} {qe : List Int} {qj : Bool} {qK : Int} {qQ : Int} {qGC : Int} {qv : List Int} {a2 : Int} {r : Json} (h : qyC.f (Query.mk qW qS qX qi qY qe qj qK qQ) (Row.mk qGC qv) a2 = some r) : AC Tryz.prog 68 [.ag [.s (.int .i64 qW), .im false (rowsOf Cond_c qS), .s (.int .i64 qX), .s (.bool qi), .s (.int .i64 qY), .im false (rowsOf Int_c qe), .s (.bool qj), .s (.int .i64 qK), .s (.int .i64 qQ)], .ag [.s (.int .i64 qGC), .im false (rowsOf Int_c qv)], .v (.s (.int .i64 a2))] [.ag [.jk, .jk, .jk, .jk, .jk, .jk, .jk, .jk, .jk], .ag [.jk, .jk], .v (.jk)] [.ag [.s (.int .i64 r.Kind), .s (.int .i64 r.N), .s (.string r.S), .im true (rowsOf qLC r.List_), .im true (rowsOf Str_c r.Names)]] := by
 unfold qyC.f at h
 let qJ := rowsOf Cond_c
 let qB := rowsOf Int_c
 let qQB := rowsOf qLC
 let qR := rowsOf Str_c
 let qh := @lenI Int
 show AC Tryz.prog 68 [.ag [.s (.int .i64 qW), .im false (qJ qS), .s (.int .i64 qX), .s (.bool qi), .s (.int .i64 qY), .im false (qB qe), .s (.bool qj), .s (.int .i64 qK), .s (.int .i64 qQ)], .ag [.s (.int .i64 qGC), .im false (qB qv)], .v (.s (.int .i64 a2))] _ _
 refine run3 Tryz.func68 (by rfl) (by rfl) (by cbv) ⟨by decide, rfl⟩ ?_
 intro ar cm bo sc sa sx ss sl bs sb ln sr ap up rp fr ge le lt nz mm ma sm fl al ci hL F hP hA hT hM hC
 refine Run.seq ?_
 refine Run.region hL hT [] (by cbv) hq0 ?_
 refine Run.seq ?_
 refine Run.region hL hT [] (by cbv) ?_ ?_
 · exact (hq Tt hq0)
 obtain ⟨K6, h_K6, h⟩ := joinE h
 refine Run.join5 K6 (r := r) (fun (y1 : Int) (y2 : Int) (y3 : ByteArray) (y4 : List Json) (y5 : List ByteArray) => ⟨46, 100000, [(2, .t (.s (.int .i64 a2))), (3, .pt 1 0 0), (4, .pt 2 0 0), (6, .pt 3 0 0), (7, .pt 4 0 0)], [(1, .box 38 [.t (.s (.int .i64 qW)), .t (.im false (qJ qS)), .t (.s (.int .i64 qX)), .t (.s (.bool qi)), .t (.s (.int .i64 qY)), .t (.im false (qB qe)), .t (.s (.bool qj)), .t (.s (.int .i64 qK)), .t (.s (.int .i64 qQ))]), (2, .box 91 [.t (.s (.int .i64 qGC)), .t (.im false (qB qv))]), (3, .box 34 [.t (.s (.int .i64 0)), .t (.s (.int .i64 0)), .t (.s (.string ByteArray.empty)), .t (.s (.slice none 0 0)), .t (.s (.slice none 0 0))]), (4, .box 34 [.t (.s (.int .i64 y1)), .t (.s (.int .i64 y2)), .t (.s (.string y3)), .t (.im true (qQB y4)), .t (.im true (qR y5))])]⟩) ?_ ?_
 ·
  skip
  refine Run.seq ?_
  refine Run.region hL hT [] (by cbv) hq0 ?_
  refine Run.block ?_
  refine Run.loop6 (fun (z47 : Int) (z48 : Int) (z49 : ByteArray) (z50 : List Json) (z51 : List ByteArray) (z52 : Int) => ⟨46, 100000, [(2, .t (.s (.int .i64 a2))), (3, .pt 1 0 0), (4, .pt 2 0 0), (6, .pt 3 0 0), (7, .pt 4 0 0), (8, .t (.s (.int .i64 z52)))], [(1, .box 38 [.t (.s (.int .i64 qW)), .t (.im false (qJ qS)), .t (.s (.int .i64 qX)), .t (.s (.bool qi)), .t (.s (.int .i64 qY)), .t (.im false (qB qe)), .t (.s (.bool qj)), .t (.s (.int .i64 qK)), .t (.s (.int .i64 qQ))]), (2, .box 91 [.t (.s (.int .i64 qGC)), .t (.im false (qB qv))]), (3, .box 34 [.t (.s (.int .i64 0)), .t (.s (.int .i64 0)), .t (.s (.string ByteArray.empty)), .t (.s (.slice none 0 0)), .t (.s (.slice none 0 0))]), (4, .box 34 [.t (.s (.int .i64 z47)), .t (.s (.int .i64 z48)), .t (.s (.string z49)), .t (.im true (qQB z50)), .t (.im true (qR z51))])]⟩) (x0 := 5) (x1 := 0) (x2 := ByteArray.empty) (x3 := []) (x4 := []) (x5 := 0) h ((Weak.cellB (l := [.t (.s (.int .i64 5)), .t (.s (.int .i64 0)), .t (.s (.string ByteArray.empty))]) (y := .im true (qQB [])) 4097 (by cbv) LLe.nilI).trans ((Weak.cellB (l := [.t (.s (.int .i64 5)), .t (.s (.int .i64 0)), .t (.s (.string ByteArray.empty)), .t (.im true (qQB []))]) (y := .im true (qR [])) 4097 (by cbv) LLe.nilI).trans (Weak.of _ [(1, 0), (2, 1), (3, 2), (4, 4097)] hA (by cbv) ?_))) (fun _ _ _ _ _ _ => rfl) ?_
  · repeat (first | exact hq0 | refine hq (by first | exact Tt | rfl) ?_)
  ·
   intro k z47 z48 z49 z50 z51 z52 h
   rw [qyC.l0] at h
   refine Run.seq ?_
   refine Run.seq ?_
   refine Run.region hL hT [] (by cbv) ?_ ?_
   · exact (hq Tt (hq Tt hq0))
   rw [show ln (qB qe) = qh qe from ln_eq Int_c _]
   refine Run.cond (by cbv) (hq0) (fun c53 => ?_) (fun c53 => ?_)
   ·
    have h := if_t c53 h
    refine Run.skip ?_
    refine Run.seq ?_
    refine Run.block ?_
    obtain ⟨x54, h_x54, h⟩ := bnd h
    obtain ⟨r55, h_r55, h⟩ := bnd h
    obtain ⟨u56, h_u56, h⟩ := bnd h
    obtain ⟨r57, h_r57, h⟩ := bnd h
    obtain ⟨⟨r58v_Kind, r58v_N, r58v_S, r58v_List_, r58v_Names⟩, h_r58, h⟩ := bnd h
    obtain ⟨⟨r59v_Kind, r59v_N, r59v_S, r59v_List_, r59v_Names⟩, h_r59, h⟩ := bnd h
    refine Run.draw hL hT hM [(4, .el [.s (.int .i64 x54)]), (6, .call [false] [.v (.jk)] [.v (.s (.string r55))]), (12, .el [.s (.int .i64 x54)]), (14, .call [false, false] [.ag [.jk, .jk], .v (.jk)] [.v (.s (.int .i64 r57))]), (15, .call [false] [.v (.jk)] [.ag [.s (.int .i64 r58v_Kind), .s (.int .i64 r58v_N), .s (.string r58v_S), .im true (qQB r58v_List_), .im true (qR r58v_Names)]]), (16, .call [true, false, true] [.ag [.jk, .jk, .jk, .jk, .jk], .v (.jk), .ag [.jk, .jk, .jk, .jk, .jk]] [.ag [.s (.int .i64 r59v_Kind), .s (.int .i64 r59v_N), .s (.string r59v_S), .im true (qQB r59v_List_), .im true (qR r59v_Names)]])] (by cbv) (by cbv) (by cbv) (by cbv) (by cbv) ?_ ?_
    · exact (hq Tt (hq Tt (hq (qM h_x54) (hq (qb (f := Int_c) h_x54) (hq (qx (f := Int_c) h_x54) (hq (hC (qVK h_r55)) (hq (sm_t h_u56) (hq Tt (hq Tt (hq (qM h_x54) (hq (qb (f := Int_c) h_x54) (hq (qx (f := Int_c) h_x54) (hq (hC (qiG h_r57)) (hq (hC (qKF h_r58)) (hq (hC (qYH h_r59)) (hq Tt hq0))))))))))))))))
    refine Run.region hL hT [] (by cbv) ?_ ?_
    · exact (hq Tt hq0)
    refine ⟨r59v_Kind, r59v_N, r59v_S, r59v_List_, r59v_Names, (ar .add .i64 z52 1), h, Weak.of _ [(1, 1), (2, 2), (3, 3), (4, 4)] hA (by cbv) ?_⟩
    repeat (first | exact hq0 | refine hq (by first | exact Tt | rfl) ?_)
   ·
    have h := if_f c53 h
    refine Run.exit ?_
    refine ⟨z47, z48, z49, z50, z51, h, Weak.of _ [(1, 1), (2, 2), (3, 3), (4, 4)] hA (by cbv) ?_⟩
    repeat (first | exact hq0 | refine hq (by first | exact Tt | rfl) ?_)
 ·
  intro y1 y2 y3 y4 y5 h
  rw [h_K6] at h
  refine Run.seq ?_
  obtain ⟨⟨r60v_Kind, r60v_N, r60v_S, r60v_List_, r60v_Names⟩, h_r60, h⟩ := bnd h
  obtain ⟨⟨r61v_Kind, r61v_N, r61v_S, r61v_List_, r61v_Names⟩, h_r61, h⟩ := bnd h
  refine Run.draw hL hT hM [(3, .call [false] [.v (.jk)] [.ag [.s (.int .i64 r60v_Kind), .s (.int .i64 r60v_N), .s (.string r60v_S), .im true (qQB r60v_List_), .im true (qR r60v_Names)]]), (4, .call [true, false, true] [.ag [.jk, .jk, .jk, .jk, .jk], .v (.jk), .ag [.jk, .jk, .jk, .jk, .jk]] [.ag [.s (.int .i64 r61v_Kind), .s (.int .i64 r61v_N), .s (.string r61v_S), .im true (qQB r61v_List_), .im true (qR r61v_Names)]])] (by cbv) (by cbv) (by cbv) (by cbv) (by cbv) ?_ ?_
  · exact (hq Tt (hq Tt (hq (hC (qKF h_r60)) (hq (hC (qYH h_r61)) (hq Tt hq0)))))
  refine Run.seq ?_
  refine Run.seq ?_
  refine Run.region hL hT [] (by cbv) ?_ ?_
  · exact (hq Tt hq0)
  refine Run.cond (by cbv) (hq0) (fun c62 => ?_) (fun c62 => ?_)
  ·
   have h := if_t c62 h
   obtain ⟨⟨r63v_Kind, r63v_N, r63v_S, r63v_List_, r63v_Names⟩, h_r63, h⟩ := bnd h
   obtain ⟨⟨r64v_Kind, r64v_N, r64v_S, r64v_List_, r64v_Names⟩, h_r64, h⟩ := bnd h
   refine Run.draw hL hT hM [(2, .call [false] [.v (.jk)] [.ag [.s (.int .i64 r63v_Kind), .s (.int .i64 r63v_N), .s (.string r63v_S), .im true (qQB r63v_List_), .im true (qR r63v_Names)]]), (3, .call [true, false, true] [.ag [.jk, .jk, .jk, .jk, .jk], .v (.jk), .ag [.jk, .jk, .jk, .jk, .jk]] [.ag [.s (.int .i64 r64v_Kind), .s (.int .i64 r64v_N), .s (.string r64v_S), .im true (qQB r64v_List_), .im true (qR r64v_Names)]])] (by cbv) (by cbv) (by cbv) (by cbv) (by cbv) ?_ ?_
   · exact (hq Tt (hq (hC (qKF h_r63)) (hq (hC (qYH h_r64)) (hq Tt hq0))))
   refine Run.seq ?_
   refine Run.region hL hT [] (by cbv) ?_ ?_
   · exact (hq Tt (hq Tt hq0))
   refine Run.ret ?_
   cases h
   refine ⟨_, _, by cbv, ?_, ?_⟩
   · exact LLe.r
   · exact (ALe.ag rfl LLe.r ALe.nil)
  ·
   have h := if_f c62 h
   refine Run.skip ?_
   refine Run.seq ?_
   refine Run.region hL hT [] (by cbv) ?_ ?_
   · exact (hq Tt (hq Tt hq0))
   refine Run.ret ?_
   cases h
   refine ⟨_, _, by cbv, ?_, ?_⟩
   · exact LLe.r
   · exact (ALe.ag rfl LLe.r ALe.nil)
theorem qWI {a0 : ByteArray} {r : Bool} (h : qlC.f a0 = some r) : AC Tryz.prog 127 [.v (.s (.string a0))] [.v (.jk)] [.v (.s (.bool r))] := by
 unfold qlC.f at h
 show AC Tryz.prog 127 [.v (.s (.string a0))] _ _
 refine run3 Tryz.func127 (by rfl) (by rfl) (by cbv) ⟨by decide, rfl⟩ ?_
 intro ar cm bo sc sa sx ss sl bs sb ln sr ap up rp fr ge le lt nz mm ma sm fl al ci hL F hP hA hT hM hC
 refine Run.seq ?_
 refine Run.region hL hT [] (by cbv) hq0 ?_
 refine Run.seq ?_
 refine Run.seq ?_
 refine Run.region hL hT [] (by cbv) hq0 ?_
 refine Run.block ?_
 refine Run.loop1 (fun (z3 : Int) => ⟨23, 100000, [(0, .t (.s (.string a0))), (3, .t (.s (.int .i64 z3)))], []⟩) (x0 := 0) h (Weak.of _ [] hA (by cbv) ?_) (fun _ => rfl) ?_
 · repeat (first | exact hq0 | refine hq (by first | exact Tt | rfl) ?_)
 ·
  intro k z3 h
  rw [qlC.l0] at h
  refine Run.seq ?_
  refine Run.seq ?_
  refine Run.region hL hT [] (by cbv) ?_ ?_
  · exact (hq Tt hq0)
  refine Run.cond (by cbv) (hq0) (fun c4 => ?_) (fun c4 => ?_)
  ·
   have h := if_t c4 h
   refine Run.skip ?_
   refine Run.seq ?_
   refine Run.block ?_
   refine Run.seq ?_
   obtain ⟨u5, h_u5, h⟩ := bnd h
   obtain ⟨u6, h_u6, h⟩ := bnd h
   refine Run.region hL hT [] (by cbv) ?_ ?_
   · exact (hq (inS_0 h_u5) (hq (inS_1 h_u5) (hq Tt (hq (fun _ => hq0) (hq (fun _ => hq0) (hq (fun g9 => (hq g9 (hq g9 (hq (inS_0 (gd_t h_u6 g9)) (hq (inS_1 (gd_t h_u6 g9)) hq0))))) (hq (fun g10 => (hq g10 (hq Tt hq0))) (hq (fun _ => hq0) (hq (fun q12 => (hq (bo_m q12) hq0)) hq0)))))))))
   refine Run.cond (by cbv) (hq0) (fun c13 => ?_) (fun c13 => ?_)
   ·
    have h := if_t c13 h
    refine Run.seq ?_
    refine Run.region hL hT [] (by cbv) hq0 ?_
    refine Run.ret ?_
    cases h
    refine ⟨_, _, by cbv, ?_, ?_⟩
    · exact LLe.r
    · exact (ALe.v LLe.r ALe.nil)
   ·
    have h := if_f c13 h
    refine Run.skip ?_
    refine Run.region hL hT [] (by cbv) ?_ ?_
    · exact (hq Tt hq0)
    refine ⟨(ar .add .i64 z3 1), h, Weak.of _ [] hA (by cbv) ?_⟩
    repeat (first | exact hq0 | refine hq (by first | exact Tt | rfl) ?_)
  ·
   have h := if_f c4 h
   refine Run.exit ?_
   refine Run.seq ?_
   refine Run.region hL hT [] (by cbv) ?_ ?_
   · exact (hq Tt hq0)
   refine Run.ret ?_
   cases h
   refine ⟨_, _, by cbv, ?_, ?_⟩
   · exact LLe.r
   · exact (ALe.v LLe.r ALe.nil)
theorem qIM {qU : Int} {a0v_N : Int} {a0v_S : ByteArray} {qE : List Json} {qH : List ByteArray} {r : Bool} (h : qRC.f (Json.mk qU a0v_N a0v_S qE qH) = some r) : AC Tryz.prog 128 [.ag [.s (.int .i64 qU), .s (.int .i64 a0v_N), .s (.string a0v_S), .im false (rowsOf qu qE), .im false (rowsOf Str_c qH)]] [.ag [.jk, .jk, .jk, .jk, .jk]] [.v (.s (.bool r))] := by
 unfold qRC.f at h
 let qr := rowsOf qu
 let qR := rowsOf Str_c
 let qEB := @lenI Json
 let qkB := @lenI ByteArray
 show AC Tryz.prog 128 [.ag [.s (.int .i64 qU), .s (.int .i64 a0v_N), .s (.string a0v_S), .im false (qr qE), .im false (qR qH)]] _ _
 refine run3 Tryz.func128 (by rfl) (by rfl) (by cbv) ⟨by decide, rfl⟩ ?_
 intro ar cm bo sc sa sx ss sl bs sb ln sr ap up rp fr ge le lt nz mm ma sm fl al ci hL F hP hA hT hM hC
 refine Run.seq ?_
 refine Run.region hL hT [] (by cbv) hq0 ?_
 refine Run.seq ?_
 refine Run.seq ?_
 refine Run.region hL hT [] (by cbv) ?_ ?_
 · exact (hq Tt (hq Tt hq0))
 refine Run.cond (by cbv) (hq0) (fun c1 => ?_) (fun c1 => ?_)
 ·
  have h := if_t c1 h
  refine Run.seq ?_
  refine Run.region hL hT [] (by cbv) ?_ ?_
  · exact (hq Tt (hq Tt hq0))
  rw [show ln (qR qH) = qkB qH from ln_eq Str_c _]
  refine Run.ret ?_
  cases h
  refine ⟨_, _, by cbv, ?_, ?_⟩
  · exact LLe.r
  · exact (ALe.v LLe.r ALe.nil)
 ·
  have h := if_f c1 h
  refine Run.skip ?_
  refine Run.seq ?_
  refine Run.seq ?_
  refine Run.region hL hT [] (by cbv) hq0 ?_
  refine Run.block ?_
  refine Run.loop1 (fun (z8 : Int) => ⟨50, 100000, [(1, .pt 1 0 0), (3, .t (.s (.int .i64 z8)))], [(1, .box 34 [.t (.s (.int .i64 qU)), .t (.s (.int .i64 a0v_N)), .t (.s (.string a0v_S)), .t (.im false (qr qE)), .t (.im false (qR qH))])]⟩) (x0 := 0) h (Weak.of _ [(1, 0)] hA (by cbv) ?_) (fun _ => rfl) ?_
  · repeat (first | exact hq0 | refine hq (by first | exact Tt | rfl) ?_)
  ·
   intro k z8 h
   rw [qRC.l0] at h
   refine Run.seq ?_
   refine Run.seq ?_
   refine Run.region hL hT [] (by cbv) ?_ ?_
   · exact (hq Tt (hq Tt hq0))
   rw [show ln (qR qH) = qkB qH from ln_eq Str_c _]
   refine Run.cond (by cbv) (hq0) (fun c9 => ?_) (fun c9 => ?_)
   ·
    have h := if_t c9 h
    refine Run.skip ?_
    refine Run.seq ?_
    refine Run.block ?_
    refine Run.seq ?_
    obtain ⟨x10, h_x10, h⟩ := bnd h
    obtain ⟨r11, h_r11, h⟩ := bnd h
    obtain ⟨x12, h_x12, h⟩ := bnd h
    refine Run.draw hL hT hM [(3, .el [.s (.string x10)]), (5, .call [false] [.v (.jk)] [.v (.s (.bool r11))]), (15, .el [.s (.string x12)]), (20, .el [.s (.string x10)])] (by cbv) (by cbv) (by cbv) (by cbv) (by cbv) ?_ ?_
    · exact (hq Tt (hq (qM h_x10) (hq (qb (f := Str_c) h_x10) (hq (qx (f := Str_c) h_x10) (hq (hC (qWI h_r11)) (hq (fun _ => hq0) (hq (fun g14 => (hq g14 (hq Tt hq0))) (hq (fun g15 => (hq g15 hq0)) (hq (fun _ => hq0) (hq (fun g17 => (hq g17 (hq Tt hq0))) (hq (fun _ => hq0) (hq (fun g19 => (hq g19 (hq Tt hq0))) (hq (fun g20 => (hq g20 (hq g20 (hq (qM (gd_t h_x12 g20)) (hq (qb (f := Str_c) (gd_t h_x12 g20)) (hq (qx (f := Str_c) (gd_t h_x12 g20)) hq0)))))) (hq (fun g21 => (hq g21 hq0)) (hq (fun _ => hq0) (hq (fun g23 => (hq g23 (hq Tt hq0))) (hq (fun _ => hq0) (hq (fun g25 => (hq g25 (hq g25 (hq (qM h_x10) (hq (qb (f := Str_c) h_x10) (hq (qx (f := Str_c) h_x10) hq0)))))) (hq (fun g26 => (hq g26 hq0)) (hq (fun g27 => (hq g27 (hq g27 hq0))) (hq (fun g28 => (hq g28 (hq (fun q29 => (hq (bo_a g28 q29) hq0)) (hq (fun _ => hq0) hq0)))) (hq (fun _ => hq0) (hq (fun q32 => (hq (bo_m q32) hq0)) hq0)))))))))))))))))))))))
    refine Run.cond (by cbv) (hq0) (fun c33 => ?_) (fun c33 => ?_)
    ·
     have h := if_t c33 h
     refine Run.seq ?_
     refine Run.region hL hT [] (by cbv) hq0 ?_
     refine Run.ret ?_
     cases h
     refine ⟨_, _, by cbv, ?_, ?_⟩
     · exact LLe.r
     · exact (ALe.v LLe.r ALe.nil)
    ·
     have h := if_f c33 h
     refine Run.skip ?_
     refine Run.region hL hT [] (by cbv) ?_ ?_
     · exact (hq Tt hq0)
     refine ⟨(ar .add .i64 z8 1), h, Weak.of _ [(1, 1)] hA (by cbv) ?_⟩
     repeat (first | exact hq0 | refine hq (by first | exact Tt | rfl) ?_)
   ·
    have h := if_f c9 h
    refine Run.exit ?_
    refine Run.seq ?_
    refine Run.region hL hT [] (by cbv) ?_ ?_
    · exact (hq Tt (hq Tt (hq Tt hq0)))
    rw [show ln (qr qE) = qEB qE from ln_eq qu _]
    rw [show ln (qR qH) = qkB qH from ln_eq Str_c _]
    refine Run.ret ?_
    cases h
    refine ⟨_, _, by cbv, ?_, ?_⟩
    · exact LLe.r
    · exact (ALe.v LLe.r ALe.nil)
theorem qWK (self : Json → Int → Option Int) (hself : ∀ {qU : Int} {a0v_N : Int} {a0v_S : ByteArray} {qE : List Json} {qH : List ByteArray} {a1 : Int} {r : Int} (h : self (Json.mk qU a0v_N a0v_S qE qH) a1 = some r), AC Tryz.prog 120 [.ag [.s (.int .i64 qU), .s (.int .i64 a0v_N), .s (.string a0v_S), .im false (rowsOf qu qE), .im false (rowsOf Str_c qH)], .v (.s (.int .i64 a1))] [.ag [.jk, .jk, .jk, .jk, .jk], .v (.jk)] [.v (.s (.int .i64 r))]) {qU : Int} {a0v_N : Int} {a0v_S : ByteArray} {qE : List Json} {qH : List ByteArray} {a1 : Int} {r : Int} (h : qPB.b self (Json.mk qU a0v_N a0v_S qE qH) a1 = some r) : AC Tryz.prog 120 [.ag [.s (.int .i64 qU), .s (.int .i64 a0v_N), .s (.string a0v_S), .im false (rowsOf qu qE), .im false (rowsOf Str_c qH)], .v (.s (.int .i64 a1))] [.ag [.jk, .jk, .jk, .jk, .jk], .v (.jk)] [.v (.s (.int .i64 r))] := by
 unfold qPB.b at h
 let qr := rowsOf qu
 let qR := rowsOf Str_c
 let qEB := @lenI Json
 show AC Tryz.prog 120 [.ag [.s (.int .i64 qU), .s (.int .i64 a0v_N), .s (.string a0v_S), .im false (qr qE), .im false (qR qH)], .v (.s (.int .i64 a1))] _ _
 refine run3 Tryz.func120 (by rfl) (by rfl) (by cbv) ⟨by decide, rfl⟩ ?_
 intro ar cm bo sc sa sx ss sl bs sb ln sr ap up rp fr ge le lt nz mm ma sm fl al ci hL F hP hA hT hM hC
 refine Run.seq ?_
 refine Run.region hL hT [] (by cbv) hq0 ?_
 refine Run.seq ?_
 refine Run.region hL hT [] (by cbv) hq0 ?_
 refine Run.seq ?_
 refine Run.seq ?_
 refine Run.region hL hT [] (by cbv) ?_ ?_
 · exact (hq Tt hq0)
 refine Run.cond (by cbv) (hq0) (fun c1 => ?_) (fun c1 => ?_)
 ·
  have h := if_t c1 h
  refine Run.seq ?_
  refine Run.region hL hT [] (by cbv) hq0 ?_
  refine Run.ret ?_
  cases h
  refine ⟨_, _, by cbv, ?_, ?_⟩
  · exact LLe.r
  · exact (ALe.v LLe.r ALe.nil)
 ·
  have h := if_f c1 h
  refine Run.skip ?_
  refine Run.seq ?_
  refine Run.region hL hT [] (by cbv) hq0 ?_
  obtain ⟨K3, h_K3, h⟩ := joinE h
  refine Run.join1 K3 (r := r) (fun (y2 : Int) => ⟨106, 100000, [(2, .pt 1 0 0), (5, .t (.s (.int .i64 401))), (6, .t (.s (.int .i64 y2)))], [(1, .box 34 [.t (.s (.int .i64 qU)), .t (.s (.int .i64 a0v_N)), .t (.s (.string a0v_S)), .t (.im false (qr qE)), .t (.im false (qR qH))])]⟩) ?_ ?_
  ·
   skip
   refine Run.seq ?_
   refine Run.region hL hT [] (by cbv) ?_ ?_
   · exact (hq Tt hq0)
   refine Run.block ?_
   refine Run.seq ?_
   refine Run.region hL hT [] (by cbv) ?_ ?_
   · exact (hq Tt hq0)
   refine Run.cond (by cbv) (hq0) (fun c4 => ?_) (fun c4 => ?_)
   ·
    have h := if_t c4 h
    refine Run.seq ?_
    refine Run.region hL hT [] (by cbv) ?_ ?_
    · exact (hq Tt (hq Tt hq0))
    refine Run.cond (by cbv) (hq0) (fun c5 => ?_) (fun c5 => ?_)
    ·
     have h := if_t c5 h
     refine Run.seq ?_
     refine Run.region hL hT [] (by cbv) hq0 ?_
     refine Run.ret ?_
     cases h
     refine ⟨_, _, by cbv, ?_, ?_⟩
     · exact LLe.r
     · exact (ALe.v LLe.r ALe.nil)
    ·
     have h := if_f c5 h
     refine Run.skip ?_
     refine ⟨1, h, Weak.of _ [(1, 0)] hA (by cbv) ?_⟩
     repeat (first | exact hq0 | refine hq (by first | exact Tt | rfl) ?_)
   ·
    have h := if_f c4 h
    refine Run.seq ?_
    refine Run.region hL hT [] (by cbv) ?_ ?_
    · exact (hq Tt hq0)
    refine Run.cond (by cbv) (hq0) (fun c6 => ?_) (fun c6 => ?_)
    ·
     have h := if_t c6 h
     refine Run.seq ?_
     obtain ⟨r7, h_r7, h⟩ := bnd h
     refine Run.region hL hT [(2, .call [false, false, false] [.v (.jk), .v (.jk), .v (.jk)] [.v (.s (.bool r7))])] (by cbv) ?_ ?_
     · exact (hq Tt (hq (hC (qeB h_r7)) hq0))
     refine Run.cond (by cbv) (hq0) (fun c8 => ?_) (fun c8 => ?_)
     ·
      have h := if_t c8 h
      refine Run.seq ?_
      refine Run.region hL hT [] (by cbv) hq0 ?_
      refine Run.ret ?_
      cases h
      refine ⟨_, _, by cbv, ?_, ?_⟩
      · exact LLe.r
      · exact (ALe.v LLe.r ALe.nil)
     ·
      have h := if_f c8 h
      refine Run.skip ?_
      refine ⟨1, h, Weak.of _ [(1, 0)] hA (by cbv) ?_⟩
      repeat (first | exact hq0 | refine hq (by first | exact Tt | rfl) ?_)
    ·
     have h := if_f c6 h
     refine Run.seq ?_
     refine Run.region hL hT [] (by cbv) ?_ ?_
     · exact (hq Tt hq0)
     refine Run.cond (by cbv) (hq0) (fun c9 => ?_) (fun c9 => ?_)
     ·
      have h := if_t c9 h
      refine Run.seq ?_
      obtain ⟨r10, h_r10, h⟩ := bnd h
      refine Run.region hL hT [(2, .call [false, false, false] [.v (.jk), .v (.jk), .v (.jk)] [.v (.s (.bool r10))])] (by cbv) ?_ ?_
      · exact (hq Tt (hq (hC (qeB h_r10)) hq0))
      refine Run.cond (by cbv) (hq0) (fun c11 => ?_) (fun c11 => ?_)
      ·
       have h := if_t c11 h
       refine Run.seq ?_
       refine Run.region hL hT [] (by cbv) hq0 ?_
       refine Run.ret ?_
       cases h
       refine ⟨_, _, by cbv, ?_, ?_⟩
       · exact LLe.r
       · exact (ALe.v LLe.r ALe.nil)
      ·
       have h := if_f c11 h
       refine Run.skip ?_
       refine ⟨1, h, Weak.of _ [(1, 0)] hA (by cbv) ?_⟩
       repeat (first | exact hq0 | refine hq (by first | exact Tt | rfl) ?_)
     ·
      have h := if_f c9 h
      refine Run.seq ?_
      refine Run.region hL hT [] (by cbv) ?_ ?_
      · exact (hq Tt hq0)
      refine Run.cond (by cbv) (hq0) (fun c12 => ?_) (fun c12 => ?_)
      ·
       have h := if_t c12 h
       refine Run.seq ?_
       obtain ⟨r13, h_r13, h⟩ := bnd h
       refine Run.region hL hT [(2, .call [false] [.v (.jk)] [.v (.s (.bool r13))])] (by cbv) ?_ ?_
       · exact (hq Tt (hq (hC (qWI h_r13)) hq0))
       refine Run.cond (by cbv) (hq0) (fun c14 => ?_) (fun c14 => ?_)
       ·
        have h := if_t c14 h
        refine Run.seq ?_
        refine Run.region hL hT [] (by cbv) hq0 ?_
        refine Run.ret ?_
        cases h
        refine ⟨_, _, by cbv, ?_, ?_⟩
        · exact LLe.r
        · exact (ALe.v LLe.r ALe.nil)
       ·
        have h := if_f c14 h
        refine Run.skip ?_
        refine ⟨1, h, Weak.of _ [(1, 0)] hA (by cbv) ?_⟩
        repeat (first | exact hq0 | refine hq (by first | exact Tt | rfl) ?_)
      ·
       have h := if_f c12 h
       obtain ⟨K16, h_K16, h⟩ := joinE h
       refine Run.join1 K16 (r := r) (fun (y15 : Bool) => ⟨106, 100000, [(1, .t (.s (.int .i64 a1))), (2, .pt 1 0 0), (5, .t (.s (.int .i64 401))), (6, .t (.s (.int .i64 1))), (41, .t (.s (.bool y15)))], [(1, .box 34 [.t (.s (.int .i64 qU)), .t (.s (.int .i64 a0v_N)), .t (.s (.string a0v_S)), .t (.im false (qr qE)), .t (.im false (qR qH))])]⟩) ?_ ?_
       ·
        skip
        refine Run.seq ?_
        refine Run.region hL hT [] (by cbv) ?_ ?_
        · exact (hq Tt hq0)
        refine Run.cond (by cbv) (hq0) (fun c17 => ?_) (fun c17 => ?_)
        ·
         have h := if_t c17 h
         refine Run.skip ?_
         refine ⟨(cm .eql qU 4), h, Weak.of _ [(1, 0)] hA (by cbv) ?_⟩
         repeat (first | exact hq0 | refine hq (by first | exact Tt | rfl) ?_)
        ·
         have h := if_f c17 h
         refine Run.region hL hT [] (by cbv) ?_ ?_
         · exact (hq Tt hq0)
         refine ⟨(cm .eql qU 5), h, Weak.of _ [(1, 0)] hA (by cbv) ?_⟩
         repeat (first | exact hq0 | refine hq (by first | exact Tt | rfl) ?_)
       ·
        intro y15 h
        rw [h_K16] at h
        refine Run.cond (by cbv) (hq0) (fun c18 => ?_) (fun c18 => ?_)
        ·
         have h := if_t c18 h
         refine Run.seq ?_
         refine Run.region hL hT [] (by cbv) hq0 ?_
         refine Run.block ?_
         refine Run.loop2 (fun (z28 : Int) (z29 : Int) => ⟨106, 100000, [(1, .t (.s (.int .i64 a1))), (2, .pt 1 0 0), (5, .t (.s (.int .i64 401))), (6, .t (.s (.int .i64 z28))), (7, .t (.s (.int .i64 z29)))], [(1, .box 34 [.t (.s (.int .i64 qU)), .t (.s (.int .i64 a0v_N)), .t (.s (.string a0v_S)), .t (.im false (qr qE)), .t (.im false (qR qH))])]⟩) (x0 := 1) (x1 := 0) h (Weak.of _ [(1, 1)] hA (by cbv) ?_) (fun _ _ => rfl) ?_
         · repeat (first | exact hq0 | refine hq (by first | exact Tt | rfl) ?_)
         ·
          intro k z28 z29 h
          rw [qPB.l0] at h
          refine Run.seq ?_
          refine Run.seq ?_
          refine Run.region hL hT [] (by cbv) ?_ ?_
          · exact (hq Tt (hq Tt (hq (fun _ => hq0) (hq (fun g31 => (by have g31C := g31; rw [show ln (qr qE) = qEB qE from ln_eq qu _] at g31C; exact (hq g31 (hq Tt hq0)))) (hq (fun q32 => (by have q32C := q32; rw [show ln (qr qE) = qEB qE from ln_eq qu _] at q32C; exact (hq q32 hq0))) (hq (fun _ => hq0) hq0))))))
          rw [show ln (qr qE) = qEB qE from ln_eq qu _]
          refine Run.cond (by cbv) (hq0) (fun c34 => ?_) (fun c34 => ?_)
          ·
           have h := if_t c34 h
           refine Run.skip ?_
           refine Run.seq ?_
           refine Run.block ?_
           obtain ⟨⟨qmU, qbX, qcX, qMT, qNT⟩, h_x35, h⟩ := bnd h
           obtain ⟨r36, h_r36, h⟩ := bnd h
           refine Run.region hL hT [(4, .el [.s (.int .i64 qmU), .s (.int .i64 qbX), .s (.string qcX), .im false (qr qMT), .im false (qR qNT)]), (8, .call [false, false] [.ag [.jk, .jk, .jk, .jk, .jk], .v (.jk)] [.v (.s (.int .i64 r36))])] (by cbv) ?_ ?_
           · exact (hq Tt (hq (qM h_x35) (hq (qb (f := qu) h_x35) (hq (qAF qeD h_x35) (hq Tt (hq (hC (hself h_r36)) (hq Tt hq0)))))))
           refine Run.region hL hT [] (by cbv) ?_ ?_
           · exact (hq Tt hq0)
           refine ⟨(ar .add .i64 z28 r36), (ar .add .i64 z29 1), h, Weak.of _ [(1, 1)] hA (by cbv) ?_⟩
           repeat (first | exact hq0 | refine hq (by first | exact Tt | rfl) ?_)
          ·
           have h := if_f c34 h
           refine Run.exit ?_
           refine ⟨z28, h, Weak.of _ [(1, 1)] hA (by cbv) ?_⟩
           repeat (first | exact hq0 | refine hq (by first | exact Tt | rfl) ?_)
        ·
         have h := if_f c18 h
         refine Run.seq ?_
         refine Run.region hL hT [] (by cbv) hq0 ?_
         refine Run.ret ?_
         cases h
         refine ⟨_, _, by cbv, ?_, ?_⟩
         · exact LLe.r
         · exact (ALe.v LLe.r ALe.nil)
  ·
   intro y2 h
   rw [h_K3] at h
   refine Run.seq ?_
   refine Run.seq ?_
   obtain ⟨r37, h_r37, h⟩ := bnd h
   refine Run.region hL hT [(36, .call [false] [.ag [.jk, .jk, .jk, .jk, .jk]] [.v (.s (.bool r37))])] (by cbv) ?_ ?_
   · exact (hq Tt (hq Tt (hq (fun _ => hq0) (hq (fun g39 => (hq g39 (hq Tt hq0))) (hq (fun g40 => (hq g40 hq0)) (hq (fun q41 => (hq q41 hq0)) (hq (fun _ => hq0) (hq (fun _ => hq0) (hq (fun g44 => (hq g44 (hq Tt hq0))) (hq (fun g45 => (hq g45 (hq Tt hq0))) (hq (fun g46 => (hq g46 hq0)) (hq (fun _ => hq0) (hq (fun g48 => (hq g48 (hq Tt hq0))) (hq (fun g49 => (hq g49 (hq Tt hq0))) (hq (fun g50 => (hq g50 (hq (fun _ => hq0) (hq (fun q52 => (hq (bo_a g50 (bo_m q52)) hq0)) hq0)))) (hq (fun g53 => (hq g53 hq0)) (hq (fun _ => hq0) (hq (fun g55 => (hq g55 (hq Tt hq0))) (hq (fun g56 => (hq g56 (hq Tt hq0))) (hq (fun g57 => (hq g57 (hq (fun q58 => (hq (bo_a g57 q58) hq0)) (hq (fun _ => hq0) hq0)))) (hq (fun _ => hq0) (hq (fun q61 => (hq (bo_m q61) hq0)) (hq (fun _ => hq0) (hq (fun g63 => (hq g63 (hq Tt hq0))) (hq (fun g64 => (hq g64 (hq Tt hq0))) (hq (fun g65 => (hq g65 hq0)) (hq (fun _ => hq0) (hq (fun g67 => (hq g67 (hq Tt hq0))) (hq (fun g68 => (hq g68 hq0)) (hq (fun g69 => (hq g69 (hq Tt hq0))) (hq (fun g70 => (hq g70 (hq (fun q71 => (hq (bo_a g70 q71) hq0)) (hq (fun _ => hq0) hq0)))) (hq (fun _ => hq0) (hq (fun q74 => (hq (bo_m q74) hq0)) (hq (fun g75 => (by have g75C := g75; rw [show ln (qr qE) = qEB qE from ln_eq qu _] at g75C; exact (hq Tt hq0))) (hq (fun g76 => (by have g76C := g76; rw [show ln (qr qE) = qEB qE from ln_eq qu _] at g76C; exact (hq g76 (hq (hC (qIM (gd_t h_r37 g76C))) hq0)))) (hq (fun g77 => (by have g77C := g77; rw [show ln (qr qE) = qEB qE from ln_eq qu _] at g77C; exact (hq g77 hq0))) (hq (fun _ => hq0) (hq (fun q79 => (by have q79C := q79; rw [show ln (qr qE) = qEB qE from ln_eq qu _] at q79C; exact (hq (bo_m q79) hq0))) hq0))))))))))))))))))))))))))))))))))))))
   rw [show ln (qr qE) = qEB qE from ln_eq qu _]
   refine Run.cond (by cbv) (hq0) (fun c80 => ?_) (fun c80 => ?_)
   ·
    have h := if_t c80 h
    refine Run.seq ?_
    refine Run.region hL hT [] (by cbv) hq0 ?_
    refine Run.ret ?_
    cases h
    refine ⟨_, _, by cbv, ?_, ?_⟩
    · exact LLe.r
    · exact (ALe.v LLe.r ALe.nil)
   ·
    have h := if_f c80 h
    refine Run.skip ?_
    refine Run.seq ?_
    refine Run.region hL hT [] (by cbv) hq0 ?_
    refine Run.ret ?_
    cases h
    refine ⟨_, _, by cbv, ?_, ?_⟩
    · exact LLe.r
    · exact (ALe.v LLe.r ALe.nil)
theorem qeH : ∀ (k : Nat) {qU : Int} {a0v_N : Int} {a0v_S : ByteArray} {qE : List Json} {qH : List ByteArray} {a1 : Int} {r : Int} (h : qPB.g k (Json.mk qU a0v_N a0v_S qE qH) a1 = some r), AC Tryz.prog 120 [.ag [.s (.int .i64 qU), .s (.int .i64 a0v_N), .s (.string a0v_S), .im false (rowsOf qu qE), .im false (rowsOf Str_c qH)], .v (.s (.int .i64 a1))] [.ag [.jk, .jk, .jk, .jk, .jk], .v (.jk)] [.v (.s (.int .i64 r))]
 | 0 => fun h => by cases h
 | k + 1 => fun h => qWK (qPB.g k) (qeH k) h
theorem qJM {qU : Int} {a0v_N : Int} {a0v_S : ByteArray} {qE : List Json} {qH : List ByteArray} {a1 : Int} {r : Int} (h : qPB.f (Json.mk qU a0v_N a0v_S qE qH) a1 = some r) : AC Tryz.prog 120 [.ag [.s (.int .i64 qU), .s (.int .i64 a0v_N), .s (.string a0v_S), .im false (rowsOf qu qE), .im false (rowsOf Str_c qH)], .v (.s (.int .i64 a1))] [.ag [.jk, .jk, .jk, .jk, .jk], .v (.jk)] [.v (.s (.int .i64 r))] := qeH 20 h
theorem qKN {qU : Int} {a0v_N : Int} {a0v_S : ByteArray} {qE : List Json} {qH : List ByteArray} {r : Bool} (h : qrF.f (Json.mk qU a0v_N a0v_S qE qH) = some r) : AC Tryz.prog 106 [.ag [.s (.int .i64 qU), .s (.int .i64 a0v_N), .s (.string a0v_S), .im false (rowsOf qu qE), .im false (rowsOf Str_c qH)]] [.ag [.jk, .jk, .jk, .jk, .jk]] [.v (.s (.bool r))] := by
 unfold qrF.f at h
 let qr := rowsOf qu
 let qR := rowsOf Str_c
 show AC Tryz.prog 106 [.ag [.s (.int .i64 qU), .s (.int .i64 a0v_N), .s (.string a0v_S), .im false (qr qE), .im false (qR qH)]] _ _
 refine run3 Tryz.func106 (by rfl) (by rfl) (by cbv) ⟨by decide, rfl⟩ ?_
 intro ar cm bo sc sa sx ss sl bs sb ln sr ap up rp fr ge le lt nz mm ma sm fl al ci hL F hP hA hT hM hC
 refine Run.seq ?_
 refine Run.region hL hT [] (by cbv) hq0 ?_
 refine Run.seq ?_
 obtain ⟨r1, h_r1, h⟩ := bnd h
 refine Run.region hL hT [(1, .call [false, false] [.ag [.jk, .jk, .jk, .jk, .jk], .v (.jk)] [.v (.s (.int .i64 r1))])] (by cbv) ?_ ?_
 · exact (hq Tt (hq (hC (qJM h_r1)) (hq Tt hq0)))
 refine Run.ret ?_
 cases h
 refine ⟨_, _, by cbv, ?_, ?_⟩
 · exact LLe.r
 · exact (ALe.v LLe.r ALe.nil)
theorem qkI {qU : Int} {a0v_N : Int} {a0v_S : ByteArray} {qE : List Json} {qH : List ByteArray} {r : Json} (h : qhD.f (Json.mk qU a0v_N a0v_S qE qH) = some r) : AC Tryz.prog 69 [.ag [.s (.int .i64 qU), .s (.int .i64 a0v_N), .s (.string a0v_S), .ow 34 (rowsOf qLC qE), .ow 9 (rowsOf Str_c qH)]] [.ag [.jk, .jk, .jk, .jk, .jk]] [.ag [.s (.int .i64 r.Kind), .s (.int .i64 r.N), .s (.string r.S), .im true (rowsOf qLC r.List_), .im true (rowsOf Str_c r.Names)]] := by
 unfold qhD.f at h
 let qr := rowsOf qu
 let qQB := rowsOf qLC
 let qR := rowsOf Str_c
 show AC Tryz.prog 69 [.ag [.s (.int .i64 qU), .s (.int .i64 a0v_N), .s (.string a0v_S), .ow 34 (qQB qE), .ow 9 (qR qH)]] _ _
 refine run3 Tryz.func69 (by rfl) (by rfl) (by cbv) ⟨by decide, rfl⟩ ?_
 intro ar cm bo sc sa sx ss sl bs sb ln sr ap up rp fr ge le lt nz mm ma sm fl al ci hL F hP hA hT hM hC
 refine Run.seq ?_
 refine Run.region hL hT [] (by cbv) hq0 ?_
 refine Run.seq ?_
 refine Run.seq ?_
 obtain ⟨r1, h_r1, h⟩ := bnd h
 refine Run.region hL hT [(1, .call [false] [.ag [.jk, .jk, .jk, .jk, .jk]] [.v (.s (.bool r1))])] (by cbv) ?_ ?_
 · exact (hq Tt (hq (hC (AC.args (qKN h_r1) (ALe.ag rfl (LLe.c (LLe.c (LLe.c (LLe.cons (LLe.im (qaQ _)) (LLe.cons (LLe.im (RLe.eq (qmB qEF _))) LLe.nil))))) ALe.nil))) hq0))
 refine Run.cond (by cbv) (hq0) (fun c2 => ?_) (fun c2 => ?_)
 ·
  have h := if_t c2 h
  refine Run.seq ?_
  refine Run.region hL hT [] (by cbv) ?_ ?_
  · exact (hq Tt hq0)
  refine Run.ret ?_
  cases h
  refine ⟨_, _, by cbv, ?_, ?_⟩
  · exact (LLe.c (LLe.c (LLe.c (LLe.cons LLe.jk (LLe.cons LLe.jk LLe.nil)))))
  · exact (ALe.ag rfl (LLe.c (LLe.c (LLe.c (LLe.cons LLe.nilI (LLe.cons LLe.nilI LLe.nil))))) ALe.nil)
 ·
  have h := if_f c2 h
  refine Run.skip ?_
  refine Run.seq ?_
  refine Run.region hL hT [] (by cbv) ?_ ?_
  · exact (hq Tt (hq Tt hq0))
  refine Run.weak ?_ (Weak.keepL (rows := qQB qE) 0 (by cbv) (qQB qE) (qKJ _))
  refine Run.weak ?_ (Weak.keep (rows := qR qH) 1 (by cbv) (qR qH) (qmB qEF _))
  refine Run.ret ?_
  cases h
  refine ⟨_, _, by cbv, ?_, ?_⟩
  · exact LLe.r
  · exact (ALe.ag rfl LLe.r ALe.nil)
theorem qPP {qW : Int} {qS : List Cond} {qX : Int} {qi : Bool} {qY : Int} {qe : List Int} {qj : Bool} {qK : Int} {qQ : Int} {a1 : List Row} {a2 : List Int} {r : Json} (h : qvC.f (Query.mk qW qS qX qi qY qe qj qK qQ) a1 a2 = some r) : AC Tryz.prog 26 [.ag [.s (.int .i64 qW), .im false (rowsOf Cond_c qS), .s (.int .i64 qX), .s (.bool qi), .s (.int .i64 qY), .im false (rowsOf Int_c qe), .s (.bool qj), .s (.int .i64 qK), .s (.int .i64 qQ)], .v (.im false (rowsOf Row_i a1)), .v (.im false (rowsOf Int_c a2))] [.ag [.jk, .jk, .jk, .jk, .jk, .jk, .jk, .jk, .jk], .v (.jk), .v (.jk)] [.ag [.s (.int .i64 r.Kind), .s (.int .i64 r.N), .s (.string r.S), .im true (rowsOf qLC r.List_), .im true (rowsOf Str_c r.Names)]] := by
 unfold qvC.f at h
 let qJ := rowsOf Cond_c
 let qB := rowsOf Int_c
 let qQB := rowsOf qLC
 let qOB := rowsOf qdB
 let qMB := rowsOf Row_i
 let qR := rowsOf Str_c
 let qh := @lenI Int
 let qDB := @lenI Row
 show AC Tryz.prog 26 [.ag [.s (.int .i64 qW), .im false (qJ qS), .s (.int .i64 qX), .s (.bool qi), .s (.int .i64 qY), .im false (qB qe), .s (.bool qj), .s (.int .i64 qK), .s (.int .i64 qQ)], .v (.im false (qMB a1)), .v (.im false (qB a2))] _ _
 refine run3 Tryz.func26 (by rfl) (by rfl) (by cbv) ⟨by decide, rfl⟩ ?_
 intro ar cm bo sc sa sx ss sl bs sb ln sr ap up rp fr ge le lt nz mm ma sm fl al ci hL F hP hA hT hM hC
 refine Run.seq ?_
 refine Run.region hL hT [] (by cbv) hq0 ?_
 refine Run.seq ?_
 refine Run.region hL hT [] (by cbv) ?_ ?_
 · exact (hq Tt hq0)
 obtain ⟨K2, h_K2, h⟩ := joinE h
 refine Run.join1 K2 (r := r) (fun (y1 : List Json) => ⟨47, 100000, [(1, .t (.im false (qMB a1))), (6, .pt 1 0 0), (7, .pt 2 0 0)], [(1, .box 34 [.t (.s (.int .i64 0)), .t (.s (.int .i64 0)), .t (.s (.string ByteArray.empty)), .t (.s (.slice none 0 0)), .t (.s (.slice none 0 0))]), (2, .box 34 [.t (.s (.int .i64 4)), .t (.s (.int .i64 0)), .t (.s (.string ByteArray.empty)), .rf 3, .t (.s (.slice none 0 0))]), (3, .row 0 34 5 (qQB y1))]⟩) ?_ ?_
 ·
  skip
  refine Run.seq ?_
  refine Run.region hL hT [] (by cbv) hq0 ?_
  refine Run.block ?_
  refine Run.loop2 (fun (z40 : List Json) (z41 : Int) => ⟨47, 100000, [(1, .t (.im false (qMB a1))), (2, .t (.im false (qB a2))), (3, .pt 1 0 0), (6, .pt 2 0 0), (7, .pt 3 0 0), (8, .t (.s (.int .i64 z41)))], [(1, .box 38 [.t (.s (.int .i64 qW)), .t (.im false (qJ qS)), .t (.s (.int .i64 qX)), .t (.s (.bool qi)), .t (.s (.int .i64 qY)), .t (.im false (qB qe)), .t (.s (.bool qj)), .t (.s (.int .i64 qK)), .t (.s (.int .i64 qQ))]), (2, .box 34 [.t (.s (.int .i64 0)), .t (.s (.int .i64 0)), .t (.s (.string ByteArray.empty)), .t (.s (.slice none 0 0)), .t (.s (.slice none 0 0))]), (3, .box 34 [.t (.s (.int .i64 4)), .t (.s (.int .i64 0)), .t (.s (.string ByteArray.empty)), .rf 4, .t (.s (.slice none 0 0))]), (4, .row 0 34 5 (qQB z40))]⟩) (x0 := []) (x1 := 0) h ((Weak.nilB (l := [.t (.s (.int .i64 4)), .t (.s (.int .i64 0)), .t (.s (.string ByteArray.empty))]) hT 4097 3 13288 34 rfl (by cbv) (by cbv) (by cbv)).trans (Weak.of _ [(1, 0), (2, 1), (3, 4097), (4, 13288)] hA (by cbv) ?_)) (fun _ _ => rfl) ?_
  · repeat (first | exact hq0 | refine hq (by first | exact Tt | rfl) ?_)
  ·
   intro k z40 z41 h
   rw [qvC.l0] at h
   refine Run.seq ?_
   refine Run.seq ?_
   obtain ⟨r42, h_r42, h⟩ := bnd h
   refine Run.region hL hT [(4, .call [false, false] [.ag [.jk, .jk, .jk, .jk, .jk, .jk, .jk, .jk, .jk], .v (.jk)] [.v (.s (.int .i64 r42))])] (by cbv) ?_ ?_
   · exact (hq Tt (hq (by rw [show ln (qMB a1) = qDB a1 from ln_eq Row_i _]; exact (hC (qUK h_r42))) (hq Tt hq0)))
   rw [show ln (qMB a1) = qDB a1 from ln_eq Row_i _]
   refine Run.cond (by cbv) (hq0) (fun c43 => ?_) (fun c43 => ?_)
   ·
    have h := if_t c43 h
    refine Run.skip ?_
    refine Run.seq ?_
    refine Run.block ?_
    refine Run.seq ?_
    refine Run.region hL hT [] (by cbv) hq0 ?_
    obtain ⟨K45, h_K45, h⟩ := joinE h
    refine Run.join1 K45 (r := r) (fun (y44 : Int) => ⟨47, 100000, [(1, .t (.im false (qMB a1))), (2, .t (.im false (qB a2))), (3, .pt 1 0 0), (6, .pt 2 0 0), (7, .pt 3 0 0), (8, .t (.s (.int .i64 z41))), (9, .t (.s (.int .i64 y44)))], [(1, .box 38 [.t (.s (.int .i64 qW)), .t (.im false (qJ qS)), .t (.s (.int .i64 qX)), .t (.s (.bool qi)), .t (.s (.int .i64 qY)), .t (.im false (qB qe)), .t (.s (.bool qj)), .t (.s (.int .i64 qK)), .t (.s (.int .i64 qQ))]), (2, .box 34 [.t (.s (.int .i64 0)), .t (.s (.int .i64 0)), .t (.s (.string ByteArray.empty)), .t (.s (.slice none 0 0)), .t (.s (.slice none 0 0))]), (3, .box 34 [.t (.s (.int .i64 4)), .t (.s (.int .i64 0)), .t (.s (.string ByteArray.empty)), .rf 4, .t (.s (.slice none 0 0))]), (4, .row 0 34 5 (qQB z40))]⟩) ?_ ?_
    ·
     skip
     refine Run.seq ?_
     refine Run.region hL hT [] (by cbv) ?_ ?_
     · exact (hq Tt hq0)
     rw [show ln (qB a2) = qh a2 from ln_eq Int_c _]
     refine Run.cond (by cbv) (hq0) (fun c46 => ?_) (fun c46 => ?_)
     ·
      have h := if_t c46 h
      obtain ⟨x47, h_x47, h⟩ := bnd h
      refine Run.region hL hT [(2, .el [.s (.int .i64 x47)])] (by cbv) ?_ ?_
      · exact (hq (qM h_x47) (hq (qb (f := Int_c) h_x47) (hq (qx (f := Int_c) h_x47) hq0)))
      refine ⟨x47, h, Weak.of _ [(1, 1), (2, 2), (3, 3), (4, 4)] hA (by cbv) ?_⟩
      repeat (first | exact hq0 | refine hq (by first | exact Tt | rfl) ?_)
     ·
      have h := if_f c46 h
      refine Run.skip ?_
      refine ⟨0, h, Weak.of _ [(1, 1), (2, 2), (3, 3), (4, 4)] hA (by cbv) ?_⟩
      repeat (first | exact hq0 | refine hq (by first | exact Tt | rfl) ?_)
    ·
     intro y44 h
     rw [h_K45] at h
     obtain ⟨⟨qqW, qOT⟩, h_x48, h⟩ := bnd h
     obtain ⟨⟨r49v_Kind, r49v_N, r49v_S, r49v_List_, r49v_Names⟩, h_r49, h⟩ := bnd h
     obtain ⟨l50, h_l50, h⟩ := bnd h
     obtain ⟨l51, h_l51, h⟩ := bnd h
     refine Run.draw hL hT hM [(5, .el [.s (.int .i64 qqW), .im false (qB qOT)]), (8, .call [false, false, false] [.ag [.jk, .jk, .jk, .jk, .jk, .jk, .jk, .jk, .jk], .ag [.jk, .jk], .v (.jk)] [.ag [.s (.int .i64 r49v_Kind), .s (.int .i64 r49v_N), .s (.string r49v_S), .im true (qQB r49v_List_), .im true (qR r49v_Names)]])] (by cbv) (by cbv) (by cbv) (by cbv) (by cbv) ?_ ?_
     · exact (hq Tt (hq Tt (hq (qM h_x48) (hq (qb (f := Row_i) h_x48) (hq (qx (f := Row_i) h_x48) (hq (hC (qJN h_r49)) (hq (qLE (P := Tryz.prog) (f := qLC) RLe.r (qDE qTD h_l50 (RLe.cons rfl LLe.r RLe.nil)) h_l51) (hq Tt hq0))))))))
     refine Run.row (rows := (ap (qQB z40) ([[.s (.int .i64 r49v_Kind), .s (.int .i64 r49v_N), .s (.string r49v_S), .im true (qQB r49v_List_), .im true (qR r49v_Names)]]))) 100010 (qQB l51) (by cbv) (qKE (f := qLC) RLe.r (qDE qTD h_l50 (RLe.cons rfl LLe.r RLe.nil)) h_l51) ?_
     refine Run.region hL hT [] (by cbv) ?_ ?_
     · exact (hq Tt hq0)
     refine ⟨l51, (ar .add .i64 z41 1), h, Weak.of _ [(1, 1), (2, 2), (3, 3), (4, 100010)] hA (by cbv) ?_⟩
     repeat (first | exact hq0 | refine hq (by first | exact Tt | rfl) ?_)
   ·
    have h := if_f c43 h
    refine Run.exit ?_
    refine ⟨z40, h, Weak.of _ [(1, 2), (2, 3), (3, 4)] hA (by cbv) ?_⟩
    repeat (first | exact hq0 | refine hq (by first | exact Tt | rfl) ?_)
 ·
  intro y1 h
  rw [h_K2] at h
  refine Run.seq ?_
  refine Run.weak ?_ (Weak.keepL (rows := qQB y1) 3 (by cbv) (qQB y1) (qKJ _))
  obtain ⟨l52, h_l52, h⟩ := bnd h
  obtain ⟨⟨r53v_Kind, r53v_N, r53v_S, r53v_List_, r53v_Names⟩, h_r53, h⟩ := bnd h
  obtain ⟨l54, h_l54, h⟩ := bnd h
  obtain ⟨⟨r55v_Kind, r55v_N, r55v_S, r55v_List_, r55v_Names⟩, h_r55, h⟩ := bnd h
  refine Run.draw hL hT hM [(3, .call [false] [.v (.jk)] [.ag [.s (.int .i64 r53v_Kind), .s (.int .i64 r53v_N), .s (.string r53v_S), .im true (qQB r53v_List_), .im true (qR r53v_Names)]]), (7, .call [true] [.ag [.jk, .jk, .jk, .jk, .jk]] [.ag [.s (.int .i64 r55v_Kind), .s (.int .i64 r55v_N), .s (.string r55v_S), .im true (qQB r55v_List_), .im true (qR r55v_Names)]])] (by cbv) (by cbv) (by cbv) (by cbv) (by cbv) ?_ ?_
  · exact (hq (by rw [show ln (qMB a1) = qDB a1 from ln_eq Row_i _]; exact (hC (qKF h_r53))) (hq Tt (hq (hC (AC.args (qkI h_r55) (ALe.ag rfl (LLe.c (LLe.c (LLe.c (LLe.cons (LLe.ow (qDE qTD h_l54 (RLe.cons rfl LLe.r (RLe.cons rfl (LLe.c (LLe.c (LLe.c (LLe.c (LLe.cons LLe.nilI LLe.nil))))) RLe.nil)))) (LLe.cons (LLe.ow (qvB (f := Str_c) h_l52 (RLe.cons rfl LLe.r (RLe.cons rfl LLe.r RLe.nil)))) LLe.nil))))) ALe.nil))) (hq Tt hq0))))
  rw [show ln (qMB a1) = qDB a1 from ln_eq Row_i _]
  refine Run.ret ?_
  cases h
  refine ⟨_, _, by cbv, ?_, ?_⟩
  · exact LLe.r
  · exact (ALe.ag rfl LLe.r ALe.nil)
theorem qUE {qO : List Int} {r : Bool} (h : qpB.f (Schema.mk qO) = some r) : AC Tryz.prog 82 [.ag [.im false (rowsOf Int_c qO)]] [.ag [.jk]] [.v (.s (.bool r))] := by
 unfold qpB.f at h
 let qB := rowsOf Int_c
 let qh := @lenI Int
 show AC Tryz.prog 82 [.ag [.im false (qB qO)]] _ _
 refine run3 Tryz.func82 (by rfl) (by rfl) (by cbv) ⟨by decide, rfl⟩ ?_
 intro ar cm bo sc sa sx ss sl bs sb ln sr ap up rp fr ge le lt nz mm ma sm fl al ci hL F hP hA hT hM hC
 refine Run.seq ?_
 refine Run.region hL hT [] (by cbv) hq0 ?_
 obtain ⟨K2, h_K2, h⟩ := joinE h
 refine Run.join1 K2 (r := r) (fun (y1 : Unit) => ⟨22, 100000, [(1, .pt 1 0 0)], [(1, .box 57 [.t (.im false (qB qO))])]⟩) ?_ ?_
 ·
  skip
  refine Run.seq ?_
  refine Run.region hL hT [] (by cbv) hq0 ?_
  refine Run.block ?_
  refine Run.loop1 (fun (z5 : Int) => ⟨22, 100000, [(1, .pt 1 0 0), (3, .t (.s (.int .i64 z5)))], [(1, .box 57 [.t (.im false (qB qO))])]⟩) (x0 := 0) h (Weak.of _ [(1, 0)] hA (by cbv) ?_) (fun _ => rfl) ?_
  · repeat (first | exact hq0 | refine hq (by first | exact Tt | rfl) ?_)
  ·
   intro k z5 h
   rw [qpB.l0] at h
   refine Run.seq ?_
   refine Run.seq ?_
   refine Run.region hL hT [] (by cbv) ?_ ?_
   · exact (hq Tt (hq Tt hq0))
   rw [show ln (qB qO) = qh qO from ln_eq Int_c _]
   refine Run.cond (by cbv) (hq0) (fun c6 => ?_) (fun c6 => ?_)
   ·
    have h := if_t c6 h
    refine Run.skip ?_
    refine Run.seq ?_
    refine Run.block ?_
    refine Run.seq ?_
    obtain ⟨x7, h_x7, h⟩ := bnd h
    obtain ⟨r8, h_r8, h⟩ := bnd h
    refine Run.region hL hT [(3, .el [.s (.int .i64 x7)]), (5, .call [false, false, false] [.v (.jk), .v (.jk), .v (.jk)] [.v (.s (.bool r8))])] (by cbv) ?_ ?_
    · exact (hq Tt (hq (qM h_x7) (hq (qb (f := Int_c) h_x7) (hq (qx (f := Int_c) h_x7) (hq (hC (qeB h_r8)) hq0)))))
    refine Run.cond (by cbv) (hq0) (fun c9 => ?_) (fun c9 => ?_)
    ·
     have h := if_t c9 h
     refine Run.seq ?_
     refine Run.region hL hT [] (by cbv) hq0 ?_
     refine Run.ret ?_
     cases h
     refine ⟨_, _, by cbv, ?_, ?_⟩
     · exact LLe.r
     · exact (ALe.v LLe.r ALe.nil)
    ·
     have h := if_f c9 h
     refine Run.skip ?_
     refine Run.region hL hT [] (by cbv) ?_ ?_
     · exact (hq Tt hq0)
     refine ⟨(ar .add .i64 z5 1), h, Weak.of _ [(1, 1)] hA (by cbv) ?_⟩
     repeat (first | exact hq0 | refine hq (by first | exact Tt | rfl) ?_)
   ·
    have h := if_f c6 h
    refine Run.exit ?_
    refine ⟨(), h, Weak.of _ [(1, 1)] hA (by cbv) ?_⟩
    repeat (first | exact hq0 | refine hq (by first | exact Tt | rfl) ?_)
 ·
  intro y1 h
  rw [h_K2] at h
  refine Run.seq ?_
  obtain ⟨r10, h_r10, h⟩ := bnd h
  refine Run.region hL hT [(3, .call [false, false, false] [.v (.jk), .v (.jk), .v (.jk)] [.v (.s (.bool r10))])] (by cbv) ?_ ?_
  · exact (hq Tt (hq (by rw [show ln (qB qO) = qh qO from ln_eq Int_c _]; exact (hC (qeB h_r10))) hq0))
  rw [show ln (qB qO) = qh qO from ln_eq Int_c _]
  refine Run.ret ?_
  cases h
  refine ⟨_, _, by cbv, ?_, ?_⟩
  · exact LLe.r
  · exact (ALe.v LLe.r ALe.nil)
theorem qQP {qO : List Int} {a1 : Int} {qsD : Int} {qLB : List Int} {r : Bool} (h : qJD.f (Schema.mk qO) a1 (Row.mk qsD qLB) = some r) : AC Tryz.prog 111 [.ag [.im false (rowsOf Int_c qO)], .v (.s (.int .i64 a1)), .ag [.s (.int .i64 qsD), .im false (rowsOf Int_c qLB)]] [.ag [.jk], .v (.jk), .ag [.jk, .jk]] [.v (.s (.bool r))] := by
 unfold qJD.f at h
 let qB := rowsOf Int_c
 let qh := @lenI Int
 show AC Tryz.prog 111 [.ag [.im false (qB qO)], .v (.s (.int .i64 a1)), .ag [.s (.int .i64 qsD), .im false (qB qLB)]] _ _
 refine run3 Tryz.func111 (by rfl) (by rfl) (by cbv) ⟨by decide, rfl⟩ ?_
 intro ar cm bo sc sa sx ss sl bs sb ln sr ap up rp fr ge le lt nz mm ma sm fl al ci hL F hP hA hT hM hC
 refine Run.seq ?_
 refine Run.region hL hT [] (by cbv) hq0 ?_
 refine Run.seq ?_
 refine Run.seq ?_
 obtain ⟨r1, h_r1, h⟩ := bnd h
 obtain ⟨r2, h_r2, h⟩ := bnd h
 obtain ⟨r3, h_r3, h⟩ := bnd h
 obtain ⟨x4, h_x4, h⟩ := bnd h
 refine Run.draw hL hT hM [(1, .call [false] [.ag [.jk]] [.v (.s (.bool r1))]), (9, .call [false, false, false] [.v (.jk), .v (.jk), .v (.jk)] [.v (.s (.bool r2))]), (15, .call [false, false, false] [.v (.jk), .v (.jk), .v (.jk)] [.v (.s (.bool r3))]), (25, .el [.s (.int .i64 x4)])] (by cbv) (by cbv) (by cbv) (by cbv) (by cbv) ?_ ?_
 · exact (hq Tt (hq (hC (qUE h_r1)) (hq (fun _ => hq0) (hq (fun _ => hq0) (hq (fun g7 => (hq g7 (hq Tt hq0))) (hq (fun g8 => (hq g8 hq0)) (hq (fun g9 => (hq g9 (hq Tt hq0))) (hq (fun g10 => (hq g10 (hq g10 (hq (by rw [show ln (qB qO) = qh qO from ln_eq Int_c _]; exact (hC (qeB (gd_t h_r2 g10)))) hq0)))) (hq (fun g11 => (hq g11 hq0)) (hq (fun _ => hq0) (hq (fun q13 => (hq (bo_m q13) hq0)) (hq (fun _ => hq0) (hq (fun g15 => (hq g15 (hq Tt hq0))) (hq (fun g16 => (hq g16 (hq (hC (qeB (gd_t h_r3 g16))) hq0))) (hq (fun g17 => (hq g17 hq0)) (hq (fun _ => hq0) (hq (fun q19 => (hq (bo_m q19) hq0)) (hq (fun _ => hq0) (hq (fun g21 => (hq g21 (hq Tt hq0))) (hq (fun g22 => (hq g22 hq0)) (hq (fun _ => hq0) (hq (fun g24 => (hq g24 (hq Tt hq0))) (hq (fun _ => hq0) (hq (fun g26 => (hq g26 (hq g26 (hq (qM (gd_t h_x4 g26)) (hq (qb (f := Int_c) (gd_t h_x4 g26)) (hq (qx (f := Int_c) (gd_t h_x4 g26)) hq0)))))) (hq (fun g27 => (hq g27 hq0)) (hq (fun g28 => (hq g28 (hq g28 (hq Tt hq0)))) (hq (fun _ => hq0) (hq (fun q30 => (hq (bo_m q30) hq0)) hq0))))))))))))))))))))))))))))
 rw [show ln (qB qO) = qh qO from ln_eq Int_c _]
 rw [show ln (qB qLB) = qh qLB from ln_eq Int_c _]
 refine Run.cond (by cbv) (hq0) (fun c31 => ?_) (fun c31 => ?_)
 ·
  have h := if_t c31 h
  refine Run.seq ?_
  refine Run.region hL hT [] (by cbv) hq0 ?_
  refine Run.ret ?_
  cases h
  refine ⟨_, _, by cbv, ?_, ?_⟩
  · exact LLe.r
  · exact (ALe.v LLe.r ALe.nil)
 ·
  have h := if_f c31 h
  refine Run.skip ?_
  refine Run.seq ?_
  refine Run.seq ?_
  refine Run.region hL hT [] (by cbv) hq0 ?_
  refine Run.block ?_
  refine Run.loop1 (fun (z35 : Int) => ⟨51, 100000, [(5, .pt 1 0 0), (7, .t (.s (.int .i64 z35)))], [(1, .box 91 [.t (.s (.int .i64 qsD)), .t (.im false (qB qLB))])]⟩) (x0 := 0) h (Weak.of _ [(1, 1)] hA (by cbv) ?_) (fun _ => rfl) ?_
  · repeat (first | exact hq0 | refine hq (by first | exact Tt | rfl) ?_)
  ·
   intro k z35 h
   rw [qJD.l0] at h
   refine Run.seq ?_
   refine Run.seq ?_
   refine Run.region hL hT [] (by cbv) ?_ ?_
   · exact (hq Tt (hq Tt hq0))
   rw [show ln (qB qLB) = qh qLB from ln_eq Int_c _]
   refine Run.cond (by cbv) (hq0) (fun c36 => ?_) (fun c36 => ?_)
   ·
    have h := if_t c36 h
    refine Run.skip ?_
    refine Run.seq ?_
    refine Run.block ?_
    refine Run.seq ?_
    obtain ⟨x37, h_x37, h⟩ := bnd h
    obtain ⟨r38, h_r38, h⟩ := bnd h
    refine Run.region hL hT [(3, .el [.s (.int .i64 x37)]), (5, .call [false, false, false] [.v (.jk), .v (.jk), .v (.jk)] [.v (.s (.bool r38))])] (by cbv) ?_ ?_
    · exact (hq Tt (hq (qM h_x37) (hq (qb (f := Int_c) h_x37) (hq (qx (f := Int_c) h_x37) (hq (hC (qeB h_r38)) hq0)))))
    refine Run.cond (by cbv) (hq0) (fun c39 => ?_) (fun c39 => ?_)
    ·
     have h := if_t c39 h
     refine Run.seq ?_
     refine Run.region hL hT [] (by cbv) hq0 ?_
     refine Run.ret ?_
     cases h
     refine ⟨_, _, by cbv, ?_, ?_⟩
     · exact LLe.r
     · exact (ALe.v LLe.r ALe.nil)
    ·
     have h := if_f c39 h
     refine Run.skip ?_
     refine Run.region hL hT [] (by cbv) ?_ ?_
     · exact (hq Tt hq0)
     refine ⟨(ar .add .i64 z35 1), h, Weak.of _ [(1, 1)] hA (by cbv) ?_⟩
     repeat (first | exact hq0 | refine hq (by first | exact Tt | rfl) ?_)
   ·
    have h := if_f c36 h
    refine Run.exit ?_
    refine Run.seq ?_
    refine Run.region hL hT [] (by cbv) hq0 ?_
    refine Run.ret ?_
    cases h
    refine ⟨_, _, by cbv, ?_, ?_⟩
    · exact LLe.r
    · exact (ALe.v LLe.r ALe.nil)
theorem qLN {qO : List Int} {a1 : Int} {a2 : List Row} {r : Bool} (h : qmC.f (Schema.mk qO) a1 a2 = some r) : AC Tryz.prog 84 [.ag [.im false (rowsOf Int_c qO)], .v (.s (.int .i64 a1)), .v (.im false (rowsOf Row_i a2))] [.ag [.jk], .v (.jk), .v (.jk)] [.v (.s (.bool r))] := by
 unfold qmC.f at h
 let qB := rowsOf Int_c
 let qMB := rowsOf Row_i
 let qh := @lenI Int
 let qDB := @lenI Row
 show AC Tryz.prog 84 [.ag [.im false (qB qO)], .v (.s (.int .i64 a1)), .v (.im false (qMB a2))] _ _
 refine run3 Tryz.func84 (by rfl) (by rfl) (by cbv) ⟨by decide, rfl⟩ ?_
 intro ar cm bo sc sa sx ss sl bs sb ln sr ap up rp fr ge le lt nz mm ma sm fl al ci hL F hP hA hT hM hC
 refine Run.seq ?_
 refine Run.region hL hT [] (by cbv) hq0 ?_
 obtain ⟨K2, h_K2, h⟩ := joinE h
 refine Run.join1 K2 (r := r) (fun (y1 : Unit) => ⟨55, 100000, [(1, .t (.s (.int .i64 a1))), (2, .t (.im false (qMB a2))), (3, .pt 1 0 0)], [(1, .box 57 [.t (.im false (qB qO))])]⟩) ?_ ?_
 ·
  skip
  refine Run.seq ?_
  refine Run.region hL hT [] (by cbv) hq0 ?_
  refine Run.block ?_
  refine Run.loop1 (fun (z7 : Int) => ⟨55, 100000, [(1, .t (.s (.int .i64 a1))), (2, .t (.im false (qMB a2))), (3, .pt 1 0 0), (7, .t (.s (.int .i64 z7)))], [(1, .box 57 [.t (.im false (qB qO))])]⟩) (x0 := 0) h (Weak.of _ [(1, 0)] hA (by cbv) ?_) (fun _ => rfl) ?_
  · repeat (first | exact hq0 | refine hq (by first | exact Tt | rfl) ?_)
  ·
   intro k z7 h
   rw [qmC.l0] at h
   refine Run.seq ?_
   refine Run.seq ?_
   refine Run.region hL hT [] (by cbv) ?_ ?_
   · exact (hq Tt hq0)
   rw [show ln (qMB a2) = qDB a2 from ln_eq Row_i _]
   refine Run.cond (by cbv) (hq0) (fun c8 => ?_) (fun c8 => ?_)
   ·
    have h := if_t c8 h
    refine Run.skip ?_
    refine Run.seq ?_
    refine Run.block ?_
    refine Run.seq ?_
    obtain ⟨⟨qiQ, qxH⟩, h_x9, h⟩ := bnd h
    obtain ⟨r10, h_r10, h⟩ := bnd h
    obtain ⟨⟨qdR, qhJ⟩, h_x11, h⟩ := bnd h
    refine Run.draw hL hT hM [(4, .el [.s (.int .i64 qiQ), .im false (qB qxH)]), (6, .call [false, false, false] [.ag [.jk], .v (.jk), .ag [.jk, .jk]] [.v (.s (.bool r10))]), (15, .el [.s (.int .i64 qdR), .im false (qB qhJ)]), (20, .el [.s (.int .i64 qiQ), .im false (qB qxH)])] (by cbv) (by cbv) (by cbv) (by cbv) (by cbv) ?_ ?_
    · exact (hq Tt (hq (qM h_x9) (hq (qb (f := Row_i) h_x9) (hq (qx (f := Row_i) h_x9) (hq (hC (qQP h_r10)) (hq (fun _ => hq0) (hq (fun g13 => (hq g13 (hq Tt hq0))) (hq (fun g14 => (hq g14 hq0)) (hq (fun _ => hq0) (hq (fun _ => hq0) (hq (fun g17 => (hq g17 (hq Tt hq0))) (hq (fun g18 => (hq g18 (hq g18 (hq (qM (gd_t h_x11 g18)) (hq (qb (f := Row_i) (gd_t h_x11 g18)) (hq (qx (f := Row_i) (gd_t h_x11 g18)) hq0)))))) (hq (fun g19 => (hq g19 hq0)) (hq (fun g20 => (hq g20 hq0)) (hq (fun _ => hq0) (hq (fun _ => hq0) (hq (fun g23 => (hq g23 (hq g23 (hq (qM h_x9) (hq (qb (f := Row_i) h_x9) (hq (qx (f := Row_i) h_x9) hq0)))))) (hq (fun g24 => (hq g24 hq0)) (hq (fun g25 => (hq g25 hq0)) (hq (fun g26 => (hq g26 (hq g26 (hq Tt hq0)))) (hq (fun g27 => (hq g27 (hq (fun q28 => (hq (bo_a g27 q28) hq0)) (hq (fun _ => hq0) hq0)))) (hq (fun _ => hq0) (hq (fun q31 => (hq (bo_m q31) hq0)) hq0)))))))))))))))))))))))
    refine Run.cond (by cbv) (hq0) (fun c32 => ?_) (fun c32 => ?_)
    ·
     have h := if_t c32 h
     refine Run.seq ?_
     refine Run.region hL hT [] (by cbv) hq0 ?_
     refine Run.ret ?_
     cases h
     refine ⟨_, _, by cbv, ?_, ?_⟩
     · exact LLe.r
     · exact (ALe.v LLe.r ALe.nil)
    ·
     have h := if_f c32 h
     refine Run.skip ?_
     refine Run.region hL hT [] (by cbv) ?_ ?_
     · exact (hq Tt hq0)
     refine ⟨(ar .add .i64 z7 1), h, Weak.of _ [(1, 1)] hA (by cbv) ?_⟩
     repeat (first | exact hq0 | refine hq (by first | exact Tt | rfl) ?_)
   ·
    have h := if_f c8 h
    refine Run.exit ?_
    refine ⟨(), h, Weak.of _ [(1, 1)] hA (by cbv) ?_⟩
    repeat (first | exact hq0 | refine hq (by first | exact Tt | rfl) ?_)
 ·
  intro y1 h
  rw [h_K2] at h
  refine Run.seq ?_
  obtain ⟨r33, h_r33, h⟩ := bnd h
  obtain ⟨r34, h_r34, h⟩ := bnd h
  refine Run.region hL hT [(1, .call [false] [.ag [.jk]] [.v (.s (.bool r33))]), (8, .call [false, false, false] [.v (.jk), .v (.jk), .v (.jk)] [.v (.s (.bool r34))])] (by cbv) ?_ ?_
  · exact (hq Tt (hq (hC (qUE h_r33)) (hq (fun _ => hq0) (hq (fun _ => hq0) (hq (fun g37 => (hq g37 (hq Tt hq0))) (hq (fun g38 => (hq g38 hq0)) (hq (fun g39 => (hq g39 (hq Tt hq0))) (hq (fun g40 => (hq g40 (hq g40 (hq (by rw [show ln (qB qO) = qh qO from ln_eq Int_c _]; exact (hC (qeB (gd_t h_r34 g40)))) hq0)))) (hq (fun q41 => (hq q41 hq0)) (hq (fun _ => hq0) (hq (fun _ => hq0) (hq (fun g44 => (hq g44 hq0)) (hq (fun g45 => (hq g45 (hq Tt hq0))) (hq (fun q46 => (hq q46 hq0)) (hq (fun _ => hq0) hq0)))))))))))))))
  rw [show ln (qB qO) = qh qO from ln_eq Int_c _]
  rw [show ln (qMB a2) = qDB a2 from ln_eq Row_i _]
  refine Run.ret ?_
  cases h
  refine ⟨_, _, by cbv, ?_, ?_⟩
  · exact LLe.r
  · exact (ALe.v LLe.r ALe.nil)
theorem qEG {qF : List Int} {qV : Int} {qT : List (List Row)} {r : Bool} (h : qIC.f (Store.mk (Schema.mk qF) qV qT) = some r) : AC Tryz.prog 46 [.ag [.im false (rowsOf Int_c qF), .s (.int .i64 qV), .im false (rowsOf RowS_i qT)]] [.ag [.jk, .jk, .jk]] [.v (.s (.bool r))] := by
 unfold qIC.f at h
 let qB := rowsOf Int_c
 let qUB := rowsOf RowS_i
 let qMB := rowsOf Row_i
 let qh := @lenI Int
 let qFC := @lenI (List Row)
 show AC Tryz.prog 46 [.ag [.im false (qB qF), .s (.int .i64 qV), .im false (qUB qT)]] _ _
 refine run3 Tryz.func46 (by rfl) (by rfl) (by cbv) ⟨by decide, rfl⟩ ?_
 intro ar cm bo sc sa sx ss sl bs sb ln sr ap up rp fr ge le lt nz mm ma sm fl al ci hL F hP hA hT hM hC
 refine Run.seq ?_
 refine Run.region hL hT [] (by cbv) hq0 ?_
 refine Run.seq ?_
 refine Run.seq ?_
 obtain ⟨r1, h_r1, h⟩ := bnd h
 obtain ⟨r2, h_r2, h⟩ := bnd h
 refine Run.region hL hT [(2, .call [false] [.ag [.jk]] [.v (.s (.bool r1))]), (7, .call [false, false, false] [.v (.jk), .v (.jk), .v (.jk)] [.v (.s (.bool r2))])] (by cbv) ?_ ?_
 · exact (hq Tt (hq (hC (qUE h_r1)) (hq (fun _ => hq0) (hq (fun g4 => (hq g4 (hq Tt hq0))) (hq (fun g5 => (hq g5 (hq (hC (qeB (gd_t h_r2 g5))) hq0))) (hq (fun g6 => (hq g6 hq0)) (hq (fun _ => hq0) (hq (fun q8 => (hq (bo_m q8) hq0)) (hq (fun _ => hq0) (hq (fun g10 => (hq g10 (hq Tt hq0))) (hq (fun g11 => (hq g11 hq0)) (hq (fun _ => hq0) (hq (fun g13 => (hq g13 hq0)) (hq (fun g14 => (hq g14 (hq Tt hq0))) (hq (fun g15 => (hq g15 hq0)) (hq (fun g16 => (hq g16 (hq g16 (hq Tt hq0)))) (hq (fun _ => hq0) (hq (fun q18 => (hq (bo_m q18) hq0)) hq0))))))))))))))))))
 rw [show ln (qB qF) = qh qF from ln_eq Int_c _]
 rw [show ln (qUB qT) = qFC qT from ln_eq RowS_i _]
 refine Run.cond (by cbv) (hq0) (fun c19 => ?_) (fun c19 => ?_)
 ·
  have h := if_t c19 h
  refine Run.seq ?_
  refine Run.region hL hT [] (by cbv) hq0 ?_
  refine Run.ret ?_
  cases h
  refine ⟨_, _, by cbv, ?_, ?_⟩
  · exact LLe.r
  · exact (ALe.v LLe.r ALe.nil)
 ·
  have h := if_f c19 h
  refine Run.skip ?_
  refine Run.seq ?_
  refine Run.seq ?_
  refine Run.region hL hT [] (by cbv) hq0 ?_
  refine Run.block ?_
  refine Run.loop1 (fun (z24 : Int) => ⟨41, 100000, [(1, .pt 1 0 0), (3, .t (.s (.int .i64 z24)))], [(1, .box 60 [.t (.im false (qB qF)), .t (.s (.int .i64 qV)), .t (.im false (qUB qT))])]⟩) (x0 := 0) h (Weak.of _ [(1, 0)] hA (by cbv) ?_) (fun _ => rfl) ?_
  · repeat (first | exact hq0 | refine hq (by first | exact Tt | rfl) ?_)
  ·
   intro k z24 h
   rw [qIC.l0] at h
   refine Run.seq ?_
   refine Run.seq ?_
   refine Run.region hL hT [] (by cbv) ?_ ?_
   · exact (hq Tt (hq Tt hq0))
   rw [show ln (qUB qT) = qFC qT from ln_eq RowS_i _]
   refine Run.cond (by cbv) (hq0) (fun c25 => ?_) (fun c25 => ?_)
   ·
    have h := if_t c25 h
    refine Run.skip ?_
    refine Run.seq ?_
    refine Run.block ?_
    refine Run.seq ?_
    obtain ⟨x26, h_x26, h⟩ := bnd h
    obtain ⟨r27, h_r27, h⟩ := bnd h
    refine Run.draw hL hT hM [(6, .el [.im false (qMB x26)]), (8, .call [false, false, false] [.ag [.jk], .v (.jk), .v (.jk)] [.v (.s (.bool r27))])] (by cbv) (by cbv) (by cbv) (by cbv) (by cbv) ?_ ?_
    · exact (hq Tt (hq Tt (hq (qM h_x26) (hq (qb (f := RowS_i) h_x26) (hq (qx (f := RowS_i) h_x26) (hq (hC (qLN h_r27)) hq0))))))
    refine Run.cond (by cbv) (hq0) (fun c28 => ?_) (fun c28 => ?_)
    ·
     have h := if_t c28 h
     refine Run.seq ?_
     refine Run.region hL hT [] (by cbv) hq0 ?_
     refine Run.ret ?_
     cases h
     refine ⟨_, _, by cbv, ?_, ?_⟩
     · exact LLe.r
     · exact (ALe.v LLe.r ALe.nil)
    ·
     have h := if_f c28 h
     refine Run.skip ?_
     refine Run.region hL hT [] (by cbv) ?_ ?_
     · exact (hq Tt hq0)
     refine ⟨(ar .add .i64 z24 1), h, Weak.of _ [(1, 1)] hA (by cbv) ?_⟩
     repeat (first | exact hq0 | refine hq (by first | exact Tt | rfl) ?_)
   ·
    have h := if_f c25 h
    refine Run.exit ?_
    refine Run.seq ?_
    refine Run.region hL hT [] (by cbv) hq0 ?_
    refine Run.ret ?_
    cases h
    refine ⟨_, _, by cbv, ?_, ?_⟩
    · exact LLe.r
    · exact (ALe.v LLe.r ALe.nil)
theorem qFG {qO : List Int} {ql : Int} {qP : List Cond} {qm : Int} {qy : Bool} {qn : Int} {qq : List Int} {qz : Bool} {qN : Int} {qZ : Int} {r : Bool} (h : qYB.f (Schema.mk qO) (Query.mk ql qP qm qy qn qq qz qN qZ) = some r) : AC Tryz.prog 47 [.ag [.im false (rowsOf Int_c qO)], .ag [.s (.int .i64 ql), .im false (rowsOf Cond_c qP), .s (.int .i64 qm), .s (.bool qy), .s (.int .i64 qn), .im false (rowsOf Int_c qq), .s (.bool qz), .s (.int .i64 qN), .s (.int .i64 qZ)]] [.ag [.jk], .ag [.jk, .jk, .jk, .jk, .jk, .jk, .jk, .jk, .jk]] [.v (.s (.bool r))] := by
 unfold qYB.f at h
 let qJ := rowsOf Cond_c
 let qB := rowsOf Int_c
 let qWB := @lenI Cond
 let qh := @lenI Int
 show AC Tryz.prog 47 [.ag [.im false (qB qO)], .ag [.s (.int .i64 ql), .im false (qJ qP), .s (.int .i64 qm), .s (.bool qy), .s (.int .i64 qn), .im false (qB qq), .s (.bool qz), .s (.int .i64 qN), .s (.int .i64 qZ)]] _ _
 refine run3 Tryz.func47 (by rfl) (by rfl) (by cbv) ⟨by decide, rfl⟩ ?_
 intro ar cm bo sc sa sx ss sl bs sb ln sr ap up rp fr ge le lt nz mm ma sm fl al ci hL F hP hA hT hM hC
 refine Run.seq ?_
 refine Run.region hL hT [] (by cbv) hq0 ?_
 refine Run.seq ?_
 refine Run.seq ?_
 obtain ⟨r1, h_r1, h⟩ := bnd h
 obtain ⟨r2, h_r2, h⟩ := bnd h
 refine Run.region hL hT [(1, .call [false] [.ag [.jk]] [.v (.s (.bool r1))]), (10, .call [false, false, false] [.v (.jk), .v (.jk), .v (.jk)] [.v (.s (.bool r2))])] (by cbv) ?_ ?_
 · exact (hq Tt (hq (hC (qUE h_r1)) (hq (fun _ => hq0) (hq (fun g4 => (hq g4 (hq Tt hq0))) (hq (fun _ => hq0) (hq (fun g6 => (hq g6 (hq Tt hq0))) (hq (fun g7 => (hq g7 hq0)) (hq (fun g8 => (hq g8 (hq Tt hq0))) (hq (fun g9 => (hq g9 (hq g9 (hq (by rw [show ln (qB qO) = qh qO from ln_eq Int_c _]; exact (hC (qeB (gd_t h_r2 g9)))) hq0)))) (hq (fun g10 => (hq g10 hq0)) (hq (fun _ => hq0) (hq (fun q12 => (hq (bo_m q12) hq0)) (hq (fun _ => hq0) (hq (fun g14 => (hq g14 (hq Tt hq0))) (hq (fun g15 => (hq g15 hq0)) (hq (fun g16 => (hq g16 (hq Tt hq0))) (hq (fun _ => hq0) (hq (fun q18 => (hq (bo_m q18) hq0)) hq0))))))))))))))))))
 rw [show ln (qJ qP) = qWB qP from ln_eq Cond_c _]
 rw [show ln (qB qO) = qh qO from ln_eq Int_c _]
 refine Run.cond (by cbv) (hq0) (fun c19 => ?_) (fun c19 => ?_)
 ·
  have h := if_t c19 h
  refine Run.seq ?_
  refine Run.region hL hT [] (by cbv) hq0 ?_
  refine Run.ret ?_
  cases h
  refine ⟨_, _, by cbv, ?_, ?_⟩
  · exact LLe.r
  · exact (ALe.v LLe.r ALe.nil)
 ·
  have h := if_f c19 h
  refine Run.skip ?_
  refine Run.seq ?_
  obtain ⟨x20, h_x20, h⟩ := bnd h
  refine Run.region hL hT [(4, .el [.s (.int .i64 x20)])] (by cbv) ?_ ?_
  · exact (hq Tt (hq Tt (hq (qM h_x20) (hq (qb (f := Int_c) h_x20) (hq (qx (f := Int_c) h_x20) hq0)))))
  obtain ⟨K22, h_K22, h⟩ := joinE h
  refine Run.join1 K22 (r := r) (fun (y21 : Unit) => ⟨148, 100000, [(2, .pt 1 0 0), (3, .pt 2 0 0), (5, .t (.s (.int .i64 x20)))], [(1, .box 57 [.t (.im false (qB qO))]), (2, .box 38 [.t (.s (.int .i64 ql)), .t (.im false (qJ qP)), .t (.s (.int .i64 qm)), .t (.s (.bool qy)), .t (.s (.int .i64 qn)), .t (.im false (qB qq)), .t (.s (.bool qz)), .t (.s (.int .i64 qN)), .t (.s (.int .i64 qZ))])]⟩) ?_ ?_
  ·
   skip
   refine Run.seq ?_
   refine Run.region hL hT [] (by cbv) hq0 ?_
   refine Run.block ?_
   refine Run.loop1 (fun (z35 : Int) => ⟨148, 100000, [(2, .pt 1 0 0), (3, .pt 2 0 0), (5, .t (.s (.int .i64 x20))), (6, .t (.s (.int .i64 z35)))], [(1, .box 57 [.t (.im false (qB qO))]), (2, .box 38 [.t (.s (.int .i64 ql)), .t (.im false (qJ qP)), .t (.s (.int .i64 qm)), .t (.s (.bool qy)), .t (.s (.int .i64 qn)), .t (.im false (qB qq)), .t (.s (.bool qz)), .t (.s (.int .i64 qN)), .t (.s (.int .i64 qZ))])]⟩) (x0 := 0) h (Weak.of _ [(1, 0), (2, 1)] hA (by cbv) ?_) (fun _ => rfl) ?_
   · repeat (first | exact hq0 | refine hq (by first | exact Tt | rfl) ?_)
   ·
    intro k z35 h
    rw [qYB.l0] at h
    refine Run.seq ?_
    refine Run.seq ?_
    refine Run.region hL hT [] (by cbv) ?_ ?_
    · exact (hq Tt (hq Tt hq0))
    rw [show ln (qJ qP) = qWB qP from ln_eq Cond_c _]
    refine Run.cond (by cbv) (hq0) (fun c36 => ?_) (fun c36 => ?_)
    ·
     have h := if_t c36 h
     refine Run.skip ?_
     refine Run.seq ?_
     refine Run.block ?_
     refine Run.seq ?_
     obtain ⟨⟨qlV, qrW, qdX⟩, h_x37, h⟩ := bnd h
     refine Run.region hL hT [(3, .el [.s (.int .i64 qlV), .s (.int .i64 qrW), .s (.int .i64 qdX)])] (by cbv) ?_ ?_
     · exact (hq Tt (hq (qM h_x37) (hq (qb (f := Cond_c) h_x37) (hq (qx (f := Cond_c) h_x37) (hq Tt hq0)))))
     refine Run.seq ?_
     obtain ⟨r38, h_r38, h⟩ := bnd h
     obtain ⟨r39, h_r39, h⟩ := bnd h
     obtain ⟨r40, h_r40, h⟩ := bnd h
     refine Run.region hL hT [(4, .call [false, false, false] [.v (.jk), .v (.jk), .v (.jk)] [.v (.s (.bool r38))]), (9, .call [false, false, false] [.v (.jk), .v (.jk), .v (.jk)] [.v (.s (.bool r39))]), (15, .call [false, false, false] [.v (.jk), .v (.jk), .v (.jk)] [.v (.s (.bool r40))])] (by cbv) ?_ ?_
     · exact (hq Tt (hq Tt (hq (hC (qeB h_r38)) (hq (fun _ => hq0) (hq (fun g42 => (hq g42 (hq Tt hq0))) (hq (fun g43 => (hq g43 (hq (hC (qeB (gd_t h_r39 g43))) hq0))) (hq (fun g44 => (hq g44 hq0)) (hq (fun _ => hq0) (hq (fun q46 => (hq (bo_m q46) hq0)) (hq (fun _ => hq0) (hq (fun g48 => (hq g48 (hq Tt hq0))) (hq (fun g49 => (hq g49 (hq (hC (qeB (gd_t h_r40 g49))) hq0))) (hq (fun g50 => (hq g50 hq0)) (hq (fun _ => hq0) (hq (fun q52 => (hq (bo_m q52) hq0)) hq0)))))))))))))))
     refine Run.cond (by cbv) (hq0) (fun c53 => ?_) (fun c53 => ?_)
     ·
      have h := if_t c53 h
      refine Run.seq ?_
      refine Run.region hL hT [] (by cbv) hq0 ?_
      refine Run.ret ?_
      cases h
      refine ⟨_, _, by cbv, ?_, ?_⟩
      · exact LLe.r
      · exact (ALe.v LLe.r ALe.nil)
     ·
      have h := if_f c53 h
      refine Run.skip ?_
      refine Run.region hL hT [] (by cbv) ?_ ?_
      · exact (hq Tt hq0)
      refine ⟨(ar .add .i64 z35 1), h, Weak.of _ [(1, 1), (2, 2)] hA (by cbv) ?_⟩
      repeat (first | exact hq0 | refine hq (by first | exact Tt | rfl) ?_)
    ·
     have h := if_f c36 h
     refine Run.exit ?_
     refine ⟨(), h, Weak.of _ [(1, 1), (2, 2)] hA (by cbv) ?_⟩
     repeat (first | exact hq0 | refine hq (by first | exact Tt | rfl) ?_)
  ·
   intro y21 h
   rw [h_K22] at h
   obtain ⟨K55, h_K55, h⟩ := joinE h
   refine Run.join1 K55 (r := r) (fun (y54 : Unit) => ⟨148, 100000, [(2, .pt 1 0 0), (3, .pt 2 0 0), (5, .t (.s (.int .i64 x20)))], [(1, .box 57 [.t (.im false (qB qO))]), (2, .box 38 [.t (.s (.int .i64 ql)), .t (.im false (qJ qP)), .t (.s (.int .i64 qm)), .t (.s (.bool qy)), .t (.s (.int .i64 qn)), .t (.im false (qB qq)), .t (.s (.bool qz)), .t (.s (.int .i64 qN)), .t (.s (.int .i64 qZ))])]⟩) ?_ ?_
   ·
    skip
    refine Run.seq ?_
    refine Run.region hL hT [] (by cbv) hq0 ?_
    refine Run.block ?_
    refine Run.loop1 (fun (z68 : Int) => ⟨148, 100000, [(2, .pt 1 0 0), (3, .pt 2 0 0), (5, .t (.s (.int .i64 x20))), (8, .t (.s (.int .i64 z68)))], [(1, .box 57 [.t (.im false (qB qO))]), (2, .box 38 [.t (.s (.int .i64 ql)), .t (.im false (qJ qP)), .t (.s (.int .i64 qm)), .t (.s (.bool qy)), .t (.s (.int .i64 qn)), .t (.im false (qB qq)), .t (.s (.bool qz)), .t (.s (.int .i64 qN)), .t (.s (.int .i64 qZ))])]⟩) (x0 := 0) h (Weak.of _ [(1, 1), (2, 2)] hA (by cbv) ?_) (fun _ => rfl) ?_
    · repeat (first | exact hq0 | refine hq (by first | exact Tt | rfl) ?_)
    ·
     intro k z68 h
     rw [qYB.l1] at h
     refine Run.seq ?_
     refine Run.seq ?_
     refine Run.region hL hT [] (by cbv) ?_ ?_
     · exact (hq Tt (hq Tt hq0))
     rw [show ln (qB qq) = qh qq from ln_eq Int_c _]
     refine Run.cond (by cbv) (hq0) (fun c69 => ?_) (fun c69 => ?_)
     ·
      have h := if_t c69 h
      refine Run.skip ?_
      refine Run.seq ?_
      refine Run.block ?_
      refine Run.seq ?_
      obtain ⟨x70, h_x70, h⟩ := bnd h
      obtain ⟨r71, h_r71, h⟩ := bnd h
      obtain ⟨x72, h_x72, h⟩ := bnd h
      refine Run.draw hL hT hM [(3, .el [.s (.int .i64 x70)]), (7, .call [false, false, false] [.v (.jk), .v (.jk), .v (.jk)] [.v (.s (.bool r71))]), (17, .el [.s (.int .i64 x72)]), (22, .el [.s (.int .i64 x70)])] (by cbv) (by cbv) (by cbv) (by cbv) (by cbv) ?_ ?_
      · exact (hq Tt (hq (qM h_x70) (hq (qb (f := Int_c) h_x70) (hq (qx (f := Int_c) h_x70) (hq Tt (hq (hC (qeB h_r71)) (hq (fun _ => hq0) (hq (fun g74 => (hq g74 (hq Tt hq0))) (hq (fun g75 => (hq g75 hq0)) (hq (fun _ => hq0) (hq (fun g77 => (hq g77 (hq Tt hq0))) (hq (fun _ => hq0) (hq (fun g79 => (hq g79 (hq Tt hq0))) (hq (fun g80 => (hq g80 (hq g80 (hq (qM (gd_t h_x72 g80)) (hq (qb (f := Int_c) (gd_t h_x72 g80)) (hq (qx (f := Int_c) (gd_t h_x72 g80)) hq0)))))) (hq (fun g81 => (hq g81 hq0)) (hq (fun _ => hq0) (hq (fun g83 => (hq g83 (hq Tt hq0))) (hq (fun _ => hq0) (hq (fun g85 => (hq g85 (hq g85 (hq (qM h_x70) (hq (qb (f := Int_c) h_x70) (hq (qx (f := Int_c) h_x70) hq0)))))) (hq (fun g86 => (hq g86 hq0)) (hq (fun g87 => (hq g87 (hq g87 (hq Tt hq0)))) (hq (fun g88 => (hq g88 (hq (fun q89 => (hq (bo_a g88 q89) hq0)) (hq (fun _ => hq0) hq0)))) (hq (fun _ => hq0) (hq (fun q92 => (hq (bo_m q92) hq0)) hq0))))))))))))))))))))))))
      refine Run.cond (by cbv) (hq0) (fun c93 => ?_) (fun c93 => ?_)
      ·
       have h := if_t c93 h
       refine Run.seq ?_
       refine Run.region hL hT [] (by cbv) hq0 ?_
       refine Run.ret ?_
       cases h
       refine ⟨_, _, by cbv, ?_, ?_⟩
       · exact LLe.r
       · exact (ALe.v LLe.r ALe.nil)
      ·
       have h := if_f c93 h
       refine Run.skip ?_
       refine Run.region hL hT [] (by cbv) ?_ ?_
       · exact (hq Tt hq0)
       refine ⟨(ar .add .i64 z68 1), h, Weak.of _ [(1, 1), (2, 2)] hA (by cbv) ?_⟩
       repeat (first | exact hq0 | refine hq (by first | exact Tt | rfl) ?_)
     ·
      have h := if_f c69 h
      refine Run.exit ?_
      refine ⟨(), h, Weak.of _ [(1, 1), (2, 2)] hA (by cbv) ?_⟩
      repeat (first | exact hq0 | refine hq (by first | exact Tt | rfl) ?_)
   ·
    intro y54 h
    rw [h_K55] at h
    refine Run.seq ?_
    refine Run.seq ?_
    obtain ⟨r94, h_r94, h⟩ := bnd h
    obtain ⟨r95, h_r95, h⟩ := bnd h
    refine Run.region hL hT [(3, .call [false, false, false] [.v (.jk), .v (.jk), .v (.jk)] [.v (.s (.bool r94))]), (8, .call [false, false, false] [.v (.jk), .v (.jk), .v (.jk)] [.v (.s (.bool r95))])] (by cbv) ?_ ?_
    · exact (hq Tt (hq (hC (qeB h_r94)) (hq (fun _ => hq0) (hq (fun g97 => (hq g97 (hq Tt hq0))) (hq (fun g98 => (hq g98 (hq (hC (qeB (gd_t h_r95 g98))) hq0))) (hq (fun g99 => (hq g99 hq0)) (hq (fun _ => hq0) (hq (fun q101 => (hq (bo_m q101) hq0)) (hq (fun _ => hq0) (hq (fun g103 => (hq g103 (hq Tt hq0))) (hq (fun g104 => (hq g104 (hq Tt hq0))) (hq (fun g105 => (hq g105 hq0)) (hq (fun _ => hq0) (hq (fun g107 => (hq g107 (hq Tt hq0))) (hq (fun g108 => (hq g108 (hq (fun q109 => (hq (bo_a g108 q109) hq0)) (hq (fun _ => hq0) hq0)))) (hq (fun _ => hq0) (hq (fun q112 => (hq (bo_m q112) hq0)) hq0)))))))))))))))))
    refine Run.cond (by cbv) (hq0) (fun c113 => ?_) (fun c113 => ?_)
    ·
     have h := if_t c113 h
     refine Run.seq ?_
     refine Run.region hL hT [] (by cbv) hq0 ?_
     refine Run.ret ?_
     cases h
     refine ⟨_, _, by cbv, ?_, ?_⟩
     · exact LLe.r
     · exact (ALe.v LLe.r ALe.nil)
    ·
     have h := if_f c113 h
     refine Run.skip ?_
     refine Run.seq ?_
     refine Run.seq ?_
     refine Run.region hL hT [] (by cbv) ?_ ?_
     · exact (hq Tt hq0)
     refine Run.cond (by cbv) (hq0) (fun c114 => ?_) (fun c114 => ?_)
     ·
      have h := if_t c114 h
      refine Run.seq ?_
      refine Run.region hL hT [] (by cbv) ?_ ?_
      · exact (hq Tt (hq Tt (hq (fun _ => hq0) (hq (fun g116 => (hq g116 (hq Tt hq0))) (hq (fun g117 => (hq g117 (hq Tt hq0))) (hq (fun q118 => (hq q118 hq0)) (hq (fun _ => hq0) hq0)))))))
      refine Run.ret ?_
      cases h
      refine ⟨_, _, by cbv, ?_, ?_⟩
      · exact LLe.r
      · exact (ALe.v LLe.r ALe.nil)
     ·
      have h := if_f c114 h
      refine Run.skip ?_
      refine Run.seq ?_
      obtain ⟨r120, qeX, h⟩ := bnd h
      obtain ⟨x121, qnU, h⟩ := bnd h
      obtain ⟨r122, qfX, h⟩ := bnd h
      refine Run.draw hL hT hM [(6, .call [false, false, false] [.v (.jk), .v (.jk), .v (.jk)] [.v (.s (.bool r120))]), (14, .el [.s (.int .i64 x121)]), (17, .call [false, false, false] [.v (.jk), .v (.jk), .v (.jk)] [.v (.s (.bool r122))])] (by cbv) (by cbv) (by cbv) (by cbv) (by cbv) ?_ ?_
      · exact (hq Tt (hq Tt (hq Tt (hq (by rw [show ln (qB qO) = qh qO from ln_eq Int_c _]; exact (hC (qeB qeX))) (hq (fun _ => hq0) (hq (fun g124 => (hq g124 (hq Tt hq0))) (hq (fun _ => hq0) (hq (fun g126 => (hq g126 (hq Tt hq0))) (hq (fun _ => hq0) (hq (fun g128 => (hq g128 (hq Tt hq0))) (hq (fun g129 => (hq g129 (hq g129 (hq (qM (gd_t qnU g129)) (hq (qb (f := Int_c) (gd_t qnU g129)) (hq (qx (f := Int_c) (gd_t qnU g129)) hq0)))))) (hq (fun g130 => (hq g130 hq0)) (hq (fun g131 => (hq g131 (hq Tt hq0))) (hq (fun g132 => (hq g132 (hq g132 (hq (hC (qeB (gd_t qfX g132))) hq0)))) (hq (fun q133 => (hq q133 hq0)) (hq (fun _ => hq0) hq0))))))))))))))))
      rw [show ln (qB qO) = qh qO from ln_eq Int_c _]
      refine Run.ret ?_
      cases h
      refine ⟨_, _, by cbv, ?_, ?_⟩
      · exact LLe.r
      · exact (ALe.v LLe.r ALe.nil)
theorem qKM {qcE : Int} {qGG : Int} {a0v_V : Int} {qGC : Int} {qv : List Int} {r : Bool} (h : qSF.f (Cond.mk qcE qGG a0v_V) (Row.mk qGC qv) = some r) : AC Tryz.prog 112 [.ag [.s (.int .i64 qcE), .s (.int .i64 qGG), .s (.int .i64 a0v_V)], .ag [.s (.int .i64 qGC), .im false (rowsOf Int_c qv)]] [.ag [.jk, .jk, .jk], .ag [.jk, .jk]] [.v (.s (.bool r))] := by
 unfold qSF.f at h
 let qB := rowsOf Int_c
 let qh := @lenI Int
 show AC Tryz.prog 112 [.ag [.s (.int .i64 qcE), .s (.int .i64 qGG), .s (.int .i64 a0v_V)], .ag [.s (.int .i64 qGC), .im false (qB qv)]] _ _
 refine run3 Tryz.func112 (by rfl) (by rfl) (by cbv) ⟨by decide, rfl⟩ ?_
 intro ar cm bo sc sa sx ss sl bs sb ln sr ap up rp fr ge le lt nz mm ma sm fl al ci hL F hP hA hT hM hC
 refine Run.seq ?_
 refine Run.region hL hT [] (by cbv) hq0 ?_
 refine Run.seq ?_
 refine Run.seq ?_
 obtain ⟨r1, h_r1, h⟩ := bnd h
 refine Run.region hL hT [(6, .call [false, false, false] [.v (.jk), .v (.jk), .v (.jk)] [.v (.s (.bool r1))])] (by cbv) ?_ ?_
 · exact (hq Tt (hq Tt (hq Tt (hq (by rw [show ln (qB qv) = qh qv from ln_eq Int_c _]; exact (hC (qeB h_r1))) hq0))))
 rw [show ln (qB qv) = qh qv from ln_eq Int_c _]
 refine Run.cond (by cbv) (hq0) (fun c2 => ?_) (fun c2 => ?_)
 ·
  have h := if_t c2 h
  refine Run.seq ?_
  refine Run.region hL hT [] (by cbv) hq0 ?_
  refine Run.ret ?_
  cases h
  refine ⟨_, _, by cbv, ?_, ?_⟩
  · exact LLe.r
  · exact (ALe.v LLe.r ALe.nil)
 ·
  have h := if_f c2 h
  refine Run.skip ?_
  refine Run.seq ?_
  obtain ⟨x3, h_x3, h⟩ := bnd h
  refine Run.region hL hT [(4, .el [.s (.int .i64 x3)])] (by cbv) ?_ ?_
  · exact (hq Tt (hq Tt (hq (qM h_x3) (hq (qb (f := Int_c) h_x3) (hq (qx (f := Int_c) h_x3) hq0)))))
  refine Run.seq ?_
  refine Run.seq ?_
  refine Run.region hL hT [] (by cbv) ?_ ?_
  · exact (hq Tt hq0)
  refine Run.block ?_
  refine Run.seq ?_
  refine Run.region hL hT [] (by cbv) ?_ ?_
  · exact (hq Tt hq0)
  refine Run.cond (by cbv) (hq0) (fun c4 => ?_) (fun c4 => ?_)
  ·
   have h := if_t c4 h
   refine Run.seq ?_
   refine Run.region hL hT [] (by cbv) ?_ ?_
   · exact (hq Tt (hq Tt hq0))
   refine Run.ret ?_
   cases h
   refine ⟨_, _, by cbv, ?_, ?_⟩
   · exact LLe.r
   · exact (ALe.v LLe.r ALe.nil)
  ·
   have h := if_f c4 h
   refine Run.seq ?_
   refine Run.region hL hT [] (by cbv) ?_ ?_
   · exact (hq Tt hq0)
   refine Run.cond (by cbv) (hq0) (fun c5 => ?_) (fun c5 => ?_)
   ·
    have h := if_t c5 h
    refine Run.seq ?_
    refine Run.region hL hT [] (by cbv) ?_ ?_
    · exact (hq Tt (hq Tt hq0))
    refine Run.ret ?_
    cases h
    refine ⟨_, _, by cbv, ?_, ?_⟩
    · exact LLe.r
    · exact (ALe.v LLe.r ALe.nil)
   ·
    have h := if_f c5 h
    refine Run.seq ?_
    refine Run.region hL hT [] (by cbv) ?_ ?_
    · exact (hq Tt hq0)
    refine Run.cond (by cbv) (hq0) (fun c6 => ?_) (fun c6 => ?_)
    ·
     have h := if_t c6 h
     refine Run.seq ?_
     refine Run.region hL hT [] (by cbv) ?_ ?_
     · exact (hq Tt (hq Tt hq0))
     refine Run.ret ?_
     cases h
     refine ⟨_, _, by cbv, ?_, ?_⟩
     · exact LLe.r
     · exact (ALe.v LLe.r ALe.nil)
    ·
     have h := if_f c6 h
     refine Run.seq ?_
     refine Run.region hL hT [] (by cbv) ?_ ?_
     · exact (hq Tt hq0)
     refine Run.cond (by cbv) (hq0) (fun c7 => ?_) (fun c7 => ?_)
     ·
      have h := if_t c7 h
      refine Run.seq ?_
      refine Run.region hL hT [] (by cbv) ?_ ?_
      · exact (hq Tt (hq Tt hq0))
      refine Run.ret ?_
      cases h
      refine ⟨_, _, by cbv, ?_, ?_⟩
      · exact LLe.r
      · exact (ALe.v LLe.r ALe.nil)
     ·
      have h := if_f c7 h
      refine Run.skip ?_
      refine Run.seq ?_
      refine Run.region hL hT [] (by cbv) hq0 ?_
      refine Run.ret ?_
      cases h
      refine ⟨_, _, by cbv, ?_, ?_⟩
      · exact LLe.r
      · exact (ALe.v LLe.r ALe.nil)
theorem qLM {qW : Int} {qS : List Cond} {qX : Int} {qi : Bool} {qY : Int} {qe : List Int} {qj : Bool} {qK : Int} {qQ : Int} {qGC : Int} {qv : List Int} {r : Bool} (h : qSC.f (Query.mk qW qS qX qi qY qe qj qK qQ) (Row.mk qGC qv) = some r) : AC Tryz.prog 85 [.ag [.s (.int .i64 qW), .im false (rowsOf Cond_c qS), .s (.int .i64 qX), .s (.bool qi), .s (.int .i64 qY), .im false (rowsOf Int_c qe), .s (.bool qj), .s (.int .i64 qK), .s (.int .i64 qQ)], .ag [.s (.int .i64 qGC), .im false (rowsOf Int_c qv)]] [.ag [.jk, .jk, .jk, .jk, .jk, .jk, .jk, .jk, .jk], .ag [.jk, .jk]] [.v (.s (.bool r))] := by
 unfold qSC.f at h
 let qJ := rowsOf Cond_c
 let qB := rowsOf Int_c
 let qWB := @lenI Cond
 show AC Tryz.prog 85 [.ag [.s (.int .i64 qW), .im false (qJ qS), .s (.int .i64 qX), .s (.bool qi), .s (.int .i64 qY), .im false (qB qe), .s (.bool qj), .s (.int .i64 qK), .s (.int .i64 qQ)], .ag [.s (.int .i64 qGC), .im false (qB qv)]] _ _
 refine run3 Tryz.func85 (by rfl) (by rfl) (by cbv) ⟨by decide, rfl⟩ ?_
 intro ar cm bo sc sa sx ss sl bs sb ln sr ap up rp fr ge le lt nz mm ma sm fl al ci hL F hP hA hT hM hC
 refine Run.seq ?_
 refine Run.region hL hT [] (by cbv) hq0 ?_
 refine Run.seq ?_
 refine Run.seq ?_
 refine Run.region hL hT [] (by cbv) hq0 ?_
 refine Run.block ?_
 refine Run.loop1 (fun (z13 : Int) => ⟨21, 100000, [(2, .pt 1 0 0), (3, .pt 2 0 0), (5, .t (.s (.int .i64 z13)))], [(1, .box 38 [.t (.s (.int .i64 qW)), .t (.im false (qJ qS)), .t (.s (.int .i64 qX)), .t (.s (.bool qi)), .t (.s (.int .i64 qY)), .t (.im false (qB qe)), .t (.s (.bool qj)), .t (.s (.int .i64 qK)), .t (.s (.int .i64 qQ))]), (2, .box 91 [.t (.s (.int .i64 qGC)), .t (.im false (qB qv))])]⟩) (x0 := 0) h (Weak.of _ [(1, 0), (2, 1)] hA (by cbv) ?_) (fun _ => rfl) ?_
 · repeat (first | exact hq0 | refine hq (by first | exact Tt | rfl) ?_)
 ·
  intro k z13 h
  rw [qSC.l0] at h
  refine Run.seq ?_
  refine Run.seq ?_
  refine Run.region hL hT [] (by cbv) ?_ ?_
  · exact (hq Tt (hq Tt hq0))
  rw [show ln (qJ qS) = qWB qS from ln_eq Cond_c _]
  refine Run.cond (by cbv) (hq0) (fun c14 => ?_) (fun c14 => ?_)
  ·
   have h := if_t c14 h
   refine Run.skip ?_
   refine Run.seq ?_
   refine Run.block ?_
   refine Run.seq ?_
   obtain ⟨⟨qmV, qsW, qgX⟩, h_x15, h⟩ := bnd h
   obtain ⟨r16, h_r16, h⟩ := bnd h
   refine Run.draw hL hT hM [(3, .el [.s (.int .i64 qmV), .s (.int .i64 qsW), .s (.int .i64 qgX)]), (6, .call [false, false] [.ag [.jk, .jk, .jk], .ag [.jk, .jk]] [.v (.s (.bool r16))])] (by cbv) (by cbv) (by cbv) (by cbv) (by cbv) ?_ ?_
   · exact (hq Tt (hq (qM h_x15) (hq (qb (f := Cond_c) h_x15) (hq (qx (f := Cond_c) h_x15) (hq Tt (hq (hC (qKM h_r16)) hq0))))))
   refine Run.cond (by cbv) (hq0) (fun c17 => ?_) (fun c17 => ?_)
   ·
    have h := if_t c17 h
    refine Run.seq ?_
    refine Run.region hL hT [] (by cbv) hq0 ?_
    refine Run.ret ?_
    cases h
    refine ⟨_, _, by cbv, ?_, ?_⟩
    · exact LLe.r
    · exact (ALe.v LLe.r ALe.nil)
   ·
    have h := if_f c17 h
    refine Run.skip ?_
    refine Run.region hL hT [] (by cbv) ?_ ?_
    · exact (hq Tt hq0)
    refine ⟨(ar .add .i64 z13 1), h, Weak.of _ [(1, 1), (2, 2)] hA (by cbv) ?_⟩
    repeat (first | exact hq0 | refine hq (by first | exact Tt | rfl) ?_)
  ·
   have h := if_f c14 h
   refine Run.exit ?_
   refine Run.seq ?_
   refine Run.region hL hT [] (by cbv) hq0 ?_
   refine Run.ret ?_
   cases h
   refine ⟨_, _, by cbv, ?_, ?_⟩
   · exact LLe.r
   · exact (ALe.v LLe.r ALe.nil)
theorem qRP {qW : Int} {qS : List Cond} {qX : Int} {qi : Bool} {qY : Int} {qe : List Int} {qj : Bool} {qK : Int} {qQ : Int} {qGC : Int} {qv : List Int} {qsD : Int} {qLB : List Int} {r : Bool} (h : qwG.f (Query.mk qW qS qX qi qY qe qj qK qQ) (Row.mk qGC qv) (Row.mk qsD qLB) = some r) : AC Tryz.prog 113 [.ag [.s (.int .i64 qW), .im false (rowsOf Cond_c qS), .s (.int .i64 qX), .s (.bool qi), .s (.int .i64 qY), .im false (rowsOf Int_c qe), .s (.bool qj), .s (.int .i64 qK), .s (.int .i64 qQ)], .ag [.s (.int .i64 qGC), .im false (rowsOf Int_c qv)], .ag [.s (.int .i64 qsD), .im false (rowsOf Int_c qLB)]] [.ag [.jk, .jk, .jk, .jk, .jk, .jk, .jk, .jk, .jk], .ag [.jk, .jk], .ag [.jk, .jk]] [.v (.s (.bool r))] := by
 unfold qwG.f at h
 let qJ := rowsOf Cond_c
 let qB := rowsOf Int_c
 show AC Tryz.prog 113 [.ag [.s (.int .i64 qW), .im false (qJ qS), .s (.int .i64 qX), .s (.bool qi), .s (.int .i64 qY), .im false (qB qe), .s (.bool qj), .s (.int .i64 qK), .s (.int .i64 qQ)], .ag [.s (.int .i64 qGC), .im false (qB qv)], .ag [.s (.int .i64 qsD), .im false (qB qLB)]] _ _
 refine run3 Tryz.func113 (by rfl) (by rfl) (by cbv) ⟨by decide, rfl⟩ ?_
 intro ar cm bo sc sa sx ss sl bs sb ln sr ap up rp fr ge le lt nz mm ma sm fl al ci hL F hP hA hT hM hC
 refine Run.seq ?_
 refine Run.region hL hT [] (by cbv) hq0 ?_
 refine Run.seq ?_
 refine Run.seq ?_
 refine Run.region hL hT [] (by cbv) ?_ ?_
 · exact (hq Tt (hq Tt hq0))
 refine Run.cond (by cbv) (hq0) (fun c1 => ?_) (fun c1 => ?_)
 ·
  have h := if_t c1 h
  refine Run.seq ?_
  obtain ⟨r2, h_r2, h⟩ := bnd h
  obtain ⟨r3, h_r3, h⟩ := bnd h
  refine Run.draw hL hT hM [(4, .call [false, false] [.ag [.jk, .jk], .v (.jk)] [.v (.s (.int .i64 r2))]), (9, .call [false, false] [.ag [.jk, .jk], .v (.jk)] [.v (.s (.int .i64 r3))])] (by cbv) (by cbv) (by cbv) (by cbv) (by cbv) ?_ ?_
  · exact (hq Tt (hq Tt (hq Tt (hq (hC (qiG h_r2)) (hq Tt (hq Tt (hq Tt (hq (hC (qiG h_r3)) hq0))))))))
  refine Run.seq ?_
  refine Run.region hL hT [] (by cbv) ?_ ?_
  · exact (hq Tt hq0)
  refine Run.cond (by cbv) (hq0) (fun c4 => ?_) (fun c4 => ?_)
  ·
   have h := if_t c4 h
   refine Run.seq ?_
   refine Run.region hL hT [] (by cbv) ?_ ?_
   · exact (hq Tt (hq Tt hq0))
   refine Run.ret ?_
   cases h
   refine ⟨_, _, by cbv, ?_, ?_⟩
   · exact LLe.r
   · exact (ALe.v LLe.r ALe.nil)
  ·
   have h := if_f c4 h
   refine Run.skip ?_
   refine Run.seq ?_
   refine Run.region hL hT [] (by cbv) ?_ ?_
   · exact (hq Tt (hq Tt (hq Tt hq0)))
   refine Run.ret ?_
   cases h
   refine ⟨_, _, by cbv, ?_, ?_⟩
   · exact LLe.r
   · exact (ALe.v LLe.r ALe.nil)
 ·
  have h := if_f c1 h
  refine Run.skip ?_
  refine Run.seq ?_
  refine Run.region hL hT [] (by cbv) ?_ ?_
  · exact (hq Tt (hq Tt (hq Tt hq0)))
  refine Run.ret ?_
  cases h
  refine ⟨_, _, by cbv, ?_, ?_⟩
  · exact LLe.r
  · exact (ALe.v LLe.r ALe.nil)
theorem qXI {qCD : Int} {qKB : List Int} {r : Row} (h : qZE.f (Row.mk qCD qKB) = some r) : AC Tryz.prog 114 [.ag [.s (.int .i64 qCD), .im false (rowsOf Int_c qKB)]] [.ag [.jk, .jk]] [.ag [.s (.int .i64 r.Id), .ow 3 (rowsOf Int_c r.Cells)]] := by
 unfold qZE.f at h
 let qB := rowsOf Int_c
 show AC Tryz.prog 114 [.ag [.s (.int .i64 qCD), .im false (qB qKB)]] _ _
 refine run3 Tryz.func114 (by rfl) (by rfl) (by cbv) ⟨by decide, rfl⟩ ?_
 intro ar cm bo sc sa sx ss sl bs sb ln sr ap up rp fr ge le lt nz mm ma sm fl al ci hL F hP hA hT hM hC
 refine Run.seq ?_
 refine Run.region hL hT [] (by cbv) hq0 ?_
 refine Run.seq ?_
 obtain ⟨l1, h_l1, h⟩ := bnd h
 refine Run.draw hL hT hM [] (by cbv) (by cbv) (by cbv) (by cbv) (by cbv) ?_ ?_
 · exact (hq Tt (hq Tt (hq (qtV qiU _) (hq (qLE (P := Tryz.prog) (f := Int_c) RLe.r RLe.r h_l1) (hq Tt hq0)))))
 refine Run.row (rows := (ap ([]) ((qB qKB)))) 4101 (qB l1) (by cbv) (qKE (f := Int_c) RLe.r RLe.r h_l1) ?_
 refine Run.ret ?_
 cases h
 refine ⟨_, _, by cbv, ?_, ?_⟩
 · exact LLe.r
 · exact (ALe.ag rfl LLe.r ALe.nil)
theorem qMN {qW : Int} {qS : List Cond} {qX : Int} {qi : Bool} {qY : Int} {qe : List Int} {qj : Bool} {qK : Int} {qQ : Int} {a1 : List Row} {qsD : Int} {qLB : List Int} {r : (List Row)} (h : qHC.f (Query.mk qW qS qX qi qY qe qj qK qQ) a1 (Row.mk qsD qLB) = some r) : AC Tryz.prog 86 [.ag [.s (.int .i64 qW), .im false (rowsOf Cond_c qS), .s (.int .i64 qX), .s (.bool qi), .s (.int .i64 qY), .im false (rowsOf Int_c qe), .s (.bool qj), .s (.int .i64 qK), .s (.int .i64 qQ)], .v (.ow 91 (rowsOf Row_o a1)), .ag [.s (.int .i64 qsD), .im false (rowsOf Int_c qLB)]] [.ag [.jk, .jk, .jk, .jk, .jk, .jk, .jk, .jk, .jk], .v (.jk), .ag [.jk, .jk]] [.v (.ow 91 (rowsOf Row_o r))] := by
 unfold qHC.f at h
 let qJ := rowsOf Cond_c
 let qB := rowsOf Int_c
 let qf := rowsOf Row_o
 let qDB := @lenI Row
 let jp := jpR
 show AC Tryz.prog 86 [.ag [.s (.int .i64 qW), .im false (qJ qS), .s (.int .i64 qX), .s (.bool qi), .s (.int .i64 qY), .im false (qB qe), .s (.bool qj), .s (.int .i64 qK), .s (.int .i64 qQ)], .v (.ow 91 (qf a1)), .ag [.s (.int .i64 qsD), .im false (qB qLB)]] _ _
 refine run3 Tryz.func86 (by rfl) (by rfl) (by cbv) ⟨by decide, rfl⟩ ?_
 intro ar cm bo sc sa sx ss sl bs sb ln sr ap up rp fr ge le lt nz mm ma sm fl al ci hL F hP hA hT hM hC
 refine Run.seq ?_
 refine Run.region hL hT [] (by cbv) hq0 ?_
 refine Run.seq ?_
 refine Run.region hL hT [] (by cbv) hq0 ?_
 refine Run.seq ?_
 refine Run.region hL hT [] (by cbv) hq0 ?_
 obtain ⟨K4, h_K4, h⟩ := joinE h
 refine Run.join3 K4 (r := r) (fun (y1 : List Row) (y2 : Bool) (y3 : Int) => ⟨48, 100000, [(5, .pt 1 0 0), (7, .rf 2), (8, .t (.s (.bool y2)))], [(0, .row 0 91 2 ((jp y3 (qf a1)))), (1, .box 91 [.t (.s (.int .i64 qsD)), .t (.im false (qB qLB))]), (2, .row 0 91 2 (qf y1))]⟩) ?_ ?_
 ·
  skip
  refine Run.seq ?_
  refine Run.region hL hT [] (by cbv) hq0 ?_
  refine Run.block ?_
  refine Run.loop3 (fun (z20 : List Row) (z21 : Bool) (z22 : Int) => ⟨48, 100000, [(1, .rf 0), (3, .pt 1 0 0), (5, .pt 2 0 0), (7, .rf 3), (8, .t (.s (.bool z21))), (9, .t (.s (.int .i64 z22)))], [(0, .row 0 91 2 ((jp z22 (qf a1)))), (1, .box 38 [.t (.s (.int .i64 qW)), .t (.im false (qJ qS)), .t (.s (.int .i64 qX)), .t (.s (.bool qi)), .t (.s (.int .i64 qY)), .t (.im false (qB qe)), .t (.s (.bool qj)), .t (.s (.int .i64 qK)), .t (.s (.int .i64 qQ))]), (2, .box 91 [.t (.s (.int .i64 qsD)), .t (.im false (qB qLB))]), (3, .row 0 91 2 (qf z20))]⟩) (x0 := []) (x1 := false) (x2 := 0) h ((Weak.row (rows := qf a1) 0 (jp 0 (qf a1)) (by cbv) (RLe.eq (jp_0 _).symm)).trans (Weak.of _ [(0, 0), (1, 1), (2, 2), (3, 4097)] hA (by cbv) ?_)) (fun _ _ _ => rfl) ?_
  · repeat (first | exact hq0 | refine hq (by first | exact Tt | rfl) ?_)
  ·
   intro k z20 z21 z22 h
   rw [qHC.l0] at h
   refine Run.seq ?_
   refine Run.seq ?_
   refine Run.region hL hT [] (by cbv) ?_ ?_
   · exact (hq Tt hq0)
   rw [show ln (jp z22 (qf a1)) = qDB a1 from jp_ln (f := Row_o) _ _]
   refine Run.cond (by cbv) (hq0) (fun c23 => ?_) (fun c23 => ?_)
   ·
    have h := if_t c23 h
    refine Run.skip ?_
    refine Run.seq ?_
    refine Run.block ?_
    refine Run.seq ?_
    refine Run.seq ?_
    obtain ⟨⟨qtW, qPT⟩, h_x24, h⟩ := bnd h
    obtain ⟨r25, h_r25, h⟩ := bnd h
    refine Run.draw hL hT hM [(8, .el [.s (.int .i64 qtW), .ow 3 (qB qPT)]), (9, .call [false, false, false] [.ag [.jk, .jk, .jk, .jk, .jk, .jk, .jk, .jk, .jk], .ag [.jk, .jk], .ag [.jk, .jk]] [.v (.s (.bool r25))])] (by cbv) (by cbv) (by cbv) (by cbv) (by cbv) ?_ ?_
    · exact (hq (fun g26 => (hq Tt hq0)) (hq (fun g27 => (hq Tt hq0)) (hq (fun _ => hq0) (hq (fun _ => hq0) (hq (fun g30 => (hq g30 (hq g30 (hq (qM (gd_t h_x24 g30)) (hq (jp_lt (f := Row_o) (gd_t h_x24 g30)) hq0))))) (hq (fun g31 => (hq g31 (hq (qM (gd_t h_x24 g31)) (hq (jp_lt (f := Row_o) (gd_t h_x24 g31)) (hq (jp_ge (f := Row_o) (gd_t h_x24 g31)) hq0))))) (hq (fun g32 => (hq g32 (hq g32 (hq g32 (hq (hC (AC.args (qRP (gd_t h_r25 g32)) (ALe.ag rfl LLe.r (ALe.ag rfl LLe.r (ALe.ag rfl (LLe.c (LLe.cons (LLe.im (RLe.eq (qmB qBD _))) LLe.nil)) ALe.nil))))) hq0))))) (hq (fun q33 => (hq q33 hq0)) (hq (fun _ => hq0) hq0)))))))))
    refine Run.cond (by cbv) (hq0) (fun c35 => ?_) (fun c35 => ?_)
    ·
     have h := if_t c35 h
     refine Run.seq ?_
     obtain ⟨⟨r36v_Id, r36v_Cells⟩, h_r36, h⟩ := bnd h
     obtain ⟨l37, h_l37, h⟩ := bnd h
     obtain ⟨l38, h_l38, h⟩ := bnd h
     refine Run.region hL hT [(2, .call [false] [.ag [.jk, .jk]] [.ag [.s (.int .i64 r36v_Id), .ow 3 (qB r36v_Cells)]])] (by cbv) ?_ ?_
     · exact (hq Tt (hq (hC (qXI h_r36)) (hq (qLE (P := Tryz.prog) (f := Row_o) RLe.r (qvB (f := Row_o) h_l37 (RLe.cons rfl LLe.r RLe.nil)) h_l38) hq0)))
     refine Run.row (rows := (ap (qf z20) ([[.s (.int .i64 r36v_Id), .ow 3 (qB r36v_Cells)]]))) 108196 (qf l38) (by cbv) (qKE (f := Row_o) RLe.r (qvB (f := Row_o) h_l37 (RLe.cons rfl LLe.r RLe.nil)) h_l38) ?_
     refine Run.region hL hT [] (by cbv) hq0 ?_
     obtain ⟨⟨qoU, qEO⟩, h_x39, h⟩ := bnd h
     obtain ⟨u40, h_u40, h⟩ := bnd h
     obtain ⟨l41, h_l41, h⟩ := bnd h
     obtain ⟨l42, h_l42, h⟩ := bnd h
     refine Run.weak ?_ (Weak.take (rows := (jp z22 (qf a1))) (e2 := 3) (r2 := qB qEO) hT 0 z22 1 119384 1119384 (by cbv) (by cbv) (by cbv) (qcC h_x39) (qCS Row_o h_x39) ((congrArg (fun q => q[1]?) (jp_ge (f := Row_o) h_x39)).trans rfl) rfl (up (jp z22 (qf a1)) z22 1 [.jk]) rfl)
     refine Run.region hL hT [(4, .lk [.s (.int .i64 qoU), .jk] [(1, 1119384)])] (by cbv) ?_ ?_
     · exact (hq (qM h_x39) (hq (qDS Row_o h_x39) (hq Tt (hq (qM h_x39) (hq (qDS Row_o h_x39) (hq (qwV Row_o h_x39) (hq (qLE (P := Tryz.prog) (f := Row_o) RLe.r (qvB (f := Row_o) h_l41 (RLe.cons rfl LLe.r RLe.nil)) h_l42) hq0)))))))
     refine Run.weak ?_ (Weak.row (rows := (up (jp z22 (qf a1)) z22 1 [.jk])) 0 (jp (ar .add .i64 z22 1) (qf a1)) (by cbv) (qHU (f := Row_o) h_x39 h_u40 (ltn (qjI _) (by decide))))
     refine Run.row (rows := (ap (qf l38) ([[.s (.int .i64 qoU), .ow 3 (qB qEO)]]))) 116390 (qf l42) (by cbv) (qKE (f := Row_o) RLe.r (qvB (f := Row_o) h_l41 (RLe.cons rfl LLe.r RLe.nil)) h_l42) ?_
     refine Run.region hL hT [] (by cbv) ?_ ?_
     · exact (hq Tt hq0)
     refine ⟨l42, true, (ar .add .i64 z22 1), h, Weak.of _ [(0, 0), (1, 1), (2, 2), (3, 116390)] hA (by cbv) ?_⟩
     repeat (first | exact hq0 | refine hq (by first | exact Tt | rfl) ?_)
    ·
     have h := if_f c35 h
     refine Run.skip ?_
     obtain ⟨⟨qpU, qFO⟩, h_x43, h⟩ := bnd h
     obtain ⟨u44, h_u44, h⟩ := bnd h
     obtain ⟨l45, h_l45, h⟩ := bnd h
     obtain ⟨l46, h_l46, h⟩ := bnd h
     refine Run.weak ?_ (Weak.take (rows := (jp z22 (qf a1))) (e2 := 3) (r2 := qB qFO) hT 0 z22 1 111192 1111192 (by cbv) (by cbv) (by cbv) (qcC h_x43) (qCS Row_o h_x43) ((congrArg (fun q => q[1]?) (jp_ge (f := Row_o) h_x43)).trans rfl) rfl (up (jp z22 (qf a1)) z22 1 [.jk]) rfl)
     refine Run.region hL hT [(4, .lk [.s (.int .i64 qpU), .jk] [(1, 1111192)])] (by cbv) ?_ ?_
     · exact (hq (qM h_x43) (hq (qDS Row_o h_x43) (hq Tt (hq (qM h_x43) (hq (qDS Row_o h_x43) (hq (qwV Row_o h_x43) (hq (qLE (P := Tryz.prog) (f := Row_o) RLe.r (qvB (f := Row_o) h_l45 (RLe.cons rfl LLe.r RLe.nil)) h_l46) hq0)))))))
     refine Run.weak ?_ (Weak.row (rows := (up (jp z22 (qf a1)) z22 1 [.jk])) 0 (jp (ar .add .i64 z22 1) (qf a1)) (by cbv) (qHU (f := Row_o) h_x43 h_u44 (ltn (qjI _) (by decide))))
     refine Run.row (rows := (ap (qf z20) ([[.s (.int .i64 qpU), .ow 3 (qB qFO)]]))) 108198 (qf l46) (by cbv) (qKE (f := Row_o) RLe.r (qvB (f := Row_o) h_l45 (RLe.cons rfl LLe.r RLe.nil)) h_l46) ?_
     refine Run.region hL hT [] (by cbv) ?_ ?_
     · exact (hq Tt hq0)
     refine ⟨l46, z21, (ar .add .i64 z22 1), h, Weak.of _ [(0, 0), (1, 1), (2, 2), (3, 108198)] hA (by cbv) ?_⟩
     repeat (first | exact hq0 | refine hq (by first | exact Tt | rfl) ?_)
   ·
    have h := if_f c23 h
    refine Run.exit ?_
    refine ⟨z20, z21, z22, h, Weak.of _ [(0, 0), (1, 2), (2, 3)] hA (by cbv) ?_⟩
    repeat (first | exact hq0 | refine hq (by first | exact Tt | rfl) ?_)
 ·
  intro y1 y2 y3 h
  rw [h_K4] at h
  refine Run.seq ?_
  refine Run.seq ?_
  refine Run.region hL hT [] (by cbv) hq0 ?_
  refine Run.cond (by cbv) (hq0) (fun c47 => ?_) (fun c47 => ?_)
  ·
   have h := if_t c47 h
   obtain ⟨⟨r48v_Id, r48v_Cells⟩, h_r48, h⟩ := bnd h
   obtain ⟨l49, h_l49, h⟩ := bnd h
   obtain ⟨l50, h_l50, h⟩ := bnd h
   refine Run.region hL hT [(2, .call [false] [.ag [.jk, .jk]] [.ag [.s (.int .i64 r48v_Id), .ow 3 (qB r48v_Cells)]])] (by cbv) ?_ ?_
   · exact (hq Tt (hq (hC (qXI h_r48)) (hq (qLE (P := Tryz.prog) (f := Row_o) RLe.r (qvB (f := Row_o) h_l49 (RLe.cons rfl LLe.r RLe.nil)) h_l50) hq0)))
   refine Run.row (rows := (ap (qf y1) ([[.s (.int .i64 r48v_Id), .ow 3 (qB r48v_Cells)]]))) 104100 (qf l50) (by cbv) (qKE (f := Row_o) RLe.r (qvB (f := Row_o) h_l49 (RLe.cons rfl LLe.r RLe.nil)) h_l50) ?_
   refine Run.seq ?_
   refine Run.region hL hT [] (by cbv) hq0 ?_
   refine Run.ret ?_
   cases h
   refine ⟨_, _, by cbv, ?_, ?_⟩
   · exact (LLe.c (LLe.c (LLe.c (LLe.c (LLe.c (LLe.c (LLe.c (LLe.c (LLe.c (LLe.cons LLe.jk (LLe.c (LLe.c LLe.nil))))))))))))
   · exact (ALe.v LLe.r ALe.nil)
  ·
   have h := if_f c47 h
   refine Run.skip ?_
   refine Run.seq ?_
   refine Run.region hL hT [] (by cbv) hq0 ?_
   refine Run.ret ?_
   cases h
   refine ⟨_, _, by cbv, ?_, ?_⟩
   · exact (LLe.c (LLe.c (LLe.c (LLe.c (LLe.c (LLe.c (LLe.c (LLe.c (LLe.c (LLe.cons LLe.jk (LLe.c (LLe.c LLe.nil))))))))))))
   · exact (ALe.v LLe.r ALe.nil)
theorem qMM {qF : List Int} {qV : Int} {qT : List (List Row)} {ql : Int} {qP : List Cond} {qm : Int} {qy : Bool} {qn : Int} {qq : List Int} {qz : Bool} {qN : Int} {qZ : Int} {r : (List Row)} (h : qTC.f (Store.mk (Schema.mk qF) qV qT) (Query.mk ql qP qm qy qn qq qz qN qZ) = some r) : AC Tryz.prog 48 [.ag [.im false (rowsOf Int_c qF), .s (.int .i64 qV), .im false (rowsOf RowS_i qT)], .ag [.s (.int .i64 ql), .im false (rowsOf Cond_c qP), .s (.int .i64 qm), .s (.bool qy), .s (.int .i64 qn), .im false (rowsOf Int_c qq), .s (.bool qz), .s (.int .i64 qN), .s (.int .i64 qZ)]] [.ag [.jk, .jk, .jk], .ag [.jk, .jk, .jk, .jk, .jk, .jk, .jk, .jk, .jk]] [.v (.ow 91 (rowsOf Row_o r))] := by
 unfold qTC.f at h
 let qJ := rowsOf Cond_c
 let qB := rowsOf Int_c
 let qUB := rowsOf RowS_i
 let qMB := rowsOf Row_i
 let qf := rowsOf Row_o
 let qDB := @lenI Row
 show AC Tryz.prog 48 [.ag [.im false (qB qF), .s (.int .i64 qV), .im false (qUB qT)], .ag [.s (.int .i64 ql), .im false (qJ qP), .s (.int .i64 qm), .s (.bool qy), .s (.int .i64 qn), .im false (qB qq), .s (.bool qz), .s (.int .i64 qN), .s (.int .i64 qZ)]] _ _
 refine run3 Tryz.func48 (by rfl) (by rfl) (by cbv) ⟨by decide, rfl⟩ ?_
 intro ar cm bo sc sa sx ss sl bs sb ln sr ap up rp fr ge le lt nz mm ma sm fl al ci hL F hP hA hT hM hC
 refine Run.seq ?_
 refine Run.region hL hT [] (by cbv) hq0 ?_
 refine Run.seq ?_
 refine Run.region hL hT [] (by cbv) hq0 ?_
 refine Run.seq ?_
 refine Run.seq ?_
 obtain ⟨r1, h_r1, h⟩ := bnd h
 obtain ⟨r2, h_r2, h⟩ := bnd h
 refine Run.region hL hT [(1, .call [false] [.ag [.jk, .jk, .jk]] [.v (.s (.bool r1))]), (7, .call [false, false] [.ag [.jk], .ag [.jk, .jk, .jk, .jk, .jk, .jk, .jk, .jk, .jk]] [.v (.s (.bool r2))])] (by cbv) ?_ ?_
 · exact (hq Tt (hq (hC (qEG h_r1)) (hq (fun _ => hq0) (hq (fun g4 => (hq g4 (hq Tt hq0))) (hq (fun g5 => (hq Tt hq0)) (hq (fun g6 => (hq g6 (hq g6 (hq (hC (qFG (gd_t h_r2 g6))) hq0)))) (hq (fun g7 => (hq g7 hq0)) (hq (fun _ => hq0) (hq (fun q9 => (hq (bo_m q9) hq0)) hq0)))))))))
 refine Run.cond (by cbv) (hq0) (fun c10 => ?_) (fun c10 => ?_)
 ·
  have h := if_t c10 h
  refine Run.seq ?_
  refine Run.region hL hT [] (by cbv) hq0 ?_
  refine Run.ret ?_
  cases h
  refine ⟨_, _, by cbv, ?_, ?_⟩
  · exact LLe.r
  · exact (ALe.v LLe.r ALe.nil)
 ·
  have h := if_f c10 h
  refine Run.skip ?_
  refine Run.seq ?_
  obtain ⟨x11, h_x11, h⟩ := bnd h
  refine Run.region hL hT [(4, .el [.im false (qMB x11)])] (by cbv) ?_ ?_
  · exact (hq Tt (hq Tt (hq (qM h_x11) (hq (qb (f := RowS_i) h_x11) (hq (qx (f := RowS_i) h_x11) hq0)))))
  refine Run.seq ?_
  refine Run.seq ?_
  refine Run.region hL hT [] (by cbv) hq0 ?_
  refine Run.block ?_
  refine Run.loop2 (fun (z24 : List Row) (z25 : Int) => ⟨46, 100000, [(3, .pt 1 0 0), (5, .rf 2), (6, .t (.im false (qMB x11))), (7, .t (.s (.int .i64 z25)))], [(1, .box 38 [.t (.s (.int .i64 ql)), .t (.im false (qJ qP)), .t (.s (.int .i64 qm)), .t (.s (.bool qy)), .t (.s (.int .i64 qn)), .t (.im false (qB qq)), .t (.s (.bool qz)), .t (.s (.int .i64 qN)), .t (.s (.int .i64 qZ))]), (2, .row 0 91 2 (qf z24))]⟩) (x0 := []) (x1 := 0) h (Weak.of _ [(1, 1), (2, 4096)] hA (by cbv) ?_) (fun _ _ => rfl) ?_
  · repeat (first | exact hq0 | refine hq (by first | exact Tt | rfl) ?_)
  ·
   intro k z24 z25 h
   rw [qTC.l0] at h
   refine Run.seq ?_
   refine Run.seq ?_
   refine Run.region hL hT [] (by cbv) ?_ ?_
   · exact (hq Tt hq0)
   rw [show ln (qMB x11) = qDB x11 from ln_eq Row_i _]
   refine Run.cond (by cbv) (hq0) (fun c26 => ?_) (fun c26 => ?_)
   ·
    have h := if_t c26 h
    refine Run.skip ?_
    refine Run.seq ?_
    refine Run.block ?_
    refine Run.seq ?_
    obtain ⟨⟨qqU, qGO⟩, h_x27, h⟩ := bnd h
    obtain ⟨r28, h_r28, h⟩ := bnd h
    refine Run.draw hL hT hM [(3, .el [.s (.int .i64 qqU), .im false (qB qGO)]), (5, .call [false, false] [.ag [.jk, .jk, .jk, .jk, .jk, .jk, .jk, .jk, .jk], .ag [.jk, .jk]] [.v (.s (.bool r28))])] (by cbv) (by cbv) (by cbv) (by cbv) (by cbv) ?_ ?_
    · exact (hq Tt (hq (qM h_x27) (hq (qb (f := Row_i) h_x27) (hq (qx (f := Row_i) h_x27) (hq (hC (qLM h_r28)) hq0)))))
    refine Run.cond (by cbv) (hq0) (fun c29 => ?_) (fun c29 => ?_)
    ·
     have h := if_t c29 h
     obtain ⟨r30, h_r30, h⟩ := bnd h
     refine Run.draw hL hT hM [(4, .el [.s (.int .i64 qqU), .im false (qB qGO)]), (6, .call [false, true, false] [.ag [.jk, .jk, .jk, .jk, .jk, .jk, .jk, .jk, .jk], .v (.jk), .ag [.jk, .jk]] [.v (.ow 91 (qf r30))])] (by cbv) (by cbv) (by cbv) (by cbv) (by cbv) ?_ ?_
     · exact (hq Tt (hq (qM h_x27) (hq (qb (f := Row_i) h_x27) (hq (qx (f := Row_i) h_x27) (hq (hC (qMN h_r30)) hq0)))))
     refine Run.region hL hT [] (by cbv) ?_ ?_
     · exact (hq Tt hq0)
     refine ⟨r30, (ar .add .i64 z25 1), h, Weak.of _ [(1, 1), (2, 108198)] hA (by cbv) ?_⟩
     repeat (first | exact hq0 | refine hq (by first | exact Tt | rfl) ?_)
    ·
     have h := if_f c29 h
     refine Run.skip ?_
     refine Run.region hL hT [] (by cbv) ?_ ?_
     · exact (hq Tt hq0)
     refine ⟨z24, (ar .add .i64 z25 1), h, Weak.of _ [(1, 1), (2, 2)] hA (by cbv) ?_⟩
     repeat (first | exact hq0 | refine hq (by first | exact Tt | rfl) ?_)
   ·
    have h := if_f c26 h
    refine Run.exit ?_
    refine Run.seq ?_
    refine Run.region hL hT [] (by cbv) hq0 ?_
    refine Run.ret ?_
    cases h
    refine ⟨_, _, by cbv, ?_, ?_⟩
    · exact LLe.r
    · exact (ALe.v LLe.r ALe.nil)
theorem qNN {qF : List Int} {qV : Int} {qT : List (List Row)} {ql : Int} {qP : List Cond} {qm : Int} {qy : Bool} {qn : Int} {qq : List Int} {qz : Bool} {qN : Int} {qZ : Int} {a2 : Int} {r : Int} (h : qeC.f (Store.mk (Schema.mk qF) qV qT) (Query.mk ql qP qm qy qn qq qz qN qZ) a2 = some r) : AC Tryz.prog 49 [.ag [.im false (rowsOf Int_c qF), .s (.int .i64 qV), .im false (rowsOf RowS_i qT)], .ag [.s (.int .i64 ql), .im false (rowsOf Cond_c qP), .s (.int .i64 qm), .s (.bool qy), .s (.int .i64 qn), .im false (rowsOf Int_c qq), .s (.bool qz), .s (.int .i64 qN), .s (.int .i64 qZ)], .v (.s (.int .i64 a2))] [.ag [.jk, .jk, .jk], .ag [.jk, .jk, .jk, .jk, .jk, .jk, .jk, .jk, .jk], .v (.jk)] [.v (.s (.int .i64 r))] := by
 unfold qeC.f at h
 let qJ := rowsOf Cond_c
 let qB := rowsOf Int_c
 let qUB := rowsOf RowS_i
 let qMB := rowsOf Row_i
 let qDB := @lenI Row
 show AC Tryz.prog 49 [.ag [.im false (qB qF), .s (.int .i64 qV), .im false (qUB qT)], .ag [.s (.int .i64 ql), .im false (qJ qP), .s (.int .i64 qm), .s (.bool qy), .s (.int .i64 qn), .im false (qB qq), .s (.bool qz), .s (.int .i64 qN), .s (.int .i64 qZ)], .v (.s (.int .i64 a2))] _ _
 refine run3 Tryz.func49 (by rfl) (by rfl) (by cbv) ⟨by decide, rfl⟩ ?_
 intro ar cm bo sc sa sx ss sl bs sb ln sr ap up rp fr ge le lt nz mm ma sm fl al ci hL F hP hA hT hM hC
 refine Run.seq ?_
 refine Run.region hL hT [] (by cbv) hq0 ?_
 refine Run.seq ?_
 refine Run.region hL hT [] (by cbv) hq0 ?_
 refine Run.seq ?_
 refine Run.seq ?_
 obtain ⟨r1, h_r1, h⟩ := bnd h
 obtain ⟨r2, h_r2, h⟩ := bnd h
 refine Run.region hL hT [(1, .call [false] [.ag [.jk, .jk, .jk]] [.v (.s (.bool r1))]), (7, .call [false, false] [.ag [.jk], .ag [.jk, .jk, .jk, .jk, .jk, .jk, .jk, .jk, .jk]] [.v (.s (.bool r2))])] (by cbv) ?_ ?_
 · exact (hq Tt (hq (hC (qEG h_r1)) (hq (fun _ => hq0) (hq (fun g4 => (hq g4 (hq Tt hq0))) (hq (fun g5 => (hq Tt hq0)) (hq (fun g6 => (hq g6 (hq g6 (hq (hC (qFG (gd_t h_r2 g6))) hq0)))) (hq (fun g7 => (hq g7 hq0)) (hq (fun _ => hq0) (hq (fun q9 => (hq (bo_m q9) hq0)) (hq (fun _ => hq0) (hq (fun g11 => (hq g11 (hq Tt hq0))) (hq (fun g12 => (hq g12 hq0)) (hq (fun _ => hq0) (hq (fun q14 => (hq (bo_m q14) hq0)) hq0))))))))))))))
 refine Run.cond (by cbv) (hq0) (fun c15 => ?_) (fun c15 => ?_)
 ·
  have h := if_t c15 h
  refine Run.seq ?_
  refine Run.region hL hT [] (by cbv) hq0 ?_
  refine Run.ret ?_
  cases h
  refine ⟨_, _, by cbv, ?_, ?_⟩
  · exact LLe.r
  · exact (ALe.v LLe.r ALe.nil)
 ·
  have h := if_f c15 h
  refine Run.skip ?_
  refine Run.seq ?_
  obtain ⟨x16, h_x16, h⟩ := bnd h
  refine Run.region hL hT [(4, .el [.im false (qMB x16)])] (by cbv) ?_ ?_
  · exact (hq Tt (hq Tt (hq (qM h_x16) (hq (qb (f := RowS_i) h_x16) (hq (qx (f := RowS_i) h_x16) hq0)))))
  refine Run.seq ?_
  refine Run.seq ?_
  refine Run.region hL hT [] (by cbv) hq0 ?_
  refine Run.block ?_
  refine Run.loop2 (fun (z30 : Int) (z31 : Int) => ⟨52, 100000, [(2, .t (.s (.int .i64 a2))), (4, .pt 1 0 0), (7, .t (.s (.int .i64 z30))), (8, .t (.im false (qMB x16))), (9, .t (.s (.int .i64 z31)))], [(1, .box 38 [.t (.s (.int .i64 ql)), .t (.im false (qJ qP)), .t (.s (.int .i64 qm)), .t (.s (.bool qy)), .t (.s (.int .i64 qn)), .t (.im false (qB qq)), .t (.s (.bool qz)), .t (.s (.int .i64 qN)), .t (.s (.int .i64 qZ))])]⟩) (x0 := 0) (x1 := 0) h (Weak.of _ [(1, 1)] hA (by cbv) ?_) (fun _ _ => rfl) ?_
  · repeat (first | exact hq0 | refine hq (by first | exact Tt | rfl) ?_)
  ·
   intro k z30 z31 h
   rw [qeC.l0] at h
   refine Run.seq ?_
   refine Run.seq ?_
   refine Run.region hL hT [] (by cbv) ?_ ?_
   · exact (hq Tt hq0)
   rw [show ln (qMB x16) = qDB x16 from ln_eq Row_i _]
   refine Run.cond (by cbv) (hq0) (fun c32 => ?_) (fun c32 => ?_)
   ·
    have h := if_t c32 h
    refine Run.skip ?_
    refine Run.seq ?_
    refine Run.block ?_
    refine Run.seq ?_
    obtain ⟨⟨qSP, qLI⟩, h_x33, h⟩ := bnd h
    obtain ⟨x34, h_x34, h⟩ := bnd h
    refine Run.draw hL hT hM [(2, .el [.s (.int .i64 qSP), .im false (qB qLI)]), (7, .el [.s (.int .i64 x34)])] (by cbv) (by cbv) (by cbv) (by cbv) (by cbv) ?_ ?_
    · exact (hq (qM h_x33) (hq (qb (f := Row_i) h_x33) (hq (qx (f := Row_i) h_x33) (hq Tt (hq (qM h_x34) (hq (qb (f := Int_c) h_x34) (hq (qx (f := Int_c) h_x34) (hq Tt hq0))))))))
    refine Run.cond (by cbv) (hq0) (fun c35 => ?_) (fun c35 => ?_)
    ·
     have h := if_t c35 h
     refine Run.region hL hT [] (by cbv) ?_ ?_
     · exact (hq Tt hq0)
     refine Run.region hL hT [] (by cbv) ?_ ?_
     · exact (hq Tt hq0)
     refine ⟨(ar .add .i64 z30 1), (ar .add .i64 z31 1), h, Weak.of _ [(1, 1)] hA (by cbv) ?_⟩
     repeat (first | exact hq0 | refine hq (by first | exact Tt | rfl) ?_)
    ·
     have h := if_f c35 h
     refine Run.skip ?_
     refine Run.region hL hT [] (by cbv) ?_ ?_
     · exact (hq Tt hq0)
     refine ⟨z30, (ar .add .i64 z31 1), h, Weak.of _ [(1, 1)] hA (by cbv) ?_⟩
     repeat (first | exact hq0 | refine hq (by first | exact Tt | rfl) ?_)
   ·
    have h := if_f c32 h
    refine Run.exit ?_
    refine Run.seq ?_
    refine Run.region hL hT [] (by cbv) hq0 ?_
    refine Run.ret ?_
    cases h
    refine ⟨_, _, by cbv, ?_, ?_⟩
    · exact LLe.r
    · exact (ALe.v LLe.r ALe.nil)
theorem qjQ {qF : List Int} {qV : Int} {qT : List (List Row)} {ql : Int} {qP : List Cond} {qm : Int} {qy : Bool} {qn : Int} {qq : List Int} {qz : Bool} {qN : Int} {qZ : Int} {r : Json} (h : qVD.f (Store.mk (Schema.mk qF) qV qT) (Query.mk ql qP qm qy qn qq qz qN qZ) = some r) : AC Tryz.prog 16 [.ag [.im false (rowsOf Int_c qF), .s (.int .i64 qV), .im false (rowsOf RowS_i qT)], .ag [.s (.int .i64 ql), .im false (rowsOf Cond_c qP), .s (.int .i64 qm), .s (.bool qy), .s (.int .i64 qn), .im false (rowsOf Int_c qq), .s (.bool qz), .s (.int .i64 qN), .s (.int .i64 qZ)]] [.ag [.jk, .jk, .jk], .ag [.jk, .jk, .jk, .jk, .jk, .jk, .jk, .jk, .jk]] [.ag [.s (.int .i64 r.Kind), .s (.int .i64 r.N), .s (.string r.S), .im true (rowsOf qLC r.List_), .im true (rowsOf Str_c r.Names)]] := by
 unfold qVD.f at h
 let qJ := rowsOf Cond_c
 let qB := rowsOf Int_c
 let qQB := rowsOf qLC
 let qUB := rowsOf RowS_i
 let qf := rowsOf Row_o
 let qR := rowsOf Str_c
 let qDB := @lenI Row
 show AC Tryz.prog 16 [.ag [.im false (qB qF), .s (.int .i64 qV), .im false (qUB qT)], .ag [.s (.int .i64 ql), .im false (qJ qP), .s (.int .i64 qm), .s (.bool qy), .s (.int .i64 qn), .im false (qB qq), .s (.bool qz), .s (.int .i64 qN), .s (.int .i64 qZ)]] _ _
 refine run3 Tryz.func16 (by rfl) (by rfl) (by cbv) ⟨by decide, rfl⟩ ?_
 intro ar cm bo sc sa sx ss sl bs sb ln sr ap up rp fr ge le lt nz mm ma sm fl al ci hL F hP hA hT hM hC
 refine Run.seq ?_
 refine Run.region hL hT [] (by cbv) hq0 ?_
 refine Run.seq ?_
 refine Run.seq ?_
 obtain ⟨r1, h_r1, h⟩ := bnd h
 obtain ⟨r2, h_r2, h⟩ := bnd h
 refine Run.region hL hT [(1, .call [false] [.ag [.jk, .jk, .jk]] [.v (.s (.bool r1))]), (7, .call [false, false] [.ag [.jk], .ag [.jk, .jk, .jk, .jk, .jk, .jk, .jk, .jk, .jk]] [.v (.s (.bool r2))])] (by cbv) ?_ ?_
 · exact (hq Tt (hq (hC (qEG h_r1)) (hq (fun _ => hq0) (hq (fun g4 => (hq g4 (hq Tt hq0))) (hq (fun g5 => (hq Tt hq0)) (hq (fun g6 => (hq g6 (hq g6 (hq (hC (qFG (gd_t h_r2 g6))) hq0)))) (hq (fun g7 => (hq g7 hq0)) (hq (fun _ => hq0) (hq (fun q9 => (hq (bo_m q9) hq0)) hq0)))))))))
 refine Run.cond (by cbv) (hq0) (fun c10 => ?_) (fun c10 => ?_)
 ·
  have h := if_t c10 h
  refine Run.seq ?_
  refine Run.region hL hT [] (by cbv) ?_ ?_
  · exact (hq Tt hq0)
  refine Run.ret ?_
  cases h
  refine ⟨_, _, by cbv, ?_, ?_⟩
  · exact LLe.r
  · exact (ALe.ag rfl (LLe.c (LLe.c (LLe.c (LLe.cons LLe.nilI (LLe.cons LLe.nilI LLe.nil))))) ALe.nil)
 ·
  have h := if_f c10 h
  refine Run.skip ?_
  refine Run.seq ?_
  obtain ⟨r11, h_r11, h⟩ := bnd h
  refine Run.region hL hT [(2, .call [false, false] [.ag [.jk, .jk, .jk], .ag [.jk, .jk, .jk, .jk, .jk, .jk, .jk, .jk, .jk]] [.v (.ow 91 (qf r11))])] (by cbv) ?_ ?_
  · exact (hq Tt (hq Tt (hq (hC (qMM h_r11)) hq0)))
  refine Run.seq ?_
  refine Run.region hL hT [] (by cbv) hq0 ?_
  obtain ⟨K13, h_K13, h⟩ := joinE h
  refine Run.join1 K13 (r := r) (fun (y12 : List Int) => ⟨44, 100000, [(3, .pt 1 0 0), (4, .pt 2 0 0), (5, .rf 3), (6, .rf 4)], [(1, .box 38 [.t (.s (.int .i64 ql)), .t (.im false (qJ qP)), .t (.s (.int .i64 qm)), .t (.s (.bool qy)), .t (.s (.int .i64 qn)), .t (.im false (qB qq)), .t (.s (.bool qz)), .t (.s (.int .i64 qN)), .t (.s (.int .i64 qZ))]), (2, .box 34 [.t (.s (.int .i64 0)), .t (.s (.int .i64 0)), .t (.s (.string ByteArray.empty)), .t (.s (.slice none 0 0)), .t (.s (.slice none 0 0))]), (3, .row 0 91 2 (qf r11)), (4, .row 0 3 1 (qB y12))]⟩) ?_ ?_
  ·
   skip
   refine Run.seq ?_
   refine Run.region hL hT [] (by cbv) hq0 ?_
   refine Run.block ?_
   refine Run.loop2 (fun (z32 : List Int) (z33 : Int) => ⟨44, 100000, [(2, .pt 1 0 0), (3, .pt 2 0 0), (4, .pt 3 0 0), (5, .rf 4), (6, .rf 5), (7, .t (.s (.int .i64 z33)))], [(1, .box 60 [.t (.im false (qB qF)), .t (.s (.int .i64 qV)), .t (.im false (qUB qT))]), (2, .box 38 [.t (.s (.int .i64 ql)), .t (.im false (qJ qP)), .t (.s (.int .i64 qm)), .t (.s (.bool qy)), .t (.s (.int .i64 qn)), .t (.im false (qB qq)), .t (.s (.bool qz)), .t (.s (.int .i64 qN)), .t (.s (.int .i64 qZ))]), (3, .box 34 [.t (.s (.int .i64 0)), .t (.s (.int .i64 0)), .t (.s (.string ByteArray.empty)), .t (.s (.slice none 0 0)), .t (.s (.slice none 0 0))]), (4, .row 0 91 2 (qf r11)), (5, .row 0 3 1 (qB z32))]⟩) (x0 := []) (x1 := 0) h (Weak.of _ [(1, 0), (2, 1), (3, 2), (4, 8194), (5, 12288)] hA (by cbv) ?_) (fun _ _ => rfl) ?_
   · repeat (first | exact hq0 | refine hq (by first | exact Tt | rfl) ?_)
   ·
    intro k z32 z33 h
    rw [qVD.l0] at h
    refine Run.seq ?_
    refine Run.seq ?_
    refine Run.region hL hT [] (by cbv) ?_ ?_
    · exact (hq Tt hq0)
    rw [show ln (qf r11) = qDB r11 from ln_eq Row_o _]
    refine Run.cond (by cbv) (hq0) (fun c34 => ?_) (fun c34 => ?_)
    ·
     have h := if_t c34 h
     refine Run.skip ?_
     refine Run.seq ?_
     refine Run.block ?_
     obtain ⟨⟨qeR, qiJ⟩, h_x35, h⟩ := bnd h
     obtain ⟨r36, h_r36, h⟩ := bnd h
     obtain ⟨l37, h_l37, h⟩ := bnd h
     obtain ⟨l38, h_l38, h⟩ := bnd h
     refine Run.draw hL hT hM [(7, .el [.s (.int .i64 qeR), .ow 3 (qB qiJ)]), (8, .call [false, false, false] [.ag [.jk, .jk, .jk], .ag [.jk, .jk, .jk, .jk, .jk, .jk, .jk, .jk, .jk], .v (.jk)] [.v (.s (.int .i64 r36))])] (by cbv) (by cbv) (by cbv) (by cbv) (by cbv) ?_ ?_
     · exact (hq Tt (hq Tt (hq (qM h_x35) (hq (qb (f := Row_o) h_x35) (hq (qM h_x35) (hq (qb (f := Row_o) h_x35) (hq (qx (f := Row_o) h_x35) (hq (hC (qNN h_r36)) (hq (qLE (P := Tryz.prog) (f := Int_c) RLe.r (qvB (f := Int_c) h_l37 (RLe.cons rfl LLe.r RLe.nil)) h_l38) hq0)))))))))
     refine Run.row (rows := (ap (qB z32) ([[.s (.int .i64 r36)]]))) 104106 (qB l38) (by cbv) (qKE (f := Int_c) RLe.r (qvB (f := Int_c) h_l37 (RLe.cons rfl LLe.r RLe.nil)) h_l38) ?_
     refine Run.region hL hT [] (by cbv) ?_ ?_
     · exact (hq Tt hq0)
     refine ⟨l38, (ar .add .i64 z33 1), h, Weak.of _ [(1, 1), (2, 2), (3, 3), (4, 4), (5, 104106)] hA (by cbv) ?_⟩
     repeat (first | exact hq0 | refine hq (by first | exact Tt | rfl) ?_)
    ·
     have h := if_f c34 h
     refine Run.exit ?_
     refine ⟨z32, h, Weak.of _ [(1, 2), (2, 3), (3, 4), (4, 5)] hA (by cbv) ?_⟩
     repeat (first | exact hq0 | refine hq (by first | exact Tt | rfl) ?_)
  ·
   intro y12 h
   rw [h_K13] at h
   refine Run.seq ?_
   obtain ⟨⟨r39v_Kind, r39v_N, r39v_S, r39v_List_, r39v_Names⟩, h_r39, h⟩ := bnd h
   refine Run.region hL hT [(3, .call [false, false, false] [.ag [.jk, .jk, .jk, .jk, .jk, .jk, .jk, .jk, .jk], .v (.jk), .v (.jk)] [.ag [.s (.int .i64 r39v_Kind), .s (.int .i64 r39v_N), .s (.string r39v_S), .im true (qQB r39v_List_), .im true (qR r39v_Names)]])] (by cbv) ?_ ?_
   · exact (hq Tt (hq (hC (AC.args (qPP h_r39) (ALe.ag rfl LLe.r (ALe.v (LLe.im (RLe.eq (qmB qbR _))) (ALe.v (LLe.im (RLe.eq (qmB qBD _))) ALe.nil))))) (hq Tt hq0)))
   refine Run.ret ?_
   cases h
   refine ⟨_, _, by cbv, ?_, ?_⟩
   · exact LLe.r
   · exact (ALe.ag rfl LLe.r ALe.nil)
theorem qjG {a0 : List Int} {r : (List Int)} (h : qNC.f a0 = some r) : AC Tryz.prog 53 [.v (.im false (rowsOf Int_c a0))] [.v (.jk)] [.v (.ow 3 (rowsOf Int_c r))] := by
 unfold qNC.f at h
 let qB := rowsOf Int_c
 let qh := @lenI Int
 show AC Tryz.prog 53 [.v (.im false (qB a0))] _ _
 refine run3 Tryz.func53 (by rfl) (by rfl) (by cbv) ⟨by decide, rfl⟩ ?_
 intro ar cm bo sc sa sx ss sl bs sb ln sr ap up rp fr ge le lt nz mm ma sm fl al ci hL F hP hA hT hM hC
 refine Run.seq ?_
 refine Run.region hL hT [] (by cbv) hq0 ?_
 refine Run.seq ?_
 obtain ⟨l1, h_l1, h⟩ := bnd h
 refine Run.region hL hT [] (by cbv) ?_ ?_
 · exact (hq Tt (hq (by rw [show ln (qB a0) = qh a0 from ln_eq Int_c _]; exact (mk_0 h_l1)) (hq (by rw [show ln (qB a0) = qh a0 from ln_eq Int_c _]; exact (mk_mm h_l1)) hq0)))
 rw [show ln (qB a0) = qh a0 from ln_eq Int_c _]
 refine Run.row (rows := (rp (qh a0) [.s (.int .i64 0)])) 4098 (qB l1) (by cbv) (mk_le (f := Int_c) rfl LLe.r h_l1) ?_
 refine Run.seq ?_
 refine Run.seq ?_
 refine Run.region hL hT [] (by cbv) hq0 ?_
 refine Run.block ?_
 refine Run.loop2 (fun (z5 : List Int) (z6 : Int) => ⟨22, 100000, [(0, .t (.im false (qB a0))), (3, .rf 1), (4, .t (.s (.int .i64 z6)))], [(1, .row 0 3 1 (qB z5))]⟩) (x0 := l1) (x1 := 0) h (Weak.of _ [(1, 4098)] hA (by cbv) ?_) (fun _ _ => rfl) ?_
 · repeat (first | exact hq0 | refine hq (by first | exact Tt | rfl) ?_)
 ·
  intro k z5 z6 h
  rw [qNC.l0] at h
  refine Run.seq ?_
  refine Run.seq ?_
  refine Run.region hL hT [] (by cbv) ?_ ?_
  · exact (hq Tt hq0)
  rw [show ln (qB a0) = qh a0 from ln_eq Int_c _]
  refine Run.cond (by cbv) (hq0) (fun c7 => ?_) (fun c7 => ?_)
  ·
   have h := if_t c7 h
   refine Run.skip ?_
   refine Run.seq ?_
   refine Run.block ?_
   obtain ⟨x8, h_x8, h⟩ := bnd h
   obtain ⟨x9, h_x9, h⟩ := bnd h
   obtain ⟨l10, h_l10, h⟩ := bnd h
   refine Run.region hL hT [(4, .el [.s (.int .i64 x8)])] (by cbv) ?_ ?_
   · exact (hq (qM h_x8) (hq (qb (f := Int_c) h_x8) (hq (qx (f := Int_c) h_x8) (hq (qM h_x9) (hq (qb (f := Int_c) h_x9) (hq (qM h_x9) (hq (qb (f := Int_c) h_x9) hq0)))))))
   refine Run.row (rows := (up (qB z5) z6 0 [.s (.int .i64 x8)])) 1 (qB l10) (by cbv) (qcH (f := Int_c) h_x9 h_l10 rfl LLe.r) ?_
   refine Run.region hL hT [] (by cbv) ?_ ?_
   · exact (hq Tt hq0)
   refine ⟨l10, (ar .add .i64 z6 1), h, Weak.of _ [(1, 1)] hA (by cbv) ?_⟩
   repeat (first | exact hq0 | refine hq (by first | exact Tt | rfl) ?_)
  ·
   have h := if_f c7 h
   refine Run.exit ?_
   refine Run.seq ?_
   refine Run.region hL hT [] (by cbv) hq0 ?_
   refine Run.ret ?_
   cases h
   refine ⟨_, _, by cbv, ?_, ?_⟩
   · exact LLe.r
   · exact (ALe.v LLe.r ALe.nil)
theorem qXK {qO : List Int} {r : Schema} (h : qqE.f (Schema.mk qO) = some r) : AC Tryz.prog 50 [.ag [.im false (rowsOf Int_c qO)]] [.ag [.jk]] [.ag [.ow 3 (rowsOf Int_c r.Cols)]] := by
 unfold qqE.f at h
 let qB := rowsOf Int_c
 show AC Tryz.prog 50 [.ag [.im false (qB qO)]] _ _
 refine run3 Tryz.func50 (by rfl) (by rfl) (by cbv) ⟨by decide, rfl⟩ ?_
 intro ar cm bo sc sa sx ss sl bs sb ln sr ap up rp fr ge le lt nz mm ma sm fl al ci hL F hP hA hT hM hC
 refine Run.seq ?_
 refine Run.region hL hT [] (by cbv) hq0 ?_
 refine Run.seq ?_
 refine Run.region hL hT [] (by cbv) hq0 ?_
 refine Run.seq ?_
 obtain ⟨r1, h_r1, h⟩ := bnd h
 refine Run.region hL hT [(2, .call [false] [.v (.jk)] [.v (.ow 3 (qB r1))])] (by cbv) ?_ ?_
 · exact (hq Tt (hq (hC (qjG h_r1)) (hq Tt hq0)))
 refine Run.seq ?_
 refine Run.region hL hT [] (by cbv) ?_ ?_
 · exact (hq Tt (hq Tt hq0))
 refine Run.ret ?_
 cases h
 refine ⟨_, _, by cbv, ?_, ?_⟩
 · exact LLe.r
 · exact (ALe.ag rfl LLe.r ALe.nil)
theorem qTP {qCD : Int} {qKB : List Int} {r : Row} (h : qxG.f (Row.mk qCD qKB) = some r) : AC Tryz.prog 72 [.ag [.s (.int .i64 qCD), .im false (rowsOf Int_c qKB)]] [.ag [.jk, .jk]] [.ag [.s (.int .i64 r.Id), .ow 3 (rowsOf Int_c r.Cells)]] := by
 unfold qxG.f at h
 let qB := rowsOf Int_c
 show AC Tryz.prog 72 [.ag [.s (.int .i64 qCD), .im false (qB qKB)]] _ _
 refine run3 Tryz.func72 (by rfl) (by rfl) (by cbv) ⟨by decide, rfl⟩ ?_
 intro ar cm bo sc sa sx ss sl bs sb ln sr ap up rp fr ge le lt nz mm ma sm fl al ci hL F hP hA hT hM hC
 refine Run.seq ?_
 refine Run.region hL hT [] (by cbv) hq0 ?_
 refine Run.seq ?_
 refine Run.region hL hT [] (by cbv) hq0 ?_
 refine Run.seq ?_
 refine Run.region hL hT [] (by cbv) ?_ ?_
 · exact (hq Tt (hq Tt hq0))
 refine Run.seq ?_
 obtain ⟨r1, h_r1, h⟩ := bnd h
 refine Run.region hL hT [(2, .call [false] [.v (.jk)] [.v (.ow 3 (qB r1))])] (by cbv) ?_ ?_
 · exact (hq Tt (hq (hC (qjG h_r1)) (hq Tt hq0)))
 refine Run.seq ?_
 refine Run.region hL hT [] (by cbv) ?_ ?_
 · exact (hq Tt (hq Tt hq0))
 refine Run.ret ?_
 cases h
 refine ⟨_, _, by cbv, ?_, ?_⟩
 · exact LLe.r
 · exact (ALe.ag rfl LLe.r ALe.nil)
theorem qON {a0 : List Row} {r : (List Row)} (h : qnC.f a0 = some r) : AC Tryz.prog 28 [.v (.im false (rowsOf Row_i a0))] [.v (.jk)] [.v (.ow 91 (rowsOf Row_o r))] := by
 unfold qnC.f at h
 let qB := rowsOf Int_c
 let qMB := rowsOf Row_i
 let qf := rowsOf Row_o
 let qDB := @lenI Row
 show AC Tryz.prog 28 [.v (.im false (qMB a0))] _ _
 refine run3 Tryz.func28 (by rfl) (by rfl) (by cbv) ⟨by decide, rfl⟩ ?_
 intro ar cm bo sc sa sx ss sl bs sb ln sr ap up rp fr ge le lt nz mm ma sm fl al ci hL F hP hA hT hM hC
 refine Run.seq ?_
 refine Run.region hL hT [] (by cbv) hq0 ?_
 refine Run.seq ?_
 obtain ⟨l1, h_l1, h⟩ := bnd h
 refine Run.region hL hT [] (by cbv) ?_ ?_
 · exact (hq Tt (hq (by rw [show ln (qMB a0) = qDB a0 from ln_eq Row_i _]; exact (mk_0 h_l1)) (hq (by rw [show ln (qMB a0) = qDB a0 from ln_eq Row_i _]; exact (mk_mm h_l1)) hq0)))
 rw [show ln (qMB a0) = qDB a0 from ln_eq Row_i _]
 refine Run.row (rows := (rp (qDB a0) [.s (.int .i64 0), .s (.slice none 0 0)])) 4098 (qf l1) (by cbv) (mk_le (f := Row_o) rfl (LLe.c (LLe.cons LLe.nilO LLe.nil)) h_l1) ?_
 refine Run.seq ?_
 refine Run.seq ?_
 refine Run.region hL hT [] (by cbv) hq0 ?_
 refine Run.block ?_
 refine Run.loop2 (fun (z5 : List Row) (z6 : Int) => ⟨23, 100000, [(0, .t (.im false (qMB a0))), (3, .rf 1), (4, .t (.s (.int .i64 z6)))], [(1, .row 0 91 2 (qf z5))]⟩) (x0 := l1) (x1 := 0) h (Weak.of _ [(1, 4098)] hA (by cbv) ?_) (fun _ _ => rfl) ?_
 · repeat (first | exact hq0 | refine hq (by first | exact Tt | rfl) ?_)
 ·
  intro k z5 z6 h
  rw [qnC.l0] at h
  refine Run.seq ?_
  refine Run.seq ?_
  refine Run.region hL hT [] (by cbv) ?_ ?_
  · exact (hq Tt hq0)
  rw [show ln (qMB a0) = qDB a0 from ln_eq Row_i _]
  refine Run.cond (by cbv) (hq0) (fun c7 => ?_) (fun c7 => ?_)
  ·
   have h := if_t c7 h
   refine Run.skip ?_
   refine Run.seq ?_
   refine Run.block ?_
   obtain ⟨⟨qBO, qFH⟩, h_x8, h⟩ := bnd h
   obtain ⟨⟨r9v_Id, r9v_Cells⟩, h_r9, h⟩ := bnd h
   obtain ⟨⟨qNM, qGH⟩, h_x10, h⟩ := bnd h
   obtain ⟨l11, h_l11, h⟩ := bnd h
   refine Run.region hL hT [(4, .el [.s (.int .i64 qBO), .im false (qB qFH)]), (6, .call [false] [.ag [.jk, .jk]] [.ag [.s (.int .i64 r9v_Id), .ow 3 (qB r9v_Cells)]])] (by cbv) ?_ ?_
   · exact (hq (qM h_x8) (hq (qb (f := Row_i) h_x8) (hq (qx (f := Row_i) h_x8) (hq (hC (qTP h_r9)) (hq (qM h_x10) (hq (qb (f := Row_o) h_x10) (hq (qM h_x10) (hq (qb (f := Row_o) h_x10) hq0))))))))
   refine Run.row (rows := (up (qf z5) z6 0 [.s (.int .i64 r9v_Id), .ow 3 (qB r9v_Cells)])) 1 (qf l11) (by cbv) (qcH (f := Row_o) h_x10 h_l11 rfl LLe.r) ?_
   refine Run.region hL hT [] (by cbv) ?_ ?_
   · exact (hq Tt hq0)
   refine ⟨l11, (ar .add .i64 z6 1), h, Weak.of _ [(1, 1)] hA (by cbv) ?_⟩
   repeat (first | exact hq0 | refine hq (by first | exact Tt | rfl) ?_)
  ·
   have h := if_f c7 h
   refine Run.exit ?_
   refine Run.seq ?_
   refine Run.region hL hT [] (by cbv) hq0 ?_
   refine Run.ret ?_
   cases h
   refine ⟨_, _, by cbv, ?_, ?_⟩
   · exact LLe.r
   · exact (ALe.v LLe.r ALe.nil)
theorem qOM {a0 : List (List Row)} {r : (List (List Row))} (h : qUC.f a0 = some r) : AC Tryz.prog 51 [.v (.im false (rowsOf RowS_i a0))] [.v (.jk)] [.v (.ow 39 (rowsOf qXD r))] := by
 unfold qUC.f at h
 let qUB := rowsOf RowS_i
 let qrC := rowsOf qXD
 let qMB := rowsOf Row_i
 let qf := rowsOf Row_o
 let qFC := @lenI (List Row)
 show AC Tryz.prog 51 [.v (.im false (qUB a0))] _ _
 refine run3 Tryz.func51 (by rfl) (by rfl) (by cbv) ⟨by decide, rfl⟩ ?_
 intro ar cm bo sc sa sx ss sl bs sb ln sr ap up rp fr ge le lt nz mm ma sm fl al ci hL F hP hA hT hM hC
 refine Run.seq ?_
 refine Run.region hL hT [] (by cbv) hq0 ?_
 refine Run.seq ?_
 obtain ⟨l1, h_l1, h⟩ := bnd h
 refine Run.region hL hT [] (by cbv) ?_ ?_
 · exact (hq Tt (hq (by rw [show ln (qUB a0) = qFC a0 from ln_eq RowS_i _]; exact (mk_0 h_l1)) (hq (by rw [show ln (qUB a0) = qFC a0 from ln_eq RowS_i _]; exact (mk_mm h_l1)) hq0)))
 rw [show ln (qUB a0) = qFC a0 from ln_eq RowS_i _]
 refine Run.row (rows := (rp (qFC a0) [.s (.slice none 0 0)])) 4098 (qrC l1) (by cbv) (mk_le (f := qXD) rfl (LLe.cons LLe.nilO LLe.nil) h_l1) ?_
 refine Run.seq ?_
 refine Run.seq ?_
 refine Run.region hL hT [] (by cbv) hq0 ?_
 refine Run.block ?_
 refine Run.loop2 (fun (z5 : List (List Row)) (z6 : Int) => ⟨23, 100000, [(0, .t (.im false (qUB a0))), (3, .rf 1), (4, .t (.s (.int .i64 z6)))], [(1, .row 0 39 1 (qrC z5))]⟩) (x0 := l1) (x1 := 0) h (Weak.of _ [(1, 4098)] hA (by cbv) ?_) (fun _ _ => rfl) ?_
 · repeat (first | exact hq0 | refine hq (by first | exact Tt | rfl) ?_)
 ·
  intro k z5 z6 h
  rw [qUC.l0] at h
  refine Run.seq ?_
  refine Run.seq ?_
  refine Run.region hL hT [] (by cbv) ?_ ?_
  · exact (hq Tt hq0)
  rw [show ln (qUB a0) = qFC a0 from ln_eq RowS_i _]
  refine Run.cond (by cbv) (hq0) (fun c7 => ?_) (fun c7 => ?_)
  ·
   have h := if_t c7 h
   refine Run.skip ?_
   refine Run.seq ?_
   refine Run.block ?_
   obtain ⟨x8, h_x8, h⟩ := bnd h
   obtain ⟨r9, h_r9, h⟩ := bnd h
   obtain ⟨x10, h_x10, h⟩ := bnd h
   obtain ⟨l11, h_l11, h⟩ := bnd h
   refine Run.region hL hT [(4, .el [.im false (qMB x8)]), (6, .call [false] [.v (.jk)] [.v (.ow 91 (qf r9))])] (by cbv) ?_ ?_
   · exact (hq (qM h_x8) (hq (qb (f := RowS_i) h_x8) (hq (qx (f := RowS_i) h_x8) (hq (hC (qON h_r9)) (hq (qM h_x10) (hq (qb (f := qXD) h_x10) (hq (qM h_x10) (hq (qb (f := qXD) h_x10) hq0))))))))
   refine Run.row (rows := (up (qrC z5) z6 0 [.ow 91 (qf r9)])) 1 (qrC l11) (by cbv) (qcH (f := qXD) h_x10 h_l11 rfl LLe.r) ?_
   refine Run.region hL hT [] (by cbv) ?_ ?_
   · exact (hq Tt hq0)
   refine ⟨l11, (ar .add .i64 z6 1), h, Weak.of _ [(1, 1)] hA (by cbv) ?_⟩
   repeat (first | exact hq0 | refine hq (by first | exact Tt | rfl) ?_)
  ·
   have h := if_f c7 h
   refine Run.exit ?_
   refine Run.seq ?_
   refine Run.region hL hT [] (by cbv) hq0 ?_
   refine Run.ret ?_
   cases h
   refine ⟨_, _, by cbv, ?_, ?_⟩
   · exact LLe.r
   · exact (ALe.v LLe.r ALe.nil)
theorem qvE {qF : List Int} {qV : Int} {qT : List (List Row)} {r : Store} (h : qZD.f (Store.mk (Schema.mk qF) qV qT) = some r) : AC Tryz.prog 17 [.ag [.im false (rowsOf Int_c qF), .s (.int .i64 qV), .im false (rowsOf RowS_i qT)]] [.ag [.jk, .jk, .jk]] [.ag [.ow 3 (rowsOf Int_c r.Schema.Cols), .s (.int .i64 r.Version), .ow 39 (rowsOf qXD r.Tables)]] := by
 unfold qZD.f at h
 let qB := rowsOf Int_c
 let qUB := rowsOf RowS_i
 let qrC := rowsOf qXD
 show AC Tryz.prog 17 [.ag [.im false (qB qF), .s (.int .i64 qV), .im false (qUB qT)]] _ _
 refine run3 Tryz.func17 (by rfl) (by rfl) (by cbv) ⟨by decide, rfl⟩ ?_
 intro ar cm bo sc sa sx ss sl bs sb ln sr ap up rp fr ge le lt nz mm ma sm fl al ci hL F hP hA hT hM hC
 refine Run.seq ?_
 refine Run.region hL hT [] (by cbv) hq0 ?_
 refine Run.seq ?_
 refine Run.region hL hT [] (by cbv) hq0 ?_
 refine Run.seq ?_
 obtain ⟨⟨r1v_Cols⟩, h_r1, h⟩ := bnd h
 refine Run.region hL hT [(2, .call [false] [.ag [.jk]] [.ag [.ow 3 (qB r1v_Cols)]])] (by cbv) ?_ ?_
 · exact (hq Tt (hq (hC (qXK h_r1)) (hq Tt hq0)))
 refine Run.seq ?_
 refine Run.region hL hT [] (by cbv) ?_ ?_
 · exact (hq Tt (hq Tt hq0))
 refine Run.seq ?_
 obtain ⟨r2, h_r2, h⟩ := bnd h
 refine Run.region hL hT [(2, .call [false] [.v (.jk)] [.v (.ow 39 (qrC r2))])] (by cbv) ?_ ?_
 · exact (hq Tt (hq (hC (qOM h_r2)) (hq Tt hq0)))
 refine Run.seq ?_
 refine Run.region hL hT [] (by cbv) ?_ ?_
 · exact (hq Tt (hq Tt hq0))
 refine Run.ret ?_
 cases h
 refine ⟨_, _, by cbv, ?_, ?_⟩
 · exact LLe.r
 · exact (ALe.ag rfl LLe.r ALe.nil)
theorem qPN {qcE : Int} {qGG : Int} {a0v_V : Int} {r : Cond} (h : qRH.f (Cond.mk qcE qGG a0v_V) = some r) : AC Tryz.prog 87 [.ag [.s (.int .i64 qcE), .s (.int .i64 qGG), .s (.int .i64 a0v_V)]] [.ag [.jk, .jk, .jk]] [.ag [.s (.int .i64 r.Col), .s (.int .i64 r.Op), .s (.int .i64 r.V)]] := by
 unfold qRH.f at h
 show AC Tryz.prog 87 [.ag [.s (.int .i64 qcE), .s (.int .i64 qGG), .s (.int .i64 a0v_V)]] _ _
 refine run3 Tryz.func87 (by rfl) (by rfl) (by cbv) ⟨by decide, rfl⟩ ?_
 intro ar cm bo sc sa sx ss sl bs sb ln sr ap up rp fr ge le lt nz mm ma sm fl al ci hL F hP hA hT hM hC
 refine Run.seq ?_
 refine Run.region hL hT [] (by cbv) hq0 ?_
 refine Run.seq ?_
 refine Run.region hL hT [] (by cbv) hq0 ?_
 refine Run.seq ?_
 refine Run.region hL hT [] (by cbv) ?_ ?_
 · exact (hq Tt (hq Tt hq0))
 refine Run.seq ?_
 refine Run.region hL hT [] (by cbv) ?_ ?_
 · exact (hq Tt (hq Tt hq0))
 refine Run.seq ?_
 refine Run.region hL hT [] (by cbv) ?_ ?_
 · exact (hq Tt (hq Tt hq0))
 refine Run.seq ?_
 refine Run.region hL hT [] (by cbv) ?_ ?_
 · exact (hq Tt (hq Tt hq0))
 refine Run.ret ?_
 cases h
 refine ⟨_, _, by cbv, ?_, ?_⟩
 · exact LLe.r
 · exact (ALe.ag rfl LLe.r ALe.nil)
theorem qPM {a0 : List Cond} {r : (List Cond)} (h : qVC.f a0 = some r) : AC Tryz.prog 52 [.v (.im false (rowsOf Cond_c a0))] [.v (.jk)] [.v (.ow 123 (rowsOf Cond_c r))] := by
 unfold qVC.f at h
 let qJ := rowsOf Cond_c
 let qWB := @lenI Cond
 show AC Tryz.prog 52 [.v (.im false (qJ a0))] _ _
 refine run3 Tryz.func52 (by rfl) (by rfl) (by cbv) ⟨by decide, rfl⟩ ?_
 intro ar cm bo sc sa sx ss sl bs sb ln sr ap up rp fr ge le lt nz mm ma sm fl al ci hL F hP hA hT hM hC
 refine Run.seq ?_
 refine Run.region hL hT [] (by cbv) hq0 ?_
 refine Run.seq ?_
 obtain ⟨l1, h_l1, h⟩ := bnd h
 refine Run.region hL hT [] (by cbv) ?_ ?_
 · exact (hq Tt (hq (by rw [show ln (qJ a0) = qWB a0 from ln_eq Cond_c _]; exact (mk_0 h_l1)) (hq (by rw [show ln (qJ a0) = qWB a0 from ln_eq Cond_c _]; exact (mk_mm h_l1)) hq0)))
 rw [show ln (qJ a0) = qWB a0 from ln_eq Cond_c _]
 refine Run.row (rows := (rp (qWB a0) [.s (.int .i64 0), .s (.int .i64 0), .s (.int .i64 0)])) 4098 (qJ l1) (by cbv) (mk_le (f := Cond_c) rfl LLe.r h_l1) ?_
 refine Run.seq ?_
 refine Run.seq ?_
 refine Run.region hL hT [] (by cbv) hq0 ?_
 refine Run.block ?_
 refine Run.loop2 (fun (z5 : List Cond) (z6 : Int) => ⟨23, 100000, [(0, .t (.im false (qJ a0))), (3, .rf 1), (4, .t (.s (.int .i64 z6)))], [(1, .row 0 123 3 (qJ z5))]⟩) (x0 := l1) (x1 := 0) h (Weak.of _ [(1, 4098)] hA (by cbv) ?_) (fun _ _ => rfl) ?_
 · repeat (first | exact hq0 | refine hq (by first | exact Tt | rfl) ?_)
 ·
  intro k z5 z6 h
  rw [qVC.l0] at h
  refine Run.seq ?_
  refine Run.seq ?_
  refine Run.region hL hT [] (by cbv) ?_ ?_
  · exact (hq Tt hq0)
  rw [show ln (qJ a0) = qWB a0 from ln_eq Cond_c _]
  refine Run.cond (by cbv) (hq0) (fun c7 => ?_) (fun c7 => ?_)
  ·
   have h := if_t c7 h
   refine Run.skip ?_
   refine Run.seq ?_
   refine Run.block ?_
   obtain ⟨⟨qjJ, qHO, x8v_V⟩, h_x8, h⟩ := bnd h
   obtain ⟨⟨r9v_Col, r9v_Op, r9v_V⟩, h_r9, h⟩ := bnd h
   obtain ⟨⟨qnV, quW, qhX⟩, h_x10, h⟩ := bnd h
   obtain ⟨l11, h_l11, h⟩ := bnd h
   refine Run.region hL hT [(4, .el [.s (.int .i64 qjJ), .s (.int .i64 qHO), .s (.int .i64 x8v_V)]), (6, .call [false] [.ag [.jk, .jk, .jk]] [.ag [.s (.int .i64 r9v_Col), .s (.int .i64 r9v_Op), .s (.int .i64 r9v_V)]])] (by cbv) ?_ ?_
   · exact (hq (qM h_x8) (hq (qb (f := Cond_c) h_x8) (hq (qx (f := Cond_c) h_x8) (hq (hC (qPN h_r9)) (hq (qM h_x10) (hq (qb (f := Cond_c) h_x10) (hq (qM h_x10) (hq (qb (f := Cond_c) h_x10) hq0))))))))
   refine Run.row (rows := (up (qJ z5) z6 0 [.s (.int .i64 r9v_Col), .s (.int .i64 r9v_Op), .s (.int .i64 r9v_V)])) 1 (qJ l11) (by cbv) (qcH (f := Cond_c) h_x10 h_l11 rfl LLe.r) ?_
   refine Run.region hL hT [] (by cbv) ?_ ?_
   · exact (hq Tt hq0)
   refine ⟨l11, (ar .add .i64 z6 1), h, Weak.of _ [(1, 1)] hA (by cbv) ?_⟩
   repeat (first | exact hq0 | refine hq (by first | exact Tt | rfl) ?_)
  ·
   have h := if_f c7 h
   refine Run.exit ?_
   refine Run.seq ?_
   refine Run.region hL hT [] (by cbv) hq0 ?_
   refine Run.ret ?_
   cases h
   refine ⟨_, _, by cbv, ?_, ?_⟩
   · exact LLe.r
   · exact (ALe.v LLe.r ALe.nil)
theorem qwE {qW : Int} {qS : List Cond} {qX : Int} {qi : Bool} {qY : Int} {qe : List Int} {qj : Bool} {qK : Int} {qQ : Int} {r : Query} (h : qaD.f (Query.mk qW qS qX qi qY qe qj qK qQ) = some r) : AC Tryz.prog 18 [.ag [.s (.int .i64 qW), .im false (rowsOf Cond_c qS), .s (.int .i64 qX), .s (.bool qi), .s (.int .i64 qY), .im false (rowsOf Int_c qe), .s (.bool qj), .s (.int .i64 qK), .s (.int .i64 qQ)]] [.ag [.jk, .jk, .jk, .jk, .jk, .jk, .jk, .jk, .jk]] [.ag [.s (.int .i64 r.Table), .ow 123 (rowsOf Cond_c r.Where), .s (.int .i64 r.Order), .s (.bool r.Down), .s (.int .i64 r.First), .ow 3 (rowsOf Int_c r.Show), .s (.bool r.Kids), .s (.int .i64 r.KidTable), .s (.int .i64 r.KidCol)]] := by
 unfold qaD.f at h
 let qJ := rowsOf Cond_c
 let qB := rowsOf Int_c
 show AC Tryz.prog 18 [.ag [.s (.int .i64 qW), .im false (qJ qS), .s (.int .i64 qX), .s (.bool qi), .s (.int .i64 qY), .im false (qB qe), .s (.bool qj), .s (.int .i64 qK), .s (.int .i64 qQ)]] _ _
 refine run3 Tryz.func18 (by rfl) (by rfl) (by cbv) ⟨by decide, rfl⟩ ?_
 intro ar cm bo sc sa sx ss sl bs sb ln sr ap up rp fr ge le lt nz mm ma sm fl al ci hL F hP hA hT hM hC
 refine Run.seq ?_
 refine Run.region hL hT [] (by cbv) hq0 ?_
 refine Run.seq ?_
 refine Run.region hL hT [] (by cbv) hq0 ?_
 refine Run.seq ?_
 refine Run.region hL hT [] (by cbv) ?_ ?_
 · exact (hq Tt (hq Tt hq0))
 refine Run.seq ?_
 obtain ⟨r1, h_r1, h⟩ := bnd h
 refine Run.region hL hT [(2, .call [false] [.v (.jk)] [.v (.ow 123 (qJ r1))])] (by cbv) ?_ ?_
 · exact (hq Tt (hq (hC (qPM h_r1)) (hq Tt hq0)))
 refine Run.seq ?_
 refine Run.region hL hT [] (by cbv) ?_ ?_
 · exact (hq Tt (hq Tt hq0))
 refine Run.seq ?_
 refine Run.region hL hT [] (by cbv) ?_ ?_
 · exact (hq Tt (hq Tt hq0))
 refine Run.seq ?_
 refine Run.region hL hT [] (by cbv) ?_ ?_
 · exact (hq Tt (hq Tt hq0))
 refine Run.seq ?_
 obtain ⟨r2, h_r2, h⟩ := bnd h
 refine Run.region hL hT [(2, .call [false] [.v (.jk)] [.v (.ow 3 (qB r2))])] (by cbv) ?_ ?_
 · exact (hq Tt (hq (hC (qjG h_r2)) (hq Tt hq0)))
 refine Run.seq ?_
 refine Run.region hL hT [] (by cbv) ?_ ?_
 · exact (hq Tt (hq Tt hq0))
 refine Run.seq ?_
 refine Run.region hL hT [] (by cbv) ?_ ?_
 · exact (hq Tt (hq Tt hq0))
 refine Run.seq ?_
 refine Run.region hL hT [] (by cbv) ?_ ?_
 · exact (hq Tt (hq Tt hq0))
 refine Run.seq ?_
 refine Run.region hL hT [] (by cbv) ?_ ?_
 · exact (hq Tt (hq Tt hq0))
 refine Run.ret ?_
 cases h
 refine ⟨_, _, by cbv, ?_, ?_⟩
 · exact LLe.r
 · exact (ALe.ag rfl LLe.r ALe.nil)
theorem qQM {qW : Int} {qS : List Cond} {qX : Int} {qi : Bool} {qY : Int} {qe : List Int} {qj : Bool} {qK : Int} {qQ : Int} {a1 : Int} {r : Int} (h : qTF.f (Query.mk qW qS qX qi qY qe qj qK qQ) a1 = some r) : AC Tryz.prog 107 [.ag [.s (.int .i64 qW), .im false (rowsOf Cond_c qS), .s (.int .i64 qX), .s (.bool qi), .s (.int .i64 qY), .im false (rowsOf Int_c qe), .s (.bool qj), .s (.int .i64 qK), .s (.int .i64 qQ)], .v (.s (.int .i64 a1))] [.ag [.jk, .jk, .jk, .jk, .jk, .jk, .jk, .jk, .jk], .v (.jk)] [.v (.s (.int .i64 r))] := by
 unfold qTF.f at h
 let qJ := rowsOf Cond_c
 let qB := rowsOf Int_c
 show AC Tryz.prog 107 [.ag [.s (.int .i64 qW), .im false (qJ qS), .s (.int .i64 qX), .s (.bool qi), .s (.int .i64 qY), .im false (qB qe), .s (.bool qj), .s (.int .i64 qK), .s (.int .i64 qQ)], .v (.s (.int .i64 a1))] _ _
 refine run3 Tryz.func107 (by rfl) (by rfl) (by cbv) ⟨by decide, rfl⟩ ?_
 intro ar cm bo sc sa sx ss sl bs sb ln sr ap up rp fr ge le lt nz mm ma sm fl al ci hL F hP hA hT hM hC
 refine Run.seq ?_
 refine Run.region hL hT [] (by cbv) hq0 ?_
 refine Run.seq ?_
 refine Run.seq ?_
 refine Run.region hL hT [] (by cbv) ?_ ?_
 · exact (hq Tt (hq Tt hq0))
 refine Run.cond (by cbv) (hq0) (fun c1 => ?_) (fun c1 => ?_)
 ·
  have h := if_t c1 h
  refine Run.seq ?_
  refine Run.region hL hT [] (by cbv) hq0 ?_
  refine Run.ret ?_
  cases h
  refine ⟨_, _, by cbv, ?_, ?_⟩
  · exact LLe.r
  · exact (ALe.v LLe.r ALe.nil)
 ·
  have h := if_f c1 h
  refine Run.skip ?_
  refine Run.seq ?_
  obtain ⟨m2, h_m2, h⟩ := bnd h
  obtain ⟨m3, h_m3, h⟩ := bnd h
  refine Run.region hL hT [(2, .hd [] (.t (.s (.int .i64 m2))) []), (4, .hd [] (.t (.s (.int .i64 m3))) [])] (by cbv) ?_ ?_
  · exact (hq Tt (hq (qXV h_m2) (hq (qYV h_m3) hq0)))
  refine Run.ret ?_
  cases h
  refine ⟨_, _, by cbv, ?_, ?_⟩
  · exact LLe.r
  · exact (ALe.v LLe.r ALe.nil)
theorem qgB {a0 : Int} {a1 : Int} {a2 : Int} {r : Bool} (h : qlB.f a0 a1 a2 = some r) : AC Tryz.prog 92 [.v (.s (.int .i64 a0)), .v (.s (.int .i64 a1)), .v (.s (.int .i64 a2))] [.v (.jk), .v (.jk), .v (.jk)] [.v (.s (.bool r))] := by
 unfold qlB.f at h
 show AC Tryz.prog 92 [.v (.s (.int .i64 a0)), .v (.s (.int .i64 a1)), .v (.s (.int .i64 a2))] _ _
 refine run3 Tryz.func92 (by rfl) (by rfl) (by cbv) ⟨by decide, rfl⟩ ?_
 intro ar cm bo sc sa sx ss sl bs sb ln sr ap up rp fr ge le lt nz mm ma sm fl al ci hL F hP hA hT hM hC
 refine Run.seq ?_
 refine Run.region hL hT [] (by cbv) hq0 ?_
 refine Run.seq ?_
 refine Run.region hL hT [] (by cbv) ?_ ?_
 · exact (hq Tt (hq (fun _ => hq0) (hq (fun _ => hq0) (hq (fun g3 => (hq g3 (hq g3 (hq Tt hq0)))) (hq (fun q4 => (hq q4 hq0)) (hq (fun _ => hq0) hq0))))))
 refine Run.ret ?_
 cases h
 refine ⟨_, _, by cbv, ?_, ?_⟩
 · exact LLe.r
 · exact (ALe.v LLe.r ALe.nil)
theorem qkG {qCD : Int} {qKB : List Int} {a1 : Int} {r : Int} (h : qaE.f (Row.mk qCD qKB) a1 = some r) : AC Tryz.prog 119 [.ag [.s (.int .i64 qCD), .im false (rowsOf Int_c qKB)], .v (.s (.int .i64 a1))] [.ag [.jk, .jk], .v (.jk)] [.v (.s (.int .i64 r))] := by
 unfold qaE.f at h
 let qB := rowsOf Int_c
 let qh := @lenI Int
 show AC Tryz.prog 119 [.ag [.s (.int .i64 qCD), .im false (qB qKB)], .v (.s (.int .i64 a1))] _ _
 refine run3 Tryz.func119 (by rfl) (by rfl) (by cbv) ⟨by decide, rfl⟩ ?_
 intro ar cm bo sc sa sx ss sl bs sb ln sr ap up rp fr ge le lt nz mm ma sm fl al ci hL F hP hA hT hM hC
 refine Run.seq ?_
 refine Run.region hL hT [] (by cbv) hq0 ?_
 refine Run.seq ?_
 refine Run.seq ?_
 obtain ⟨r1, h_r1, h⟩ := bnd h
 refine Run.region hL hT [(5, .call [false, false, false] [.v (.jk), .v (.jk), .v (.jk)] [.v (.s (.bool r1))])] (by cbv) ?_ ?_
 · exact (hq Tt (hq Tt (hq (by rw [show ln (qB qKB) = qh qKB from ln_eq Int_c _]; exact (hC (qgB h_r1))) hq0)))
 rw [show ln (qB qKB) = qh qKB from ln_eq Int_c _]
 refine Run.cond (by cbv) (hq0) (fun c2 => ?_) (fun c2 => ?_)
 ·
  have h := if_t c2 h
  refine Run.seq ?_
  refine Run.region hL hT [] (by cbv) hq0 ?_
  refine Run.ret ?_
  cases h
  refine ⟨_, _, by cbv, ?_, ?_⟩
  · exact LLe.r
  · exact (ALe.v LLe.r ALe.nil)
 ·
  have h := if_f c2 h
  refine Run.skip ?_
  refine Run.seq ?_
  obtain ⟨x3, h_x3, h⟩ := bnd h
  refine Run.region hL hT [(3, .el [.s (.int .i64 x3)])] (by cbv) ?_ ?_
  · exact (hq Tt (hq (qM h_x3) (hq (qb (f := Int_c) h_x3) (hq (qx (f := Int_c) h_x3) hq0))))
  refine Run.ret ?_
  cases h
  refine ⟨_, _, by cbv, ?_, ?_⟩
  · exact LLe.r
  · exact (ALe.v LLe.r ALe.nil)
theorem qlI {a0 : List Int} {a1 : Int} {r : Int} (h : qBC.f a0 a1 = some r) : AC Tryz.prog 129 [.v (.im false (rowsOf Int_c a0)), .v (.s (.int .i64 a1))] [.v (.jk), .v (.jk)] [.v (.s (.int .i64 r))] := by
 unfold qBC.f at h
 let qB := rowsOf Int_c
 let qh := @lenI Int
 show AC Tryz.prog 129 [.v (.im false (qB a0)), .v (.s (.int .i64 a1))] _ _
 refine run3 Tryz.func129 (by rfl) (by rfl) (by cbv) ⟨by decide, rfl⟩ ?_
 intro ar cm bo sc sa sx ss sl bs sb ln sr ap up rp fr ge le lt nz mm ma sm fl al ci hL F hP hA hT hM hC
 refine Run.seq ?_
 refine Run.region hL hT [] (by cbv) hq0 ?_
 refine Run.seq ?_
 refine Run.seq ?_
 refine Run.region hL hT [] (by cbv) hq0 ?_
 rw [show ln (qB a0) = qh a0 from ln_eq Int_c _]
 refine Run.block ?_
 refine Run.loop1 (fun (z5 : Int) => ⟨19, 100000, [(0, .t (.im false (qB a0))), (1, .t (.s (.int .i64 a1))), (7, .t (.s (.int .i64 (qh a0)))), (8, .t (.s (.int .i64 z5)))], []⟩) (x0 := 0) h (Weak.of _ [] hA (by cbv) ?_) (fun _ => rfl) ?_
 · repeat (first | exact hq0 | refine hq (by first | exact Tt | rfl) ?_)
 ·
  intro k z5 h
  rw [qBC.l0] at h
  refine Run.seq ?_
  refine Run.region hL hT [] (by cbv) ?_ ?_
  · exact (hq Tt hq0)
  refine Run.seq ?_
  refine Run.cond (by cbv) (hq0) (fun c6 => ?_) (fun c6 => ?_)
  ·
   have h := if_t c6 h
   refine Run.skip ?_
   refine Run.seq ?_
   refine Run.block ?_
   refine Run.seq ?_
   refine Run.region hL hT [] (by cbv) hq0 ?_
   refine Run.seq ?_
   obtain ⟨x7, h_x7, h⟩ := bnd h
   refine Run.region hL hT [(3, .el [.s (.int .i64 x7)])] (by cbv) ?_ ?_
   · exact (hq (qM h_x7) (hq (qb (f := Int_c) h_x7) (hq (qx (f := Int_c) h_x7) (hq Tt hq0))))
   refine Run.cond (by cbv) (hq0) (fun c8 => ?_) (fun c8 => ?_)
   ·
    have h := if_t c8 h
    refine Run.seq ?_
    refine Run.region hL hT [] (by cbv) hq0 ?_
    refine Run.ret ?_
    cases h
    refine ⟨_, _, by cbv, ?_, ?_⟩
    · exact LLe.r
    · exact (ALe.v LLe.r ALe.nil)
   ·
    have h := if_f c8 h
    refine Run.skip ?_
    refine Run.region hL hT [] (by cbv) ?_ ?_
    · exact (hq Tt hq0)
    refine ⟨(ar .add .i64 z5 1), h, Weak.of _ [] hA (by cbv) ?_⟩
    repeat (first | exact hq0 | refine hq (by first | exact Tt | rfl) ?_)
  ·
   have h := if_f c6 h
   refine Run.exit ?_
   refine Run.seq ?_
   refine Run.region hL hT [] (by cbv) hq0 ?_
   refine Run.ret ?_
   cases h
   refine ⟨_, _, by cbv, ?_, ?_⟩
   · exact LLe.r
   · exact (ALe.v LLe.r ALe.nil)
theorem qgH {a0 : List Int} {a1 : Int} {r : Bool} (h : qzC.f a0 a1 = some r) : AC Tryz.prog 121 [.v (.im false (rowsOf Int_c a0)), .v (.s (.int .i64 a1))] [.v (.jk), .v (.jk)] [.v (.s (.bool r))] := by
 unfold qzC.f at h
 let qB := rowsOf Int_c
 show AC Tryz.prog 121 [.v (.im false (qB a0)), .v (.s (.int .i64 a1))] _ _
 refine run3 Tryz.func121 (by rfl) (by rfl) (by cbv) ⟨by decide, rfl⟩ ?_
 intro ar cm bo sc sa sx ss sl bs sb ln sr ap up rp fr ge le lt nz mm ma sm fl al ci hL F hP hA hT hM hC
 refine Run.seq ?_
 refine Run.region hL hT [] (by cbv) hq0 ?_
 refine Run.seq ?_
 obtain ⟨r1, h_r1, h⟩ := bnd h
 refine Run.region hL hT [(2, .call [false, false] [.v (.jk), .v (.jk)] [.v (.s (.int .i64 r1))])] (by cbv) ?_ ?_
 · exact (hq (hC (qlI h_r1)) (hq Tt hq0))
 refine Run.ret ?_
 cases h
 refine ⟨_, _, by cbv, ?_, ?_⟩
 · exact LLe.r
 · exact (ALe.v LLe.r ALe.nil)
end Go.Proofs.YtgjboegobhafhaaGreatDoor.L
