/- The contracts of the program's functions. -/
import Derived.Test.YtnhnehckapldeaaDoorProg
import Derived.Test.YtnhnehckapldeaaDoorFnDocU
import Derived.KernelRfl
namespace Go.Proofs.YtnhnehckapldeaaDoor.L
open Go Go.Proofs
set_option linter.unusedVariables false
set_option linter.unusedSimpArgs false
def u8_c (x : Int) : List T := [.s (.int .u8 x)]
theorem u8_c_n : ∀ x, (u8_c x).length = 1 := fun _ => rfl
theorem u8_c_f : ∀ x, (u8_c x).length = 1 ∧ ∀ c ∈ u8_c x, ∃ v, c = T.s v := fun x => ⟨rfl, by simp [u8_c]⟩
theorem u8_c_z : ∀ x, fzL (u8_c x) = u8_c x := fun _ => rfl
def Cond_c (x : Cond) : List T := [.s (.int .i64 x.Col), .s (.int .i64 x.Op), .s (.int .i64 x.V)]
theorem Cond_c_n : ∀ x, (Cond_c x).length = 3 := fun _ => rfl
theorem Cond_c_f : ∀ x, (Cond_c x).length = 3 ∧ ∀ c ∈ Cond_c x, ∃ v, c = T.s v := fun x => ⟨rfl, by simp [Cond_c]⟩
theorem Cond_c_z : ∀ x, fzL (Cond_c x) = Cond_c x := fun _ => rfl
def Int_c (x : Int) : List T := [.s (.int .i64 x)]
theorem Int_c_n : ∀ x, (Int_c x).length = 1 := fun _ => rfl
theorem Int_c_f : ∀ x, (Int_c x).length = 1 ∧ ∀ c ∈ Int_c x, ∃ v, c = T.s v := fun x => ⟨rfl, by simp [Int_c]⟩
theorem Int_c_z : ∀ x, fzL (Int_c x) = Int_c x := fun _ => rfl
def Row_i (x : Row) : List T := [.s (.int .i64 x.Id), .im false (rowsOf Int_c x.Cells)]
theorem Row_i_n : ∀ x, (Row_i x).length = 2 := fun _ => rfl
def Row_o (x : Row) : List T := [.s (.int .i64 x.Id), .ow 3 (rowsOf Int_c x.Cells)]
theorem Row_o_n : ∀ x, (Row_o x).length = 2 := fun _ => rfl
theorem Row_o_z : ∀ x, fzL (Row_o x) = Row_i x := by
  intro x
  simp only [Row_o, Row_i, fzL, T.fz, fr_rows Int_c_z]
def Str_c (x : ByteArray) : List T := [.s (.string x)]
theorem Str_c_n : ∀ x, (Str_c x).length = 1 := fun _ => rfl
theorem Str_c_f : ∀ x, (Str_c x).length = 1 ∧ ∀ c ∈ Str_c x, ∃ v, c = T.s v := fun x => ⟨rfl, by simp [Str_c]⟩
theorem Str_c_z : ∀ x, fzL (Str_c x) = Str_c x := fun _ => rfl
mutual
def Json_i : Json → List T
  | ⟨x_Kind, x_N, x_S, x_List_, x_Names⟩ => [.s (.int .i64 x_Kind), .s (.int .i64 x_N), .s (.string x_S), .im false (Json_iL x_List_), .im false (rowsOf Str_c x_Names)]
def Json_iL : List Json → Rws
  | [] => []
  | x :: l => Json_i x :: Json_iL l
end
theorem Json_iL_m : ∀ l, Json_iL l = rowsOf Json_i l
  | [] => rfl
  | x :: l => by rw [Json_iL, Json_iL_m l]; rfl
def Json_iU (x : Json) : List T := [.s (.int .i64 x.Kind), .s (.int .i64 x.N), .s (.string x.S), .im false (rowsOf Json_i x.List_), .im false (rowsOf Str_c x.Names)]
theorem Json_i_u : ∀ x, Json_i x = Json_iU x
  | ⟨x_Kind, x_N, x_S, x_List_, x_Names⟩ => by rw [Json_i, Json_iL_m]; rfl
theorem Json_iU_n : ∀ x, (Json_iU x).length = 5 := fun _ => rfl
theorem Json_i_n : ∀ x, (Json_i x).length = 5 := fun x => by rw [Json_i_u]; rfl
mutual
def Json_k : Json → List T
  | ⟨x_Kind, x_N, x_S, x_List_, x_Names⟩ => [.s (.int .i64 x_Kind), .s (.int .i64 x_N), .s (.string x_S), .im true (Json_kL x_List_), .im true (rowsOf Str_c x_Names)]
def Json_kL : List Json → Rws
  | [] => []
  | x :: l => Json_k x :: Json_kL l
end
theorem Json_kL_m : ∀ l, Json_kL l = rowsOf Json_k l
  | [] => rfl
  | x :: l => by rw [Json_kL, Json_kL_m l]; rfl
def Json_kU (x : Json) : List T := [.s (.int .i64 x.Kind), .s (.int .i64 x.N), .s (.string x.S), .im true (rowsOf Json_k x.List_), .im true (rowsOf Str_c x.Names)]
theorem Json_k_u : ∀ x, Json_k x = Json_kU x
  | ⟨x_Kind, x_N, x_S, x_List_, x_Names⟩ => by rw [Json_k, Json_kL_m]; rfl
theorem Json_kU_n : ∀ x, (Json_kU x).length = 5 := fun _ => rfl
theorem Json_k_n : ∀ x, (Json_k x).length = 5 := fun x => by rw [Json_k_u]; rfl
mutual
theorem Json_k_ik1 {P : Program} : ∀ x, KLL P (Json_i x) (Json_k x)
  | ⟨x_Kind, x_N, x_S, x_List_, x_Names⟩ => by
    rw [Json_i_u, Json_k_u]
    exact (KLL.c (KLL.c (KLL.c (KLL.cons (KLL.im (Json_k_ikL x_List_)) (KLL.cons (KLL.im KRe.r) KLL.r)))))
theorem Json_k_ikL {P : Program} : ∀ l, KRe P (rowsOf Json_i l) (rowsOf Json_k l)
  | [] => KRe.nil
  | x :: l => KRe.cons (by rw [Json_i_n, Json_k_n]) (Json_k_ik1 x) (Json_k_ikL l)
end
mutual
theorem Json_k_le1 {P : Program} : ∀ x, LLe P (Json_k x) (Json_i x)
  | ⟨x_Kind, x_N, x_S, x_List_, x_Names⟩ => by
    rw [Json_i_u, Json_k_u]
    exact (LLe.c (LLe.c (LLe.c (LLe.cons (LLe.k (Json_k_le x_List_)) (LLe.cons (LLe.k RLe.r) LLe.nil)))))
theorem Json_k_le {P : Program} : ∀ l, RLe P (rowsOf Json_k l) (rowsOf Json_i l)
  | [] => RLe.nil
  | x :: l => RLe.cons (by rw [Json_i_n, Json_k_n]) (Json_k_le1 x) (Json_k_le l)
end
theorem Json_k_fi1 {P : Program} : ∀ x, LLe P (fzL (Json_k x)) (Json_i x)
  | ⟨x_Kind, x_N, x_S, x_List_, x_Names⟩ => by
    rw [Json_i_u, Json_k_u]
    exact (LLe.c (LLe.c (LLe.c (LLe.cons (LLe.im (Json_k_le x_List_)) (LLe.cons LLe.r LLe.nil)))))
theorem Json_k_fzn : ∀ x, (fzL (Json_k x)).length = 5 := fun x => by rw [Json_k_u]; rfl
theorem Json_k_fi {P : Program} : ∀ l, RLe P (fzR (rowsOf Json_k l)) (rowsOf Json_i l)
  | [] => RLe.nil
  | x :: l => RLe.cons (by rw [Json_k_fzn, Json_i_n]) (Json_k_fi1 x) (Json_k_fi l)
theorem Json_k_kk1 {P : Program} : ∀ x, KLL P (fzL (Json_k x)) (Json_k x)
  | ⟨x_Kind, x_N, x_S, x_List_, x_Names⟩ => by
    rw [Json_k_u]
    exact (KLL.c (KLL.c (KLL.c (KLL.cons (KLL.im KRe.r) (KLL.cons (KLL.im KRe.r) KLL.r)))))
theorem Json_k_kk {P : Program} : ∀ l, KRe P (fzR (rowsOf Json_k l)) (rowsOf Json_k l)
  | [] => KRe.nil
  | x :: l => KRe.cons (by rw [Json_k_fzn, Json_k_n]) (Json_k_kk1 x) (Json_k_kk l)
theorem Json_k_kv {P : Program} (l : List Json) : LLe P [.im true (Ls.fr (rowsOf Json_k l))] [.im true (rowsOf Json_k l)] := LLe.kk (Json_k_kk l)
mutual
def Json_o : Json → List T
  | ⟨x_Kind, x_N, x_S, x_List_, x_Names⟩ => [.s (.int .i64 x_Kind), .s (.int .i64 x_N), .s (.string x_S), .ow 34 (Json_oL x_List_), .ow 9 (rowsOf Str_c x_Names)]
def Json_oL : List Json → Rws
  | [] => []
  | x :: l => Json_o x :: Json_oL l
end
theorem Json_oL_m : ∀ l, Json_oL l = rowsOf Json_o l
  | [] => rfl
  | x :: l => by rw [Json_oL, Json_oL_m l]; rfl
def Json_oU (x : Json) : List T := [.s (.int .i64 x.Kind), .s (.int .i64 x.N), .s (.string x.S), .ow 34 (rowsOf Json_o x.List_), .ow 9 (rowsOf Str_c x.Names)]
theorem Json_o_u : ∀ x, Json_o x = Json_oU x
  | ⟨x_Kind, x_N, x_S, x_List_, x_Names⟩ => by rw [Json_o, Json_oL_m]; rfl
theorem Json_oU_n : ∀ x, (Json_oU x).length = 5 := fun _ => rfl
theorem Json_o_n : ∀ x, (Json_o x).length = 5 := fun x => by rw [Json_o_u]; rfl
mutual
theorem Json_o_z : ∀ x, fzL (Json_o x) = Json_i x
  | ⟨x_Kind, x_N, x_S, x_List_, x_Names⟩ => by
    rw [Json_o_u, Json_i_u]
    simp only [Json_oU, Json_iU, fzL, T.fz, fr_rows Str_c_z, Json_oL_z x_List_]
theorem Json_oL_z : ∀ l, fzR (rowsOf Json_o l) = rowsOf Json_i l
  | [] => rfl
  | x :: l => by
    show fzR (Json_o x :: rowsOf Json_o l) = Json_i x :: rowsOf Json_i l
    rw [fzR, Json_o_z x, Json_oL_z l]
end
theorem Json_o_kv {P : Program} (l : List Json) : LLe P [.im true (Ls.fr (rowsOf Json_o l))] [.im true (rowsOf Json_k l)] := LLe.kk_eq (Json_oL_z l) (Json_k_ikL l)
def tab : List (Nat × Ty) := [(3, Ty.mk false 1 8 0 [] [.int .i64 0] (some .i64) false false false false none),
  (4, Ty.mk false 1 1 0 [] [.bool false] (none) true false false false none),
  (5, Ty.mk false 1 1 0 [] [.int .u8 0] (some .u8) false false false false none),
  (9, Ty.mk false 1 16 0 [] [.string ByteArray.empty] (none) false false false true none),
  (22, Ty.mk false 1 24 5 [] [.slice none 0 0] (none) false false true false none),
  (24, Ty.mk false 1 24 83 [] [.slice none 0 0] (none) false false true false none),
  (25, Ty.mk false 1 24 3 [] [.slice none 0 0] (none) false false true false none),
  (27, Ty.mk true 9 104 0 [(0, 1), (1, 1), (2, 1), (3, 1), (4, 1), (5, 1), (6, 1), (7, 1), (8, 1)] [.int .i64 0, .slice none 0 0, .int .i64 0, .bool false, .int .i64 0, .slice none 0 0, .bool false, .int .i64 0, .int .i64 0] (none) false false false false none),
  (28, Ty.mk false 1 24 41 [] [.slice none 0 0] (none) false false true false none),
  (31, Ty.mk false 1 24 34 [] [.slice none 0 0] (none) false false true false none),
  (32, Ty.mk false 1 24 9 [] [.slice none 0 0] (none) false false true false none),
  (34, Ty.mk true 5 80 0 [(0, 1), (1, 1), (2, 1), (3, 1), (4, 1)] [.int .i64 0, .int .i64 0, .string ByteArray.empty, .slice none 0 0, .slice none 0 0] (none) false false false false none),
  (41, Ty.mk true 2 32 0 [(0, 1), (1, 1)] [.int .i64 0, .slice none 0 0] (none) false false false false none),
  (43, Ty.mk true 1 24 0 [(0, 1)] [.slice none 0 0] (none) false false false false none),
  (55, Ty.mk false 1 8 0 [] [.pointer none] (none) false false false false none),
  (83, Ty.mk true 3 24 0 [(0, 1), (1, 1), (2, 1)] [.int .i64 0, .int .i64 0, .int .i64 0] (none) false false false false none),
  (85, Ty.mk true 3 40 0 [(0, 1), (1, 1), (2, 1)] [.slice none 0 0, .int .i64 0, .int .i64 0] (none) false false false false none),
  (106, Ty.mk false 1 8 0 [] [.int .u64 0] (some .u64) false false false false none)]
theorem tab_ok : TabOk Tryd.prog tab := TabOk.of (l := [(3, false), (4, false), (5, false), (9, false), (22, false), (24, false), (25, false), (27, false), (28, false), (31, false), (32, false), (34, false), (41, false), (43, false), (55, false), (83, false), (85, false), (106, false)]) (by kernel_rfl)
theorem mixed : Tryd.prog.follows .mixedOrders = true := by rfl

set_option maxRecDepth 8000 in
theorem slices_Index_string_ac {a0 : List ByteArray} {a1 : ByteArray} {r : Int} (h : slices_Index_string.f a0 a1 = some r) : AC Tryd.prog 37 [.v (.im false (rowsOf Str_c a0)), .v (.s (.string a1))] [.v (.jk), .v (.jk)] [.v (.s (.int .i64 r))] := by
  unfold slices_Index_string.f at h
  let ar := Ls.ar; let cm := Ls.cm; let bo := Ls.bo; let sc := Ls.sc; let sa := Ls.sa; let sx := Ls.sx; let ss := Ls.ss; let sl := Ls.sl; let bs := Ls.bs; let sb := Ls.sb; let ln := Ls.ln; let sr := Ls.sr; let ap := Ls.ap; let up := Ls.up; let rp := Ls.rp; let fr := Ls.fr; let ge := Ls.ge; let le := Ls.le; let lt := Ls.lt; let nz := Ls.nz; let mm := Ls.mm; let ma := Ls.ma; let sm := Ls.sm; let fl := Ls.fl; let al := Ls.al; let ci := Ls.ci
  let eStr_c := rowsOf Str_c
  let lenI_Str := @lenI ByteArray
  have hL : (⟨ar, cm, bo, sc, sa, sx, ss, sl, bs, sb, ln, sr, ap, up, rp, fr, ge, le, lt, nz, mm, ma, sm, fl, al, ci⟩ : Lf) = Ls := rfl
  show AC Tryd.prog 37 [.v (.im false (eStr_c a0)), .v (.s (.string a1))] _ _
  refine AC.of_run2 tab_ok Tryd.func37 (by rfl) (by rfl) (by cbv) ⟨by decide, rfl⟩ fun F hP hA => ?_
  have hT : TabOk F.P tab := hP ▸ tab_ok
  have hM : F.P.follows .mixedOrders = true := hP ▸ mixed
  have hC : ∀ {f a o r}, AC Tryd.prog f a o r → AC F.P f a o r := fun h => hP ▸ h
  refine Run.seq ?_
  refine Run.region hL hT [] (by cbv) ?_ ?_
  · exact hq0
  refine Run.seq ?_
  refine Run.seq ?_
  refine Run.region hL hT [] (by cbv) ?_ ?_
  · exact hq0
  rw [show ln (eStr_c a0) = lenI_Str a0 from ln_eq Str_c _]
  refine Run.block ?_
  refine Run.loop1 (fun (z5 : Int) => ⟨19, 100000, [(0, .t (.im false (eStr_c a0))), (1, .t (.s (.string a1))), (7, .t (.s (.int .i64 (lenI_Str a0)))), (8, .t (.s (.int .i64 z5)))], []⟩) (x0 := 0) h (Weak.of _ [] hA (by cbv) ?_) (fun _ => rfl) ?_
  · repeat (first | exact hq0 | refine hq (by first | exact True.intro | rfl) ?_)
  · intro k z5 h
    rw [slices_Index_string.l0] at h
    refine Run.seq ?_
    refine Run.region hL hT [] (by cbv) ?_ ?_
    · exact (hq trivial hq0)
    refine Run.seq ?_
    refine Run.cond (by cbv) (hq0) (fun c6 => ?_) (fun c6 => ?_)
    · have h := if_t c6 h
      refine Run.skip ?_
      refine Run.seq ?_
      refine Run.block ?_
      refine Run.seq ?_
      refine Run.region hL hT [] (by cbv) ?_ ?_
      · exact hq0
      refine Run.seq ?_
      obtain ⟨x7, h_x7, h⟩ := bnd h
      refine Run.region hL hT [(3, .el [.s (.string x7)])] (by cbv) ?_ ?_
      · exact (hq (get_le h_x7) (hq (get_lt (f := Str_c) h_x7) (hq (get_ge (f := Str_c) h_x7) hq0)))
      refine Run.cond (by cbv) (hq0) (fun c8 => ?_) (fun c8 => ?_)
      · have h := if_t c8 h
        refine Run.seq ?_
        refine Run.region hL hT [] (by cbv) ?_ ?_
        · exact hq0
        refine Run.ret ?_
        cases h
        refine ⟨_, _, by cbv, ?_, ?_⟩
        · exact LLe.r
        · exact (ALe.v LLe.r ALe.nil)
      · have h := if_f c8 h
        refine Run.skip ?_
        refine Run.region hL hT [] (by cbv) ?_ ?_
        · exact (hq trivial hq0)
        refine ⟨(ar .add .i64 z5 1), h, Weak.of _ [] hA (by cbv) ?_⟩
        repeat (first | exact hq0 | refine hq (by first | exact True.intro | rfl) ?_)
    · have h := if_f c6 h
      refine Run.exit ?_
      refine Run.seq ?_
      refine Run.region hL hT [] (by cbv) ?_ ?_
      · exact hq0
      refine Run.ret ?_
      cases h
      refine ⟨_, _, by cbv, ?_, ?_⟩
      · exact LLe.r
      · exact (ALe.v LLe.r ALe.nil)

set_option maxRecDepth 8000 in
theorem impl_within_ac {a0 : Int} {a1 : Int} {a2 : Int} {r : Bool} (h : impl_within.f a0 a1 a2 = some r) : AC Tryd.prog 70 [.v (.s (.int .i64 a0)), .v (.s (.int .i64 a1)), .v (.s (.int .i64 a2))] [.v (.jk), .v (.jk), .v (.jk)] [.v (.s (.bool r))] := by
  unfold impl_within.f at h
  let ar := Ls.ar; let cm := Ls.cm; let bo := Ls.bo; let sc := Ls.sc; let sa := Ls.sa; let sx := Ls.sx; let ss := Ls.ss; let sl := Ls.sl; let bs := Ls.bs; let sb := Ls.sb; let ln := Ls.ln; let sr := Ls.sr; let ap := Ls.ap; let up := Ls.up; let rp := Ls.rp; let fr := Ls.fr; let ge := Ls.ge; let le := Ls.le; let lt := Ls.lt; let nz := Ls.nz; let mm := Ls.mm; let ma := Ls.ma; let sm := Ls.sm; let fl := Ls.fl; let al := Ls.al; let ci := Ls.ci
  have hL : (⟨ar, cm, bo, sc, sa, sx, ss, sl, bs, sb, ln, sr, ap, up, rp, fr, ge, le, lt, nz, mm, ma, sm, fl, al, ci⟩ : Lf) = Ls := rfl
  show AC Tryd.prog 70 [.v (.s (.int .i64 a0)), .v (.s (.int .i64 a1)), .v (.s (.int .i64 a2))] _ _
  refine AC.of_run2 tab_ok Tryd.func70 (by rfl) (by rfl) (by cbv) ⟨by decide, rfl⟩ fun F hP hA => ?_
  have hT : TabOk F.P tab := hP ▸ tab_ok
  have hM : F.P.follows .mixedOrders = true := hP ▸ mixed
  have hC : ∀ {f a o r}, AC Tryd.prog f a o r → AC F.P f a o r := fun h => hP ▸ h
  refine Run.seq ?_
  refine Run.region hL hT [] (by cbv) ?_ ?_
  · exact hq0
  refine Run.seq ?_
  refine Run.region hL hT [] (by cbv) ?_ ?_
  · exact (hq trivial (hq (fun _ => hq0) (hq (fun _ => hq0) (hq (fun g3 => (hq g3 (hq g3 (hq trivial hq0)))) (hq (fun q4 => (hq q4 hq0)) (hq (fun _ => hq0) hq0))))))
  refine Run.ret ?_
  cases h
  refine ⟨_, _, by cbv, ?_, ?_⟩
  · exact LLe.r
  · exact (ALe.v LLe.r ALe.nil)

set_option maxRecDepth 8000 in
theorem impl_textOk_ac {a0 : ByteArray} {r : Bool} (h : impl_textOk.f a0 = some r) : AC Tryd.prog 99 [.v (.s (.string a0))] [.v (.jk)] [.v (.s (.bool r))] := by
  unfold impl_textOk.f at h
  let ar := Ls.ar; let cm := Ls.cm; let bo := Ls.bo; let sc := Ls.sc; let sa := Ls.sa; let sx := Ls.sx; let ss := Ls.ss; let sl := Ls.sl; let bs := Ls.bs; let sb := Ls.sb; let ln := Ls.ln; let sr := Ls.sr; let ap := Ls.ap; let up := Ls.up; let rp := Ls.rp; let fr := Ls.fr; let ge := Ls.ge; let le := Ls.le; let lt := Ls.lt; let nz := Ls.nz; let mm := Ls.mm; let ma := Ls.ma; let sm := Ls.sm; let fl := Ls.fl; let al := Ls.al; let ci := Ls.ci
  have hL : (⟨ar, cm, bo, sc, sa, sx, ss, sl, bs, sb, ln, sr, ap, up, rp, fr, ge, le, lt, nz, mm, ma, sm, fl, al, ci⟩ : Lf) = Ls := rfl
  show AC Tryd.prog 99 [.v (.s (.string a0))] _ _
  refine AC.of_run2 tab_ok Tryd.func99 (by rfl) (by rfl) (by cbv) ⟨by decide, rfl⟩ fun F hP hA => ?_
  have hT : TabOk F.P tab := hP ▸ tab_ok
  have hM : F.P.follows .mixedOrders = true := hP ▸ mixed
  have hC : ∀ {f a o r}, AC Tryd.prog f a o r → AC F.P f a o r := fun h => hP ▸ h
  refine Run.seq ?_
  refine Run.region hL hT [] (by cbv) ?_ ?_
  · exact hq0
  refine Run.seq ?_
  refine Run.seq ?_
  refine Run.region hL hT [] (by cbv) ?_ ?_
  · exact hq0
  refine Run.block ?_
  refine Run.loop2 (fun (z4 : Int) (z5 : Int) => ⟨19, 100000, [(0, .t (.s (.string a0))), (5, .t (.s (.int .i64 z4))), (6, .t (.s (.int .i64 z5)))], []⟩) (x0 := (sl a0)) (x1 := 0) h (Weak.of _ [] hA (by cbv) ?_) (fun _ _ => rfl) ?_
  · repeat (first | exact hq0 | refine hq (by first | exact True.intro | rfl) ?_)
  · intro k z4 z5 h
    rw [impl_textOk.l0] at h
    refine Run.seq ?_
    refine Run.region hL hT [] (by cbv) ?_ ?_
    · exact (hq trivial hq0)
    refine Run.seq ?_
    refine Run.cond (by cbv) (hq0) (fun c6 => ?_) (fun c6 => ?_)
    · have h := if_t c6 h
      refine Run.skip ?_
      refine Run.seq ?_
      refine Run.block ?_
      refine Run.seq ?_
      refine Run.region hL hT [] (by cbv) ?_ ?_
      · exact hq0
      refine Run.seq ?_
      obtain ⟨u7, h_u7, h⟩ := bnd h
      obtain ⟨r8, h_r8, h⟩ := bnd h
      refine Run.region hL hT [(4, .call [false, false, false] [.v (.jk), .v (.jk), .v (.jk)] [.v (.s (.bool r8))])] (by cbv) ?_ ?_
      · exact (hq (inS_0 h_u7) (hq (inS_1 h_u7) (hq (hC (impl_within_ac h_r8)) hq0)))
      refine Run.cond (by cbv) (hq0) (fun c9 => ?_) (fun c9 => ?_)
      · have h := if_t c9 h
        refine Run.seq ?_
        refine Run.region hL hT [] (by cbv) ?_ ?_
        · exact hq0
        refine Run.ret ?_
        cases h
        refine ⟨_, _, by cbv, ?_, ?_⟩
        · exact LLe.r
        · exact (ALe.v LLe.r ALe.nil)
      · have h := if_f c9 h
        refine Run.skip ?_
        refine Run.region hL hT [] (by cbv) ?_ ?_
        · exact (hq trivial hq0)
        refine ⟨z4, (ar .add .i64 z5 1), h, Weak.of _ [] hA (by cbv) ?_⟩
        repeat (first | exact hq0 | refine hq (by first | exact True.intro | rfl) ?_)
    · have h := if_f c6 h
      refine Run.exit ?_
      refine Run.seq ?_
      refine Run.region hL hT [] (by cbv) ?_ ?_
      · exact (hq trivial hq0)
      refine Run.ret ?_
      cases h
      refine ⟨_, _, by cbv, ?_, ?_⟩
      · exact LLe.r
      · exact (ALe.v LLe.r ALe.nil)

set_option maxRecDepth 8000 in
theorem impl_namesOk_ac {a0 : List ByteArray} {r : Bool} (h : impl_namesOk.f a0 = some r) : AC Tryd.prog 100 [.v (.im false (rowsOf Str_c a0))] [.v (.jk)] [.v (.s (.bool r))] := by
  unfold impl_namesOk.f at h
  let ar := Ls.ar; let cm := Ls.cm; let bo := Ls.bo; let sc := Ls.sc; let sa := Ls.sa; let sx := Ls.sx; let ss := Ls.ss; let sl := Ls.sl; let bs := Ls.bs; let sb := Ls.sb; let ln := Ls.ln; let sr := Ls.sr; let ap := Ls.ap; let up := Ls.up; let rp := Ls.rp; let fr := Ls.fr; let ge := Ls.ge; let le := Ls.le; let lt := Ls.lt; let nz := Ls.nz; let mm := Ls.mm; let ma := Ls.ma; let sm := Ls.sm; let fl := Ls.fl; let al := Ls.al; let ci := Ls.ci
  let eStr_c := rowsOf Str_c
  let lenI_Str := @lenI ByteArray
  have hL : (⟨ar, cm, bo, sc, sa, sx, ss, sl, bs, sb, ln, sr, ap, up, rp, fr, ge, le, lt, nz, mm, ma, sm, fl, al, ci⟩ : Lf) = Ls := rfl
  show AC Tryd.prog 100 [.v (.im false (eStr_c a0))] _ _
  refine AC.of_run2 tab_ok Tryd.func100 (by rfl) (by rfl) (by cbv) ⟨by decide, rfl⟩ fun F hP hA => ?_
  have hT : TabOk F.P tab := hP ▸ tab_ok
  have hM : F.P.follows .mixedOrders = true := hP ▸ mixed
  have hC : ∀ {f a o r}, AC Tryd.prog f a o r → AC F.P f a o r := fun h => hP ▸ h
  refine Run.seq ?_
  refine Run.region hL hT [] (by cbv) ?_ ?_
  · exact hq0
  refine Run.seq ?_
  refine Run.seq ?_
  refine Run.region hL hT [] (by cbv) ?_ ?_
  · exact hq0
  rw [show ln (eStr_c a0) = lenI_Str a0 from ln_eq Str_c _]
  refine Run.block ?_
  refine Run.loop1 (fun (z5 : Int) => ⟨29, 100000, [(0, .t (.im false (eStr_c a0))), (5, .t (.im false (eStr_c a0))), (6, .t (.s (.int .i64 (lenI_Str a0)))), (7, .t (.s (.int .i64 z5)))], []⟩) (x0 := 0) h (Weak.of _ [] hA (by cbv) ?_) (fun _ => rfl) ?_
  · repeat (first | exact hq0 | refine hq (by first | exact True.intro | rfl) ?_)
  · intro k z5 h
    rw [impl_namesOk.l0] at h
    refine Run.seq ?_
    refine Run.region hL hT [] (by cbv) ?_ ?_
    · exact (hq trivial hq0)
    refine Run.seq ?_
    refine Run.cond (by cbv) (hq0) (fun c6 => ?_) (fun c6 => ?_)
    · have h := if_t c6 h
      refine Run.skip ?_
      refine Run.seq ?_
      refine Run.block ?_
      refine Run.seq ?_
      obtain ⟨x7, h_x7, h⟩ := bnd h
      refine Run.region hL hT [(1, .el [.s (.string x7)])] (by cbv) ?_ ?_
      · exact (hq (get_le h_x7) (hq (get_lt (f := Str_c) h_x7) (hq (get_ge (f := Str_c) h_x7) hq0)))
      refine Run.seq ?_
      obtain ⟨r8, h_r8, h⟩ := bnd h
      obtain ⟨x9, h_x9, h⟩ := bnd h
      refine Run.region hL hT [(1, .call [false] [.v (.jk)] [.v (.s (.bool r8))]), (10, .el [.s (.string x9)])] (by cbv) ?_ ?_
      · exact (hq (hC (impl_textOk_ac h_r8)) (hq (fun _ => hq0) (hq (fun g11 => (hq g11 (hq trivial hq0))) (hq (fun g12 => (hq g12 hq0)) (hq (fun _ => hq0) (hq (fun _ => hq0) (hq (fun g15 => (hq g15 (hq trivial hq0))) (hq (fun g16 => (hq g16 (hq g16 (hq (get_le (gd_t h_x9 g16)) (hq (get_lt (f := Str_c) (gd_t h_x9 g16)) (hq (get_ge (f := Str_c) (gd_t h_x9 g16)) hq0)))))) (hq (fun g17 => (hq g17 hq0)) (hq (fun _ => hq0) (hq (fun g19 => (hq g19 (hq g19 hq0))) (hq (fun g20 => (hq g20 (hq (fun q21 => (hq (bo_a g20 q21) hq0)) (hq (fun _ => hq0) hq0)))) (hq (fun _ => hq0) (hq (fun q24 => (hq (bo_m q24) hq0)) hq0))))))))))))))
      refine Run.cond (by cbv) (hq0) (fun c25 => ?_) (fun c25 => ?_)
      · have h := if_t c25 h
        refine Run.seq ?_
        refine Run.region hL hT [] (by cbv) ?_ ?_
        · exact hq0
        refine Run.ret ?_
        cases h
        refine ⟨_, _, by cbv, ?_, ?_⟩
        · exact LLe.r
        · exact (ALe.v LLe.r ALe.nil)
      · have h := if_f c25 h
        refine Run.skip ?_
        refine Run.region hL hT [] (by cbv) ?_ ?_
        · exact (hq trivial hq0)
        refine ⟨(ar .add .i64 z5 1), h, Weak.of _ [] hA (by cbv) ?_⟩
        repeat (first | exact hq0 | refine hq (by first | exact True.intro | rfl) ?_)
    · have h := if_f c6 h
      refine Run.exit ?_
      refine Run.seq ?_
      refine Run.region hL hT [] (by cbv) ?_ ?_
      · exact hq0
      refine Run.ret ?_
      cases h
      refine ⟨_, _, by cbv, ?_, ?_⟩
      · exact LLe.r
      · exact (ALe.v LLe.r ALe.nil)

set_option maxRecDepth 8000 in
theorem impl_isNum_ac {a0 : Int} {r : Bool} (h : impl_isNum.f a0 = some r) : AC Tryd.prog 79 [.v (.s (.int .i64 a0))] [.v (.jk)] [.v (.s (.bool r))] := by
  unfold impl_isNum.f at h
  let ar := Ls.ar; let cm := Ls.cm; let bo := Ls.bo; let sc := Ls.sc; let sa := Ls.sa; let sx := Ls.sx; let ss := Ls.ss; let sl := Ls.sl; let bs := Ls.bs; let sb := Ls.sb; let ln := Ls.ln; let sr := Ls.sr; let ap := Ls.ap; let up := Ls.up; let rp := Ls.rp; let fr := Ls.fr; let ge := Ls.ge; let le := Ls.le; let lt := Ls.lt; let nz := Ls.nz; let mm := Ls.mm; let ma := Ls.ma; let sm := Ls.sm; let fl := Ls.fl; let al := Ls.al; let ci := Ls.ci
  have hL : (⟨ar, cm, bo, sc, sa, sx, ss, sl, bs, sb, ln, sr, ap, up, rp, fr, ge, le, lt, nz, mm, ma, sm, fl, al, ci⟩ : Lf) = Ls := rfl
  show AC Tryd.prog 79 [.v (.s (.int .i64 a0))] _ _
  refine AC.of_run2 tab_ok Tryd.func79 (by rfl) (by rfl) (by cbv) ⟨by decide, rfl⟩ fun F hP hA => ?_
  have hT : TabOk F.P tab := hP ▸ tab_ok
  have hM : F.P.follows .mixedOrders = true := hP ▸ mixed
  have hC : ∀ {f a o r}, AC Tryd.prog f a o r → AC F.P f a o r := fun h => hP ▸ h
  refine Run.seq ?_
  refine Run.region hL hT [] (by cbv) ?_ ?_
  · exact hq0
  refine Run.seq ?_
  obtain ⟨r1, h_r1, h⟩ := bnd h
  refine Run.region hL hT [(1, .call [false, false, false] [.v (.jk), .v (.jk), .v (.jk)] [.v (.s (.bool r1))])] (by cbv) ?_ ?_
  · exact (hq (hC (impl_within_ac h_r1)) hq0)
  refine Run.ret ?_
  cases h
  refine ⟨_, _, by cbv, ?_, ?_⟩
  · exact LLe.r
  · exact (ALe.v LLe.r ALe.nil)

set_option maxRecDepth 8000 in
theorem impl_ownOk_ac {a0v_Kind : Int} {a0v_N : Int} {a0v_S : ByteArray} {a0v_List_ : List Json} {a0v_Names : List ByteArray} {r : Bool} (h : impl_ownOk.f (Json.mk a0v_Kind a0v_N a0v_S a0v_List_ a0v_Names) = some r) : AC Tryd.prog 86 [.ag [.s (.int .i64 a0v_Kind), .s (.int .i64 a0v_N), .s (.string a0v_S), .im false (rowsOf Json_i a0v_List_), .im false (rowsOf Str_c a0v_Names)]] [.ag [.jk, .jk, .jk, .jk, .jk]] [.v (.s (.bool r))] := by
  unfold impl_ownOk.f at h
  let ar := Ls.ar; let cm := Ls.cm; let bo := Ls.bo; let sc := Ls.sc; let sa := Ls.sa; let sx := Ls.sx; let ss := Ls.ss; let sl := Ls.sl; let bs := Ls.bs; let sb := Ls.sb; let ln := Ls.ln; let sr := Ls.sr; let ap := Ls.ap; let up := Ls.up; let rp := Ls.rp; let fr := Ls.fr; let ge := Ls.ge; let le := Ls.le; let lt := Ls.lt; let nz := Ls.nz; let mm := Ls.mm; let ma := Ls.ma; let sm := Ls.sm; let fl := Ls.fl; let al := Ls.al; let ci := Ls.ci
  let eJson_i := rowsOf Json_i
  let eStr_c := rowsOf Str_c
  let lenI_Json := @lenI Json
  let lenI_Str := @lenI ByteArray
  have hL : (⟨ar, cm, bo, sc, sa, sx, ss, sl, bs, sb, ln, sr, ap, up, rp, fr, ge, le, lt, nz, mm, ma, sm, fl, al, ci⟩ : Lf) = Ls := rfl
  show AC Tryd.prog 86 [.ag [.s (.int .i64 a0v_Kind), .s (.int .i64 a0v_N), .s (.string a0v_S), .im false (eJson_i a0v_List_), .im false (eStr_c a0v_Names)]] _ _
  refine AC.of_run2 tab_ok Tryd.func86 (by rfl) (by rfl) (by cbv) ⟨by decide, rfl⟩ fun F hP hA => ?_
  have hT : TabOk F.P tab := hP ▸ tab_ok
  have hM : F.P.follows .mixedOrders = true := hP ▸ mixed
  have hC : ∀ {f a o r}, AC Tryd.prog f a o r → AC F.P f a o r := fun h => hP ▸ h
  refine Run.seq ?_
  refine Run.region hL hT [] (by cbv) ?_ ?_
  · exact hq0
  refine Run.seq ?_
  refine Run.seq ?_
  refine Run.region hL hT [] (by cbv) ?_ ?_
  · exact (hq trivial (hq trivial (hq (fun _ => hq0) (hq (fun g2 => (by have g2C := g2; rw [show ln (eJson_i a0v_List_) = lenI_Json a0v_List_ from ln_eq Json_i _] at g2C; exact (hq g2 (hq trivial hq0)))) (hq (fun g3 => (by have g3C := g3; rw [show ln (eJson_i a0v_List_) = lenI_Json a0v_List_ from ln_eq Json_i _] at g3C; exact (hq g3 (hq trivial hq0)))) (hq (fun q4 => (by have q4C := q4; rw [show ln (eJson_i a0v_List_) = lenI_Json a0v_List_ from ln_eq Json_i _] at q4C; exact (hq q4 hq0))) (hq (fun _ => hq0) (hq (fun _ => hq0) (hq (fun g7 => (by have g7C := g7; rw [show ln (eJson_i a0v_List_) = lenI_Json a0v_List_ from ln_eq Json_i _] at g7C; exact (hq g7 (hq trivial hq0)))) (hq (fun g8 => (by have g8C := g8; rw [show ln (eJson_i a0v_List_) = lenI_Json a0v_List_ from ln_eq Json_i _] at g8C; exact (hq g8 (hq trivial hq0)))) (hq (fun q9 => (by have q9C := q9; rw [show ln (eJson_i a0v_List_) = lenI_Json a0v_List_ from ln_eq Json_i _] at q9C; exact (hq q9 hq0))) (hq (fun _ => hq0) (hq (fun _ => hq0) (hq (fun g12 => (by have g12C := g12; rw [show ln (eJson_i a0v_List_) = lenI_Json a0v_List_ from ln_eq Json_i _] at g12C; exact (hq g12 (hq trivial hq0)))) (hq (fun g13 => (by have g13C := g13; rw [show ln (eJson_i a0v_List_) = lenI_Json a0v_List_ from ln_eq Json_i _] at g13C; exact (hq g13 hq0))) (hq (fun g14 => (by have g14C := g14; rw [show ln (eJson_i a0v_List_) = lenI_Json a0v_List_ from ln_eq Json_i _] at g14C; exact (hq g14 (hq trivial hq0)))) (hq (fun g15 => (by have g15C := g15; rw [show ln (eJson_i a0v_List_) = lenI_Json a0v_List_ from ln_eq Json_i _] at g15C; exact (hq g15 hq0))) (hq (fun _ => hq0) (hq (fun g17 => (by have g17C := g17; rw [show ln (eJson_i a0v_List_) = lenI_Json a0v_List_ from ln_eq Json_i _, show ln (eStr_c a0v_Names) = lenI_Str a0v_Names from ln_eq Str_c _] at g17C; exact (hq g17 (hq trivial hq0)))) (hq (fun g18 => (by have g18C := g18; rw [show ln (eJson_i a0v_List_) = lenI_Json a0v_List_ from ln_eq Json_i _, show ln (eStr_c a0v_Names) = lenI_Str a0v_Names from ln_eq Str_c _] at g18C; exact (hq g18 (hq trivial hq0)))) (hq (fun g19 => (by have g19C := g19; rw [show ln (eJson_i a0v_List_) = lenI_Json a0v_List_ from ln_eq Json_i _] at g19C; exact (hq g19 (hq (fun q20 => (by have q20C := q20; rw [show ln (eStr_c a0v_Names) = lenI_Str a0v_Names from ln_eq Str_c _] at q20C; exact (hq (bo_a g19 q20) hq0))) (hq (fun _ => hq0) hq0))))) (hq (fun _ => hq0) (hq (fun q23 => (by have q23C := q23; rw [show ln (eJson_i a0v_List_) = lenI_Json a0v_List_ from ln_eq Json_i _] at q23C; exact (hq (bo_m q23) hq0))) hq0)))))))))))))))))))))))
  rw [show ln (eJson_i a0v_List_) = lenI_Json a0v_List_ from ln_eq Json_i _]
  rw [show ln (eStr_c a0v_Names) = lenI_Str a0v_Names from ln_eq Str_c _]
  refine Run.cond (by cbv) (hq0) (fun c24 => ?_) (fun c24 => ?_)
  · have h := if_t c24 h
    refine Run.seq ?_
    refine Run.region hL hT [] (by cbv) ?_ ?_
    · exact hq0
    refine Run.ret ?_
    cases h
    refine ⟨_, _, by cbv, ?_, ?_⟩
    · exact LLe.r
    · exact (ALe.v LLe.r ALe.nil)
  · have h := if_f c24 h
    refine Run.skip ?_
    refine Run.seq ?_
    refine Run.seq ?_
    refine Run.region hL hT [] (by cbv) ?_ ?_
    · exact (hq trivial (hq trivial (hq (fun _ => hq0) (hq (fun g26 => (hq g26 (hq trivial hq0))) (hq (fun g27 => (hq g27 (hq trivial hq0))) (hq (fun q28 => (hq q28 hq0)) (hq (fun _ => hq0) (hq (fun _ => hq0) (hq (fun g31 => (hq g31 (hq trivial hq0))) (hq (fun g32 => (hq g32 (hq trivial hq0))) (hq (fun q33 => (hq q33 hq0)) (hq (fun _ => hq0) (hq (fun _ => hq0) (hq (fun g36 => (hq g36 (hq trivial hq0))) (hq (fun g37 => (hq g37 hq0)) (hq (fun g38 => (hq g38 hq0)) (hq (fun _ => hq0) (hq (fun g40 => (hq g40 (hq trivial hq0))) (hq (fun g41 => (hq g41 (hq trivial hq0))) (hq (fun g42 => (hq g42 (hq (fun q43 => (hq (bo_a g42 q43) hq0)) (hq (fun _ => hq0) hq0)))) (hq (fun _ => hq0) (hq (fun q46 => (hq (bo_m q46) hq0)) hq0))))))))))))))))))))))
    refine Run.cond (by cbv) (hq0) (fun c47 => ?_) (fun c47 => ?_)
    · have h := if_t c47 h
      refine Run.seq ?_
      refine Run.region hL hT [] (by cbv) ?_ ?_
      · exact hq0
      refine Run.ret ?_
      cases h
      refine ⟨_, _, by cbv, ?_, ?_⟩
      · exact LLe.r
      · exact (ALe.v LLe.r ALe.nil)
    · have h := if_f c47 h
      refine Run.skip ?_
      refine Run.seq ?_
      refine Run.seq ?_
      refine Run.region hL hT [] (by cbv) ?_ ?_
      · exact (hq trivial hq0)
      refine Run.block ?_
      refine Run.seq ?_
      refine Run.region hL hT [] (by cbv) ?_ ?_
      · exact (hq trivial hq0)
      refine Run.cond (by cbv) (hq0) (fun c48 => ?_) (fun c48 => ?_)
      · have h := if_t c48 h
        refine Run.seq ?_
        obtain ⟨r49, h_r49, h⟩ := bnd h
        refine Run.region hL hT [(2, .call [false, false, false] [.v (.jk), .v (.jk), .v (.jk)] [.v (.s (.bool r49))])] (by cbv) ?_ ?_
        · exact (hq trivial (hq (hC (impl_within_ac h_r49)) hq0))
        refine Run.ret ?_
        cases h
        refine ⟨_, _, by cbv, ?_, ?_⟩
        · exact LLe.r
        · exact (ALe.v LLe.r ALe.nil)
      · have h := if_f c48 h
        refine Run.seq ?_
        refine Run.region hL hT [] (by cbv) ?_ ?_
        · exact (hq trivial hq0)
        refine Run.cond (by cbv) (hq0) (fun c50 => ?_) (fun c50 => ?_)
        · have h := if_t c50 h
          refine Run.seq ?_
          obtain ⟨r51, h_r51, h⟩ := bnd h
          refine Run.region hL hT [(2, .call [false] [.v (.jk)] [.v (.s (.bool r51))])] (by cbv) ?_ ?_
          · exact (hq trivial (hq (hC (impl_isNum_ac h_r51)) hq0))
          refine Run.ret ?_
          cases h
          refine ⟨_, _, by cbv, ?_, ?_⟩
          · exact LLe.r
          · exact (ALe.v LLe.r ALe.nil)
        · have h := if_f c50 h
          refine Run.seq ?_
          refine Run.region hL hT [] (by cbv) ?_ ?_
          · exact (hq trivial hq0)
          refine Run.cond (by cbv) (hq0) (fun c52 => ?_) (fun c52 => ?_)
          · have h := if_t c52 h
            refine Run.seq ?_
            obtain ⟨r53, h_r53, h⟩ := bnd h
            refine Run.region hL hT [(2, .call [false] [.v (.jk)] [.v (.s (.bool r53))])] (by cbv) ?_ ?_
            · exact (hq trivial (hq (hC (impl_textOk_ac h_r53)) hq0))
            refine Run.ret ?_
            cases h
            refine ⟨_, _, by cbv, ?_, ?_⟩
            · exact LLe.r
            · exact (ALe.v LLe.r ALe.nil)
          · have h := if_f c52 h
            refine Run.seq ?_
            refine Run.region hL hT [] (by cbv) ?_ ?_
            · exact (hq trivial hq0)
            refine Run.cond (by cbv) (hq0) (fun c54 => ?_) (fun c54 => ?_)
            · have h := if_t c54 h
              refine Run.seq ?_
              obtain ⟨r55, h_r55, h⟩ := bnd h
              refine Run.region hL hT [(10, .call [false] [.v (.jk)] [.v (.s (.bool r55))])] (by cbv) ?_ ?_
              · exact (hq trivial (hq trivial (hq trivial (hq (fun _ => hq0) (hq (fun g57 => (by have g57C := g57; rw [show ln (eJson_i a0v_List_) = lenI_Json a0v_List_ from ln_eq Json_i _, show ln (eStr_c a0v_Names) = lenI_Str a0v_Names from ln_eq Str_c _] at g57C; exact (hq g57 (hq trivial hq0)))) (hq (fun g58 => (by have g58C := g58; rw [show ln (eJson_i a0v_List_) = lenI_Json a0v_List_ from ln_eq Json_i _, show ln (eStr_c a0v_Names) = lenI_Str a0v_Names from ln_eq Str_c _] at g58C; exact (hq g58 (hq (hC (impl_namesOk_ac (gd_t h_r55 g58C))) hq0)))) (hq (fun q59 => (by have q59C := q59; rw [show ln (eJson_i a0v_List_) = lenI_Json a0v_List_ from ln_eq Json_i _, show ln (eStr_c a0v_Names) = lenI_Str a0v_Names from ln_eq Str_c _] at q59C; exact (hq q59 hq0))) (hq (fun _ => hq0) hq0))))))))
              rw [show ln (eJson_i a0v_List_) = lenI_Json a0v_List_ from ln_eq Json_i _]
              rw [show ln (eStr_c a0v_Names) = lenI_Str a0v_Names from ln_eq Str_c _]
              refine Run.ret ?_
              cases h
              refine ⟨_, _, by cbv, ?_, ?_⟩
              · exact LLe.r
              · exact (ALe.v LLe.r ALe.nil)
            · have h := if_f c54 h
              refine Run.skip ?_
              refine Run.seq ?_
              refine Run.region hL hT [] (by cbv) ?_ ?_
              · exact (hq trivial (hq trivial (hq (fun _ => hq0) (hq (fun g62 => (hq g62 (hq trivial hq0))) (hq (fun g63 => (hq g63 (hq trivial hq0))) (hq (fun _ => hq0) (hq (fun q65 => (hq (bo_m q65) hq0)) hq0)))))))
              refine Run.ret ?_
              cases h
              refine ⟨_, _, by cbv, ?_, ?_⟩
              · exact LLe.r
              · exact (ALe.v LLe.r ALe.nil)

set_option maxRecDepth 8000 in
theorem impl_sizeIn_acs (self : Json → Int → Option Int) (hself : ∀ {a0v_Kind : Int} {a0v_N : Int} {a0v_S : ByteArray} {a0v_List_ : List Json} {a0v_Names : List ByteArray} {a1 : Int} {r : Int} (h : self (Json.mk a0v_Kind a0v_N a0v_S a0v_List_ a0v_Names) a1 = some r), AC Tryd.prog 64 [.ag [.s (.int .i64 a0v_Kind), .s (.int .i64 a0v_N), .s (.string a0v_S), .im false (rowsOf Json_i a0v_List_), .im false (rowsOf Str_c a0v_Names)], .v (.s (.int .i64 a1))] [.ag [.jk, .jk, .jk, .jk, .jk], .v (.jk)] [.v (.s (.int .i64 r))]) {a0v_Kind : Int} {a0v_N : Int} {a0v_S : ByteArray} {a0v_List_ : List Json} {a0v_Names : List ByteArray} {a1 : Int} {r : Int} (h : impl_sizeIn.b self (Json.mk a0v_Kind a0v_N a0v_S a0v_List_ a0v_Names) a1 = some r) : AC Tryd.prog 64 [.ag [.s (.int .i64 a0v_Kind), .s (.int .i64 a0v_N), .s (.string a0v_S), .im false (rowsOf Json_i a0v_List_), .im false (rowsOf Str_c a0v_Names)], .v (.s (.int .i64 a1))] [.ag [.jk, .jk, .jk, .jk, .jk], .v (.jk)] [.v (.s (.int .i64 r))] := by
  unfold impl_sizeIn.b at h
  let ar := Ls.ar; let cm := Ls.cm; let bo := Ls.bo; let sc := Ls.sc; let sa := Ls.sa; let sx := Ls.sx; let ss := Ls.ss; let sl := Ls.sl; let bs := Ls.bs; let sb := Ls.sb; let ln := Ls.ln; let sr := Ls.sr; let ap := Ls.ap; let up := Ls.up; let rp := Ls.rp; let fr := Ls.fr; let ge := Ls.ge; let le := Ls.le; let lt := Ls.lt; let nz := Ls.nz; let mm := Ls.mm; let ma := Ls.ma; let sm := Ls.sm; let fl := Ls.fl; let al := Ls.al; let ci := Ls.ci
  let eJson_i := rowsOf Json_i
  let eStr_c := rowsOf Str_c
  let lenI_Json := @lenI Json
  have hL : (⟨ar, cm, bo, sc, sa, sx, ss, sl, bs, sb, ln, sr, ap, up, rp, fr, ge, le, lt, nz, mm, ma, sm, fl, al, ci⟩ : Lf) = Ls := rfl
  show AC Tryd.prog 64 [.ag [.s (.int .i64 a0v_Kind), .s (.int .i64 a0v_N), .s (.string a0v_S), .im false (eJson_i a0v_List_), .im false (eStr_c a0v_Names)], .v (.s (.int .i64 a1))] _ _
  refine AC.of_run2 tab_ok Tryd.func64 (by rfl) (by rfl) (by cbv) ⟨by decide, rfl⟩ fun F hP hA => ?_
  have hT : TabOk F.P tab := hP ▸ tab_ok
  have hM : F.P.follows .mixedOrders = true := hP ▸ mixed
  have hC : ∀ {f a o r}, AC Tryd.prog f a o r → AC F.P f a o r := fun h => hP ▸ h
  refine Run.seq ?_
  refine Run.region hL hT [] (by cbv) ?_ ?_
  · exact hq0
  refine Run.seq ?_
  refine Run.seq ?_
  obtain ⟨r1, h_r1, h⟩ := bnd h
  refine Run.region hL hT [(4, .call [false] [.ag [.jk, .jk, .jk, .jk, .jk]] [.v (.s (.bool r1))])] (by cbv) ?_ ?_
  · exact (hq trivial (hq (fun g2 => (hq trivial hq0)) (hq (fun g3 => (hq g3 (hq (hC (impl_ownOk_ac (gd_t h_r1 g3))) hq0))) (hq (fun g4 => (hq g4 hq0)) (hq (fun _ => hq0) (hq (fun q6 => (hq (bo_m q6) hq0)) hq0))))))
  refine Run.cond (by cbv) (hq0) (fun c7 => ?_) (fun c7 => ?_)
  · have h := if_t c7 h
    refine Run.seq ?_
    refine Run.region hL hT [] (by cbv) ?_ ?_
    · exact hq0
    refine Run.ret ?_
    cases h
    refine ⟨_, _, by cbv, ?_, ?_⟩
    · exact LLe.r
    · exact (ALe.v LLe.r ALe.nil)
  · have h := if_f c7 h
    refine Run.skip ?_
    refine Run.seq ?_
    refine Run.region hL hT [] (by cbv) ?_ ?_
    · exact hq0
    refine Run.seq ?_
    refine Run.seq ?_
    refine Run.region hL hT [] (by cbv) ?_ ?_
    · exact (hq trivial hq0)
    rw [show ln (eJson_i a0v_List_) = lenI_Json a0v_List_ from ln_eq Json_i _]
    refine Run.block ?_
    refine Run.loop2 (fun (z13 : Int) (z14 : Int) => ⟨32, 100000, [(1, .t (.s (.int .i64 a1))), (5, .t (.s (.int .i64 z13))), (16, .t (.im false (eJson_i a0v_List_))), (17, .t (.s (.int .i64 (lenI_Json a0v_List_)))), (18, .t (.s (.int .i64 z14)))], []⟩) (x0 := 1) (x1 := 0) h (Weak.of _ [] hA (by cbv) ?_) (fun _ _ => rfl) ?_
    · repeat (first | exact hq0 | refine hq (by first | exact True.intro | rfl) ?_)
    · intro k z13 z14 h
      rw [impl_sizeIn.l0] at h
      refine Run.seq ?_
      refine Run.region hL hT [] (by cbv) ?_ ?_
      · exact (hq trivial hq0)
      refine Run.seq ?_
      refine Run.cond (by cbv) (hq0) (fun c15 => ?_) (fun c15 => ?_)
      · have h := if_t c15 h
        refine Run.skip ?_
        refine Run.seq ?_
        refine Run.block ?_
        refine Run.seq ?_
        obtain ⟨⟨x16v_Kind, x16v_N, x16v_S, x16v_List_, x16v_Names⟩, h_x16, h⟩ := bnd h
        refine Run.region hL hT [(0, .el [.s (.int .i64 x16v_Kind), .s (.int .i64 x16v_N), .s (.string x16v_S), .im false (eJson_i x16v_List_), .im false (eStr_c x16v_Names)])] (by cbv) ?_ ?_
        · exact (hq (get_le h_x16) (hq (get_lt (f := Json_i) h_x16) (hq (get_geU Json_i_u h_x16) (hq trivial hq0))))
        refine Run.seq ?_
        obtain ⟨r17, h_r17, h⟩ := bnd h
        refine Run.region hL hT [(4, .call [false, false] [.ag [.jk, .jk, .jk, .jk, .jk], .v (.jk)] [.v (.s (.int .i64 r17))])] (by cbv) ?_ ?_
        · exact (hq trivial (hq trivial (hq (hC (hself h_r17)) (hq trivial hq0))))
        refine Run.seq ?_
        refine Run.region hL hT [] (by cbv) ?_ ?_
        · exact (hq trivial hq0)
        refine Run.cond (by cbv) (hq0) (fun c18 => ?_) (fun c18 => ?_)
        · have h := if_t c18 h
          refine Run.seq ?_
          refine Run.region hL hT [] (by cbv) ?_ ?_
          · exact hq0
          refine Run.ret ?_
          cases h
          refine ⟨_, _, by cbv, ?_, ?_⟩
          · exact LLe.r
          · exact (ALe.v LLe.r ALe.nil)
        · have h := if_f c18 h
          refine Run.skip ?_
          refine Run.region hL hT [] (by cbv) ?_ ?_
          · exact (hq trivial hq0)
          refine ⟨(ar .add .i64 z13 r17), (ar .add .i64 z14 1), h, Weak.of _ [] hA (by cbv) ?_⟩
          repeat (first | exact hq0 | refine hq (by first | exact True.intro | rfl) ?_)
      · have h := if_f c15 h
        refine Run.exit ?_
        refine Run.seq ?_
        refine Run.region hL hT [] (by cbv) ?_ ?_
        · exact hq0
        refine Run.ret ?_
        cases h
        refine ⟨_, _, by cbv, ?_, ?_⟩
        · exact LLe.r
        · exact (ALe.v LLe.r ALe.nil)
theorem impl_sizeIn_acg : ∀ (k : Nat) {a0v_Kind : Int} {a0v_N : Int} {a0v_S : ByteArray} {a0v_List_ : List Json} {a0v_Names : List ByteArray} {a1 : Int} {r : Int} (h : impl_sizeIn.g k (Json.mk a0v_Kind a0v_N a0v_S a0v_List_ a0v_Names) a1 = some r), AC Tryd.prog 64 [.ag [.s (.int .i64 a0v_Kind), .s (.int .i64 a0v_N), .s (.string a0v_S), .im false (rowsOf Json_i a0v_List_), .im false (rowsOf Str_c a0v_Names)], .v (.s (.int .i64 a1))] [.ag [.jk, .jk, .jk, .jk, .jk], .v (.jk)] [.v (.s (.int .i64 r))]
  | 0 => fun h => by cases h
  | k + 1 => fun h => impl_sizeIn_acs (impl_sizeIn.g k) (impl_sizeIn_acg k) h
theorem impl_sizeIn_ac {a0v_Kind : Int} {a0v_N : Int} {a0v_S : ByteArray} {a0v_List_ : List Json} {a0v_Names : List ByteArray} {a1 : Int} {r : Int} (h : impl_sizeIn.f (Json.mk a0v_Kind a0v_N a0v_S a0v_List_ a0v_Names) a1 = some r) : AC Tryd.prog 64 [.ag [.s (.int .i64 a0v_Kind), .s (.int .i64 a0v_N), .s (.string a0v_S), .im false (rowsOf Json_i a0v_List_), .im false (rowsOf Str_c a0v_Names)], .v (.s (.int .i64 a1))] [.ag [.jk, .jk, .jk, .jk, .jk], .v (.jk)] [.v (.s (.int .i64 r))] := impl_sizeIn_acg 20 h

set_option maxRecDepth 8000 in
theorem impl_JsonOk_ac {a0v_Kind : Int} {a0v_N : Int} {a0v_S : ByteArray} {a0v_List_ : List Json} {a0v_Names : List ByteArray} {r : Bool} (h : impl_JsonOk.f (Json.mk a0v_Kind a0v_N a0v_S a0v_List_ a0v_Names) = some r) : AC Tryd.prog 38 [.ag [.s (.int .i64 a0v_Kind), .s (.int .i64 a0v_N), .s (.string a0v_S), .im false (rowsOf Json_i a0v_List_), .im false (rowsOf Str_c a0v_Names)]] [.ag [.jk, .jk, .jk, .jk, .jk]] [.v (.s (.bool r))] := by
  unfold impl_JsonOk.f at h
  let ar := Ls.ar; let cm := Ls.cm; let bo := Ls.bo; let sc := Ls.sc; let sa := Ls.sa; let sx := Ls.sx; let ss := Ls.ss; let sl := Ls.sl; let bs := Ls.bs; let sb := Ls.sb; let ln := Ls.ln; let sr := Ls.sr; let ap := Ls.ap; let up := Ls.up; let rp := Ls.rp; let fr := Ls.fr; let ge := Ls.ge; let le := Ls.le; let lt := Ls.lt; let nz := Ls.nz; let mm := Ls.mm; let ma := Ls.ma; let sm := Ls.sm; let fl := Ls.fl; let al := Ls.al; let ci := Ls.ci
  let eJson_i := rowsOf Json_i
  let eStr_c := rowsOf Str_c
  have hL : (⟨ar, cm, bo, sc, sa, sx, ss, sl, bs, sb, ln, sr, ap, up, rp, fr, ge, le, lt, nz, mm, ma, sm, fl, al, ci⟩ : Lf) = Ls := rfl
  show AC Tryd.prog 38 [.ag [.s (.int .i64 a0v_Kind), .s (.int .i64 a0v_N), .s (.string a0v_S), .im false (eJson_i a0v_List_), .im false (eStr_c a0v_Names)]] _ _
  refine AC.of_run2 tab_ok Tryd.func38 (by rfl) (by rfl) (by cbv) ⟨by decide, rfl⟩ fun F hP hA => ?_
  have hT : TabOk F.P tab := hP ▸ tab_ok
  have hM : F.P.follows .mixedOrders = true := hP ▸ mixed
  have hC : ∀ {f a o r}, AC Tryd.prog f a o r → AC F.P f a o r := fun h => hP ▸ h
  refine Run.seq ?_
  refine Run.region hL hT [] (by cbv) ?_ ?_
  · exact hq0
  refine Run.seq ?_
  obtain ⟨r1, h_r1, h⟩ := bnd h
  refine Run.region hL hT [(1, .call [false, false] [.ag [.jk, .jk, .jk, .jk, .jk], .v (.jk)] [.v (.s (.int .i64 r1))])] (by cbv) ?_ ?_
  · exact (hq trivial (hq (hC (impl_sizeIn_ac h_r1)) (hq trivial hq0)))
  refine Run.ret ?_
  cases h
  refine ⟨_, _, by cbv, ?_, ?_⟩
  · exact LLe.r
  · exact (ALe.v LLe.r ALe.nil)

set_option maxRecDepth 8000 in
theorem impl_copyTexts_ac {a0 : List ByteArray} {r : (List ByteArray)} (h : impl_copyTexts.f a0 = some r) : AC Tryd.prog 65 [.v (.im false (rowsOf Str_c a0))] [.v (.jk)] [.v (.ow 9 (rowsOf Str_c r))] := by
  unfold impl_copyTexts.f at h
  let ar := Ls.ar; let cm := Ls.cm; let bo := Ls.bo; let sc := Ls.sc; let sa := Ls.sa; let sx := Ls.sx; let ss := Ls.ss; let sl := Ls.sl; let bs := Ls.bs; let sb := Ls.sb; let ln := Ls.ln; let sr := Ls.sr; let ap := Ls.ap; let up := Ls.up; let rp := Ls.rp; let fr := Ls.fr; let ge := Ls.ge; let le := Ls.le; let lt := Ls.lt; let nz := Ls.nz; let mm := Ls.mm; let ma := Ls.ma; let sm := Ls.sm; let fl := Ls.fl; let al := Ls.al; let ci := Ls.ci
  let eStr_c := rowsOf Str_c
  have hL : (⟨ar, cm, bo, sc, sa, sx, ss, sl, bs, sb, ln, sr, ap, up, rp, fr, ge, le, lt, nz, mm, ma, sm, fl, al, ci⟩ : Lf) = Ls := rfl
  show AC Tryd.prog 65 [.v (.im false (eStr_c a0))] _ _
  refine AC.of_run2 tab_ok Tryd.func65 (by rfl) (by rfl) (by cbv) ⟨by decide, rfl⟩ fun F hP hA => ?_
  have hT : TabOk F.P tab := hP ▸ tab_ok
  have hM : F.P.follows .mixedOrders = true := hP ▸ mixed
  have hC : ∀ {f a o r}, AC Tryd.prog f a o r → AC F.P f a o r := fun h => hP ▸ h
  refine Run.seq ?_
  refine Run.region hL hT [] (by cbv) ?_ ?_
  · exact hq0
  refine Run.seq ?_
  obtain ⟨l1, h_l1, h⟩ := bnd h
  refine Run.region hL hT [] (by cbv) ?_ ?_
  · exact (hq (fl_row Str_c_f _) (hq (app_mb (P := Tryd.prog) (f := Str_c) RLe.r RLe.r h_l1) hq0))
  refine Run.row (rows := (ap ([]) ((eStr_c a0)))) 4098 (eStr_c l1) (by cbv) (app_le (f := Str_c) RLe.r RLe.r h_l1) ?_
  refine Run.ret ?_
  cases h
  refine ⟨_, _, by cbv, ?_, ?_⟩
  · exact LLe.r
  · exact (ALe.v LLe.r ALe.nil)

set_option maxRecDepth 8000 in
theorem impl_copyJson_acs (self : Json → Option Json) (hself : ∀ {a0v_Kind : Int} {a0v_N : Int} {a0v_S : ByteArray} {a0v_List_ : List Json} {a0v_Names : List ByteArray} {r : Json} (h : self (Json.mk a0v_Kind a0v_N a0v_S a0v_List_ a0v_Names) = some r), AC Tryd.prog 39 [.ag [.s (.int .i64 a0v_Kind), .s (.int .i64 a0v_N), .s (.string a0v_S), .im false (rowsOf Json_i a0v_List_), .im false (rowsOf Str_c a0v_Names)]] [.ag [.jk, .jk, .jk, .jk, .jk]] [.ag [.s (.int .i64 r.Kind), .s (.int .i64 r.N), .s (.string r.S), .ow 34 (rowsOf Json_o r.List_), .ow 9 (rowsOf Str_c r.Names)]]) {a0v_Kind : Int} {a0v_N : Int} {a0v_S : ByteArray} {a0v_List_ : List Json} {a0v_Names : List ByteArray} {r : Json} (h : impl_copyJson.b self (Json.mk a0v_Kind a0v_N a0v_S a0v_List_ a0v_Names) = some r) : AC Tryd.prog 39 [.ag [.s (.int .i64 a0v_Kind), .s (.int .i64 a0v_N), .s (.string a0v_S), .im false (rowsOf Json_i a0v_List_), .im false (rowsOf Str_c a0v_Names)]] [.ag [.jk, .jk, .jk, .jk, .jk]] [.ag [.s (.int .i64 r.Kind), .s (.int .i64 r.N), .s (.string r.S), .ow 34 (rowsOf Json_o r.List_), .ow 9 (rowsOf Str_c r.Names)]] := by
  unfold impl_copyJson.b at h
  let ar := Ls.ar; let cm := Ls.cm; let bo := Ls.bo; let sc := Ls.sc; let sa := Ls.sa; let sx := Ls.sx; let ss := Ls.ss; let sl := Ls.sl; let bs := Ls.bs; let sb := Ls.sb; let ln := Ls.ln; let sr := Ls.sr; let ap := Ls.ap; let up := Ls.up; let rp := Ls.rp; let fr := Ls.fr; let ge := Ls.ge; let le := Ls.le; let lt := Ls.lt; let nz := Ls.nz; let mm := Ls.mm; let ma := Ls.ma; let sm := Ls.sm; let fl := Ls.fl; let al := Ls.al; let ci := Ls.ci
  let eJson_i := rowsOf Json_i
  let eJson_o := rowsOf Json_o
  let eStr_c := rowsOf Str_c
  let lenI_Json := @lenI Json
  have hL : (⟨ar, cm, bo, sc, sa, sx, ss, sl, bs, sb, ln, sr, ap, up, rp, fr, ge, le, lt, nz, mm, ma, sm, fl, al, ci⟩ : Lf) = Ls := rfl
  show AC Tryd.prog 39 [.ag [.s (.int .i64 a0v_Kind), .s (.int .i64 a0v_N), .s (.string a0v_S), .im false (eJson_i a0v_List_), .im false (eStr_c a0v_Names)]] _ _
  refine AC.of_run2 tab_ok Tryd.func39 (by rfl) (by rfl) (by cbv) ⟨by decide, rfl⟩ fun F hP hA => ?_
  have hT : TabOk F.P tab := hP ▸ tab_ok
  have hM : F.P.follows .mixedOrders = true := hP ▸ mixed
  have hC : ∀ {f a o r}, AC Tryd.prog f a o r → AC F.P f a o r := fun h => hP ▸ h
  refine Run.seq ?_
  refine Run.region hL hT [] (by cbv) ?_ ?_
  · exact hq0
  refine Run.seq ?_
  obtain ⟨r1, h_r1, h⟩ := bnd h
  refine Run.draw hL hT hM [(8, .call [false] [.v (.jk)] [.v (.ow 9 (eStr_c r1))])] (by cbv) (by cbv) (by cbv) (by cbv) (by cbv) ?_ ?_
  · exact (hq trivial (hq trivial (hq trivial (hq trivial (hq (hC (impl_copyTexts_ac h_r1)) (hq trivial hq0))))))
  refine Run.seq ?_
  refine Run.seq ?_
  refine Run.region hL hT [] (by cbv) ?_ ?_
  · exact (hq trivial hq0)
  rw [show ln (eJson_i a0v_List_) = lenI_Json a0v_List_ from ln_eq Json_i _]
  refine Run.block ?_
  refine Run.loop2 (fun (z23 : List Json) (z24 : Int) => ⟨32, 100000, [(2, .pt 1 0 0), (3, .pt 2 0 0), (17, .t (.im false (eJson_i a0v_List_))), (18, .t (.s (.int .i64 (lenI_Json a0v_List_)))), (19, .t (.s (.int .i64 z24)))], [(1, .box 34 [.t (.s (.int .i64 0)), .t (.s (.int .i64 0)), .t (.s (.string ByteArray.empty)), .t (.s (.slice none 0 0)), .t (.s (.slice none 0 0))]), (2, .box 34 [.t (.s (.int .i64 a0v_Kind)), .t (.s (.int .i64 a0v_N)), .t (.s (.string a0v_S)), .rf 3, .rf 4]), (3, .row 0 34 5 (eJson_o z23)), (4, .row 0 9 1 (eStr_c r1))]⟩) (x0 := []) (x1 := 0) h ((Weak.nilB (l := [.t (.s (.int .i64 a0v_Kind)), .t (.s (.int .i64 a0v_N)), .t (.s (.string a0v_S))]) hT 4106 3 13288 34 rfl (by cbv) (by cbv) (by cbv)).trans (Weak.of _ [(1, 1), (2, 4106), (3, 13288), (4, 4104)] hA (by cbv) ?_)) (fun _ _ => rfl) ?_
  · repeat (first | exact hq0 | refine hq (by first | exact True.intro | rfl) ?_)
  · intro k z23 z24 h
    rw [impl_copyJson.l0] at h
    refine Run.seq ?_
    refine Run.region hL hT [] (by cbv) ?_ ?_
    · exact (hq trivial hq0)
    refine Run.seq ?_
    refine Run.cond (by cbv) (hq0) (fun c25 => ?_) (fun c25 => ?_)
    · have h := if_t c25 h
      refine Run.skip ?_
      refine Run.seq ?_
      refine Run.block ?_
      refine Run.seq ?_
      obtain ⟨⟨x26v_Kind, x26v_N, x26v_S, x26v_List_, x26v_Names⟩, h_x26, h⟩ := bnd h
      refine Run.region hL hT [(0, .el [.s (.int .i64 x26v_Kind), .s (.int .i64 x26v_N), .s (.string x26v_S), .im false (eJson_i x26v_List_), .im false (eStr_c x26v_Names)])] (by cbv) ?_ ?_
      · exact (hq (get_le h_x26) (hq (get_lt (f := Json_i) h_x26) (hq (get_geU Json_i_u h_x26) (hq trivial hq0))))
      obtain ⟨⟨r27v_Kind, r27v_N, r27v_S, r27v_List_, r27v_Names⟩, h_r27, h⟩ := bnd h
      obtain ⟨l28, h_l28, h⟩ := bnd h
      obtain ⟨l29, h_l29, h⟩ := bnd h
      refine Run.draw hL hT hM [(3, .call [false] [.ag [.jk, .jk, .jk, .jk, .jk]] [.ag [.s (.int .i64 r27v_Kind), .s (.int .i64 r27v_N), .s (.string r27v_S), .ow 34 (eJson_o r27v_List_), .ow 9 (eStr_c r27v_Names)]])] (by cbv) (by cbv) (by cbv) (by cbv) (by cbv) ?_ ?_
      · exact (hq trivial (hq trivial (hq (hC (hself h_r27)) (hq (app_mb (P := Tryd.prog) (f := Json_o) RLe.r (some_leU Json_o_u h_l28 (RLe.cons rfl LLe.r RLe.nil)) h_l29) (hq trivial hq0)))))
      refine Run.row (rows := (ap (eJson_o z23) ([[.s (.int .i64 r27v_Kind), .s (.int .i64 r27v_N), .s (.string r27v_S), .ow 34 (eJson_o r27v_List_), .ow 9 (eStr_c r27v_Names)]]))) 108197 (eJson_o l29) (by cbv) (app_le (f := Json_o) RLe.r (some_leU Json_o_u h_l28 (RLe.cons rfl LLe.r RLe.nil)) h_l29) ?_
      refine Run.region hL hT [] (by cbv) ?_ ?_
      · exact (hq trivial hq0)
      refine ⟨l29, (ar .add .i64 z24 1), h, Weak.of _ [(1, 1), (2, 2), (3, 108197), (4, 4)] hA (by cbv) ?_⟩
      repeat (first | exact hq0 | refine hq (by first | exact True.intro | rfl) ?_)
    · have h := if_f c25 h
      refine Run.exit ?_
      refine Run.seq ?_
      refine Run.region hL hT [] (by cbv) ?_ ?_
      · exact (hq trivial (hq trivial hq0))
      refine Run.ret ?_
      cases h
      refine ⟨_, _, by cbv, ?_, ?_⟩
      · exact LLe.r
      · exact (ALe.ag rfl LLe.r ALe.nil)
theorem impl_copyJson_acg : ∀ (k : Nat) {a0v_Kind : Int} {a0v_N : Int} {a0v_S : ByteArray} {a0v_List_ : List Json} {a0v_Names : List ByteArray} {r : Json} (h : impl_copyJson.g k (Json.mk a0v_Kind a0v_N a0v_S a0v_List_ a0v_Names) = some r), AC Tryd.prog 39 [.ag [.s (.int .i64 a0v_Kind), .s (.int .i64 a0v_N), .s (.string a0v_S), .im false (rowsOf Json_i a0v_List_), .im false (rowsOf Str_c a0v_Names)]] [.ag [.jk, .jk, .jk, .jk, .jk]] [.ag [.s (.int .i64 r.Kind), .s (.int .i64 r.N), .s (.string r.S), .ow 34 (rowsOf Json_o r.List_), .ow 9 (rowsOf Str_c r.Names)]]
  | 0 => fun h => by cases h
  | k + 1 => fun h => impl_copyJson_acs (impl_copyJson.g k) (impl_copyJson_acg k) h
theorem impl_copyJson_ac {a0v_Kind : Int} {a0v_N : Int} {a0v_S : ByteArray} {a0v_List_ : List Json} {a0v_Names : List ByteArray} {r : Json} (h : impl_copyJson.f (Json.mk a0v_Kind a0v_N a0v_S a0v_List_ a0v_Names) = some r) : AC Tryd.prog 39 [.ag [.s (.int .i64 a0v_Kind), .s (.int .i64 a0v_N), .s (.string a0v_S), .im false (rowsOf Json_i a0v_List_), .im false (rowsOf Str_c a0v_Names)]] [.ag [.jk, .jk, .jk, .jk, .jk]] [.ag [.s (.int .i64 r.Kind), .s (.int .i64 r.N), .s (.string r.S), .ow 34 (rowsOf Json_o r.List_), .ow 9 (rowsOf Str_c r.Names)]] := impl_copyJson_acg 20 h

set_option maxRecDepth 8000 in
theorem impl_Field_ac {a0v_Kind : Int} {a0v_N : Int} {a0v_S : ByteArray} {a0v_List_ : List Json} {a0v_Names : List ByteArray} {a1 : ByteArray} {r : Json × Bool} (h : impl_Field.f (Json.mk a0v_Kind a0v_N a0v_S a0v_List_ a0v_Names) a1 = some r) : AC Tryd.prog 10 [.ag [.s (.int .i64 a0v_Kind), .s (.int .i64 a0v_N), .s (.string a0v_S), .im false (rowsOf Json_i a0v_List_), .im false (rowsOf Str_c a0v_Names)], .v (.s (.string a1))] [.ag [.jk, .jk, .jk, .jk, .jk], .v (.jk)] [.ag [.s (.int .i64 r.1.Kind), .s (.int .i64 r.1.N), .s (.string r.1.S), .ow 34 (rowsOf Json_o r.1.List_), .ow 9 (rowsOf Str_c r.1.Names)], .v (.s (.bool r.2))] := by
  unfold impl_Field.f at h
  let ar := Ls.ar; let cm := Ls.cm; let bo := Ls.bo; let sc := Ls.sc; let sa := Ls.sa; let sx := Ls.sx; let ss := Ls.ss; let sl := Ls.sl; let bs := Ls.bs; let sb := Ls.sb; let ln := Ls.ln; let sr := Ls.sr; let ap := Ls.ap; let up := Ls.up; let rp := Ls.rp; let fr := Ls.fr; let ge := Ls.ge; let le := Ls.le; let lt := Ls.lt; let nz := Ls.nz; let mm := Ls.mm; let ma := Ls.ma; let sm := Ls.sm; let fl := Ls.fl; let al := Ls.al; let ci := Ls.ci
  let eJson_i := rowsOf Json_i
  let eJson_o := rowsOf Json_o
  let eStr_c := rowsOf Str_c
  have hL : (⟨ar, cm, bo, sc, sa, sx, ss, sl, bs, sb, ln, sr, ap, up, rp, fr, ge, le, lt, nz, mm, ma, sm, fl, al, ci⟩ : Lf) = Ls := rfl
  show AC Tryd.prog 10 [.ag [.s (.int .i64 a0v_Kind), .s (.int .i64 a0v_N), .s (.string a0v_S), .im false (eJson_i a0v_List_), .im false (eStr_c a0v_Names)], .v (.s (.string a1))] _ _
  refine AC.of_run2 tab_ok Tryd.func10 (by rfl) (by rfl) (by cbv) ⟨by decide, rfl⟩ fun F hP hA => ?_
  have hT : TabOk F.P tab := hP ▸ tab_ok
  have hM : F.P.follows .mixedOrders = true := hP ▸ mixed
  have hC : ∀ {f a o r}, AC Tryd.prog f a o r → AC F.P f a o r := fun h => hP ▸ h
  refine Run.seq ?_
  refine Run.region hL hT [] (by cbv) ?_ ?_
  · exact hq0
  refine Run.seq ?_
  obtain ⟨r1, h_r1, h⟩ := bnd h
  refine Run.region hL hT [(3, .call [false, false] [.v (.jk), .v (.jk)] [.v (.s (.int .i64 r1))])] (by cbv) ?_ ?_
  · exact (hq trivial (hq (hC (slices_Index_string_ac h_r1)) hq0))
  refine Run.seq ?_
  refine Run.seq ?_
  obtain ⟨r2, h_r2, h⟩ := bnd h
  refine Run.region hL hT [(1, .call [false] [.ag [.jk, .jk, .jk, .jk, .jk]] [.v (.s (.bool r2))])] (by cbv) ?_ ?_
  · exact (hq trivial (hq (hC (impl_JsonOk_ac h_r2)) (hq (fun _ => hq0) (hq (fun g4 => (hq g4 (hq trivial hq0))) (hq (fun _ => hq0) (hq (fun q6 => (hq (bo_m q6) hq0)) hq0))))))
  refine Run.cond (by cbv) (hq0) (fun c7 => ?_) (fun c7 => ?_)
  · have h := if_t c7 h
    refine Run.seq ?_
    refine Run.region hL hT [] (by cbv) ?_ ?_
    · exact (hq trivial hq0)
    refine Run.ret ?_
    cases h
    refine ⟨_, _, by cbv, ?_, ?_⟩
    · exact LLe.r
    · exact (ALe.ag rfl (LLe.c (LLe.c (LLe.c (LLe.cons LLe.nilO (LLe.cons LLe.nilO LLe.nil))))) (ALe.v LLe.r ALe.nil))
  · have h := if_f c7 h
    refine Run.skip ?_
    refine Run.seq ?_
    obtain ⟨⟨x8v_Kind, x8v_N, x8v_S, x8v_List_, x8v_Names⟩, h_x8, h⟩ := bnd h
    obtain ⟨⟨r9v_Kind, r9v_N, r9v_S, r9v_List_, r9v_Names⟩, h_r9, h⟩ := bnd h
    refine Run.region hL hT [(3, .el [.s (.int .i64 x8v_Kind), .s (.int .i64 x8v_N), .s (.string x8v_S), .im false (eJson_i x8v_List_), .im false (eStr_c x8v_Names)]), (5, .call [false] [.ag [.jk, .jk, .jk, .jk, .jk]] [.ag [.s (.int .i64 r9v_Kind), .s (.int .i64 r9v_N), .s (.string r9v_S), .ow 34 (eJson_o r9v_List_), .ow 9 (eStr_c r9v_Names)]])] (by cbv) ?_ ?_
    · exact (hq trivial (hq (get_le h_x8) (hq (get_lt (f := Json_i) h_x8) (hq (get_geU Json_i_u h_x8) (hq (hC (impl_copyJson_ac h_r9)) (hq trivial hq0))))))
    refine Run.ret ?_
    cases h
    refine ⟨_, _, by cbv, ?_, ?_⟩
    · exact LLe.r
    · exact (ALe.ag rfl LLe.r (ALe.v LLe.r ALe.nil))

set_option maxRecDepth 8000 in
theorem slices_Equal_string_ac {a0 : List ByteArray} {a1 : List ByteArray} {r : Bool} (h : slices_Equal_string.f a0 a1 = some r) : AC Tryd.prog 66 [.v (.im false (rowsOf Str_c a0)), .v (.im false (rowsOf Str_c a1))] [.v (.jk), .v (.jk)] [.v (.s (.bool r))] := by
  unfold slices_Equal_string.f at h
  let ar := Ls.ar; let cm := Ls.cm; let bo := Ls.bo; let sc := Ls.sc; let sa := Ls.sa; let sx := Ls.sx; let ss := Ls.ss; let sl := Ls.sl; let bs := Ls.bs; let sb := Ls.sb; let ln := Ls.ln; let sr := Ls.sr; let ap := Ls.ap; let up := Ls.up; let rp := Ls.rp; let fr := Ls.fr; let ge := Ls.ge; let le := Ls.le; let lt := Ls.lt; let nz := Ls.nz; let mm := Ls.mm; let ma := Ls.ma; let sm := Ls.sm; let fl := Ls.fl; let al := Ls.al; let ci := Ls.ci
  let eStr_c := rowsOf Str_c
  let lenI_Str := @lenI ByteArray
  have hL : (⟨ar, cm, bo, sc, sa, sx, ss, sl, bs, sb, ln, sr, ap, up, rp, fr, ge, le, lt, nz, mm, ma, sm, fl, al, ci⟩ : Lf) = Ls := rfl
  show AC Tryd.prog 66 [.v (.im false (eStr_c a0)), .v (.im false (eStr_c a1))] _ _
  refine AC.of_run2 tab_ok Tryd.func66 (by rfl) (by rfl) (by cbv) ⟨by decide, rfl⟩ fun F hP hA => ?_
  have hT : TabOk F.P tab := hP ▸ tab_ok
  have hM : F.P.follows .mixedOrders = true := hP ▸ mixed
  have hC : ∀ {f a o r}, AC Tryd.prog f a o r → AC F.P f a o r := fun h => hP ▸ h
  refine Run.seq ?_
  refine Run.region hL hT [] (by cbv) ?_ ?_
  · exact hq0
  refine Run.seq ?_
  refine Run.seq ?_
  refine Run.region hL hT [] (by cbv) ?_ ?_
  · exact (hq trivial hq0)
  rw [show ln (eStr_c a0) = lenI_Str a0 from ln_eq Str_c _]
  rw [show ln (eStr_c a1) = lenI_Str a1 from ln_eq Str_c _]
  refine Run.cond (by cbv) (hq0) (fun c1 => ?_) (fun c1 => ?_)
  · have h := if_t c1 h
    refine Run.seq ?_
    refine Run.region hL hT [] (by cbv) ?_ ?_
    · exact hq0
    refine Run.ret ?_
    cases h
    refine ⟨_, _, by cbv, ?_, ?_⟩
    · exact LLe.r
    · exact (ALe.v LLe.r ALe.nil)
  · have h := if_f c1 h
    refine Run.skip ?_
    refine Run.seq ?_
    refine Run.seq ?_
    refine Run.region hL hT [] (by cbv) ?_ ?_
    · exact hq0
    rw [show ln (eStr_c a0) = lenI_Str a0 from ln_eq Str_c _]
    refine Run.block ?_
    refine Run.loop1 (fun (z6 : Int) => ⟨26, 100000, [(0, .t (.im false (eStr_c a0))), (1, .t (.im false (eStr_c a1))), (12, .t (.s (.int .i64 (lenI_Str a0)))), (13, .t (.s (.int .i64 z6)))], []⟩) (x0 := 0) h (Weak.of _ [] hA (by cbv) ?_) (fun _ => rfl) ?_
    · repeat (first | exact hq0 | refine hq (by first | exact True.intro | rfl) ?_)
    · intro k z6 h
      rw [slices_Equal_string.l0] at h
      refine Run.seq ?_
      refine Run.region hL hT [] (by cbv) ?_ ?_
      · exact (hq trivial hq0)
      refine Run.seq ?_
      refine Run.cond (by cbv) (hq0) (fun c7 => ?_) (fun c7 => ?_)
      · have h := if_t c7 h
        refine Run.skip ?_
        refine Run.seq ?_
        refine Run.block ?_
        refine Run.seq ?_
        refine Run.region hL hT [] (by cbv) ?_ ?_
        · exact hq0
        refine Run.seq ?_
        obtain ⟨x8, h_x8, h⟩ := bnd h
        obtain ⟨x9, h_x9, h⟩ := bnd h
        refine Run.draw hL hT hM [(2, .el [.s (.string x8)]), (6, .el [.s (.string x9)])] (by cbv) (by cbv) (by cbv) (by cbv) (by cbv) ?_ ?_
        · exact (hq (get_le h_x8) (hq (get_lt (f := Str_c) h_x8) (hq (get_ge (f := Str_c) h_x8) (hq (get_le h_x9) (hq (get_lt (f := Str_c) h_x9) (hq (get_ge (f := Str_c) h_x9) hq0))))))
        refine Run.cond (by cbv) (hq0) (fun c10 => ?_) (fun c10 => ?_)
        · have h := if_t c10 h
          refine Run.seq ?_
          refine Run.region hL hT [] (by cbv) ?_ ?_
          · exact hq0
          refine Run.ret ?_
          cases h
          refine ⟨_, _, by cbv, ?_, ?_⟩
          · exact LLe.r
          · exact (ALe.v LLe.r ALe.nil)
        · have h := if_f c10 h
          refine Run.skip ?_
          refine Run.region hL hT [] (by cbv) ?_ ?_
          · exact (hq trivial hq0)
          refine ⟨(ar .add .i64 z6 1), h, Weak.of _ [] hA (by cbv) ?_⟩
          repeat (first | exact hq0 | refine hq (by first | exact True.intro | rfl) ?_)
      · have h := if_f c7 h
        refine Run.exit ?_
        refine Run.seq ?_
        refine Run.region hL hT [] (by cbv) ?_ ?_
        · exact hq0
        refine Run.ret ?_
        cases h
        refine ⟨_, _, by cbv, ?_, ?_⟩
        · exact LLe.r
        · exact (ALe.v LLe.r ALe.nil)

set_option maxRecDepth 8000 in
theorem slices_EqualFunc_impl_Json__impl_alike_ac (self : Json → Json → Option Bool) (hself : ∀ {a0v_Kind : Int} {a0v_N : Int} {a0v_S : ByteArray} {a0v_List_ : List Json} {a0v_Names : List ByteArray} {a1v_Kind : Int} {a1v_N : Int} {a1v_S : ByteArray} {a1v_List_ : List Json} {a1v_Names : List ByteArray} {r : Bool} (h : self (Json.mk a0v_Kind a0v_N a0v_S a0v_List_ a0v_Names) (Json.mk a1v_Kind a1v_N a1v_S a1v_List_ a1v_Names) = some r), AC Tryd.prog 40 [.ag [.s (.int .i64 a0v_Kind), .s (.int .i64 a0v_N), .s (.string a0v_S), .im false (rowsOf Json_i a0v_List_), .im false (rowsOf Str_c a0v_Names)], .ag [.s (.int .i64 a1v_Kind), .s (.int .i64 a1v_N), .s (.string a1v_S), .im false (rowsOf Json_i a1v_List_), .im false (rowsOf Str_c a1v_Names)]] [.ag [.jk, .jk, .jk, .jk, .jk], .ag [.jk, .jk, .jk, .jk, .jk]] [.v (.s (.bool r))]) {a0 : List Json} {a1 : List Json} {r : Bool} (h : slices_EqualFunc_impl_Json__impl_alike.f self a0 a1 = some r) : AC Tryd.prog 67 [.v (.im false (rowsOf Json_i a0)), .v (.im false (rowsOf Json_i a1)), .v (.fn 40 [])] [.v (.jk), .v (.jk), .v (.jk)] [.v (.s (.bool r))] := by
  unfold slices_EqualFunc_impl_Json__impl_alike.f at h
  let ar := Ls.ar; let cm := Ls.cm; let bo := Ls.bo; let sc := Ls.sc; let sa := Ls.sa; let sx := Ls.sx; let ss := Ls.ss; let sl := Ls.sl; let bs := Ls.bs; let sb := Ls.sb; let ln := Ls.ln; let sr := Ls.sr; let ap := Ls.ap; let up := Ls.up; let rp := Ls.rp; let fr := Ls.fr; let ge := Ls.ge; let le := Ls.le; let lt := Ls.lt; let nz := Ls.nz; let mm := Ls.mm; let ma := Ls.ma; let sm := Ls.sm; let fl := Ls.fl; let al := Ls.al; let ci := Ls.ci
  let eJson_i := rowsOf Json_i
  let eStr_c := rowsOf Str_c
  let lenI_Json := @lenI Json
  have hL : (⟨ar, cm, bo, sc, sa, sx, ss, sl, bs, sb, ln, sr, ap, up, rp, fr, ge, le, lt, nz, mm, ma, sm, fl, al, ci⟩ : Lf) = Ls := rfl
  show AC Tryd.prog 67 [.v (.im false (eJson_i a0)), .v (.im false (eJson_i a1)), .v (.fn 40 [])] _ _
  refine AC.of_run2 tab_ok Tryd.func67 (by rfl) (by rfl) (by cbv) ⟨by decide, rfl⟩ fun F hP hA => ?_
  have hT : TabOk F.P tab := hP ▸ tab_ok
  have hM : F.P.follows .mixedOrders = true := hP ▸ mixed
  have hC : ∀ {f a o r}, AC Tryd.prog f a o r → AC F.P f a o r := fun h => hP ▸ h
  refine Run.weak ?_ (Weak.fnT 2 (by cbv))
  refine Run.seq ?_
  refine Run.region hL hT [] (by cbv) ?_ ?_
  · exact hq0
  refine Run.seq ?_
  refine Run.seq ?_
  refine Run.region hL hT [] (by cbv) ?_ ?_
  · exact (hq trivial hq0)
  rw [show ln (eJson_i a0) = lenI_Json a0 from ln_eq Json_i _]
  rw [show ln (eJson_i a1) = lenI_Json a1 from ln_eq Json_i _]
  refine Run.cond (by cbv) (hq0) (fun c1 => ?_) (fun c1 => ?_)
  · have h := if_t c1 h
    refine Run.seq ?_
    refine Run.region hL hT [] (by cbv) ?_ ?_
    · exact hq0
    refine Run.ret ?_
    cases h
    refine ⟨_, _, by cbv, ?_, ?_⟩
    · exact LLe.r
    · exact (ALe.v LLe.r ALe.nil)
  · have h := if_f c1 h
    refine Run.skip ?_
    refine Run.seq ?_
    refine Run.seq ?_
    refine Run.region hL hT [] (by cbv) ?_ ?_
    · exact hq0
    rw [show ln (eJson_i a0) = lenI_Json a0 from ln_eq Json_i _]
    refine Run.block ?_
    refine Run.loop1 (fun (z6 : Int) => ⟨32, 100000, [(1, .t (.im false (eJson_i a1))), (2, .fn 40 []), (15, .t (.im false (eJson_i a0))), (16, .t (.s (.int .i64 (lenI_Json a0)))), (17, .t (.s (.int .i64 z6)))], []⟩) (x0 := 0) h (Weak.of _ [] hA (by cbv) ?_) (fun _ => rfl) ?_
    · repeat (first | exact hq0 | refine hq (by first | exact True.intro | rfl) ?_)
    · intro k z6 h
      rw [slices_EqualFunc_impl_Json__impl_alike.l0] at h
      refine Run.seq ?_
      refine Run.region hL hT [] (by cbv) ?_ ?_
      · exact (hq trivial hq0)
      refine Run.seq ?_
      refine Run.cond (by cbv) (hq0) (fun c7 => ?_) (fun c7 => ?_)
      · have h := if_t c7 h
        refine Run.skip ?_
        refine Run.seq ?_
        refine Run.block ?_
        refine Run.seq ?_
        obtain ⟨⟨x8v_Kind, x8v_N, x8v_S, x8v_List_, x8v_Names⟩, h_x8, h⟩ := bnd h
        refine Run.region hL hT [(1, .el [.s (.int .i64 x8v_Kind), .s (.int .i64 x8v_N), .s (.string x8v_S), .im false (eJson_i x8v_List_), .im false (eStr_c x8v_Names)])] (by cbv) ?_ ?_
        · exact (hq (get_le h_x8) (hq (get_lt (f := Json_i) h_x8) (hq (get_geU Json_i_u h_x8) (hq trivial hq0))))
        refine Run.seq ?_
        obtain ⟨⟨x9v_Kind, x9v_N, x9v_S, x9v_List_, x9v_Names⟩, h_x9, h⟩ := bnd h
        refine Run.region hL hT [(2, .el [.s (.int .i64 x9v_Kind), .s (.int .i64 x9v_N), .s (.string x9v_S), .im false (eJson_i x9v_List_), .im false (eStr_c x9v_Names)])] (by cbv) ?_ ?_
        · exact (hq (get_le h_x9) (hq (get_lt (f := Json_i) h_x9) (hq (get_geU Json_i_u h_x9) (hq trivial hq0))))
        refine Run.seq ?_
        obtain ⟨r10, h_r10, h⟩ := bnd h
        refine Run.region hL hT [(3, .call [false, false] [.ag [.jk, .jk, .jk, .jk, .jk], .ag [.jk, .jk, .jk, .jk, .jk]] [.v (.s (.bool r10))])] (by cbv) ?_ ?_
        · exact (hq trivial (hq trivial (hq (hC (hself h_r10)) hq0)))
        refine Run.cond (by cbv) (hq0) (fun c11 => ?_) (fun c11 => ?_)
        · have h := if_t c11 h
          refine Run.seq ?_
          refine Run.region hL hT [] (by cbv) ?_ ?_
          · exact hq0
          refine Run.ret ?_
          cases h
          refine ⟨_, _, by cbv, ?_, ?_⟩
          · exact LLe.r
          · exact (ALe.v LLe.r ALe.nil)
        · have h := if_f c11 h
          refine Run.skip ?_
          refine Run.region hL hT [] (by cbv) ?_ ?_
          · exact (hq trivial hq0)
          refine ⟨(ar .add .i64 z6 1), h, Weak.of _ [] hA (by cbv) ?_⟩
          repeat (first | exact hq0 | refine hq (by first | exact True.intro | rfl) ?_)
      · have h := if_f c7 h
        refine Run.exit ?_
        refine Run.seq ?_
        refine Run.region hL hT [] (by cbv) ?_ ?_
        · exact hq0
        refine Run.ret ?_
        cases h
        refine ⟨_, _, by cbv, ?_, ?_⟩
        · exact LLe.r
        · exact (ALe.v LLe.r ALe.nil)

set_option maxRecDepth 8000 in
theorem impl_alike_acs (self : Json → Json → Option Bool) (hself : ∀ {a0v_Kind : Int} {a0v_N : Int} {a0v_S : ByteArray} {a0v_List_ : List Json} {a0v_Names : List ByteArray} {a1v_Kind : Int} {a1v_N : Int} {a1v_S : ByteArray} {a1v_List_ : List Json} {a1v_Names : List ByteArray} {r : Bool} (h : self (Json.mk a0v_Kind a0v_N a0v_S a0v_List_ a0v_Names) (Json.mk a1v_Kind a1v_N a1v_S a1v_List_ a1v_Names) = some r), AC Tryd.prog 40 [.ag [.s (.int .i64 a0v_Kind), .s (.int .i64 a0v_N), .s (.string a0v_S), .im false (rowsOf Json_i a0v_List_), .im false (rowsOf Str_c a0v_Names)], .ag [.s (.int .i64 a1v_Kind), .s (.int .i64 a1v_N), .s (.string a1v_S), .im false (rowsOf Json_i a1v_List_), .im false (rowsOf Str_c a1v_Names)]] [.ag [.jk, .jk, .jk, .jk, .jk], .ag [.jk, .jk, .jk, .jk, .jk]] [.v (.s (.bool r))]) {a0v_Kind : Int} {a0v_N : Int} {a0v_S : ByteArray} {a0v_List_ : List Json} {a0v_Names : List ByteArray} {a1v_Kind : Int} {a1v_N : Int} {a1v_S : ByteArray} {a1v_List_ : List Json} {a1v_Names : List ByteArray} {r : Bool} (h : impl_alike.b self (Json.mk a0v_Kind a0v_N a0v_S a0v_List_ a0v_Names) (Json.mk a1v_Kind a1v_N a1v_S a1v_List_ a1v_Names) = some r) : AC Tryd.prog 40 [.ag [.s (.int .i64 a0v_Kind), .s (.int .i64 a0v_N), .s (.string a0v_S), .im false (rowsOf Json_i a0v_List_), .im false (rowsOf Str_c a0v_Names)], .ag [.s (.int .i64 a1v_Kind), .s (.int .i64 a1v_N), .s (.string a1v_S), .im false (rowsOf Json_i a1v_List_), .im false (rowsOf Str_c a1v_Names)]] [.ag [.jk, .jk, .jk, .jk, .jk], .ag [.jk, .jk, .jk, .jk, .jk]] [.v (.s (.bool r))] := by
  unfold impl_alike.b at h
  let ar := Ls.ar; let cm := Ls.cm; let bo := Ls.bo; let sc := Ls.sc; let sa := Ls.sa; let sx := Ls.sx; let ss := Ls.ss; let sl := Ls.sl; let bs := Ls.bs; let sb := Ls.sb; let ln := Ls.ln; let sr := Ls.sr; let ap := Ls.ap; let up := Ls.up; let rp := Ls.rp; let fr := Ls.fr; let ge := Ls.ge; let le := Ls.le; let lt := Ls.lt; let nz := Ls.nz; let mm := Ls.mm; let ma := Ls.ma; let sm := Ls.sm; let fl := Ls.fl; let al := Ls.al; let ci := Ls.ci
  let eJson_i := rowsOf Json_i
  let eStr_c := rowsOf Str_c
  have hL : (⟨ar, cm, bo, sc, sa, sx, ss, sl, bs, sb, ln, sr, ap, up, rp, fr, ge, le, lt, nz, mm, ma, sm, fl, al, ci⟩ : Lf) = Ls := rfl
  show AC Tryd.prog 40 [.ag [.s (.int .i64 a0v_Kind), .s (.int .i64 a0v_N), .s (.string a0v_S), .im false (eJson_i a0v_List_), .im false (eStr_c a0v_Names)], .ag [.s (.int .i64 a1v_Kind), .s (.int .i64 a1v_N), .s (.string a1v_S), .im false (eJson_i a1v_List_), .im false (eStr_c a1v_Names)]] _ _
  refine AC.of_run2 tab_ok Tryd.func40 (by rfl) (by rfl) (by cbv) ⟨by decide, rfl⟩ fun F hP hA => ?_
  have hT : TabOk F.P tab := hP ▸ tab_ok
  have hM : F.P.follows .mixedOrders = true := hP ▸ mixed
  have hC : ∀ {f a o r}, AC Tryd.prog f a o r → AC F.P f a o r := fun h => hP ▸ h
  refine Run.seq ?_
  refine Run.region hL hT [] (by cbv) ?_ ?_
  · exact hq0
  refine Run.seq ?_
  obtain ⟨r1, h_r1, h⟩ := bnd h
  obtain ⟨r2, h_r2, h⟩ := bnd h
  refine Run.region hL hT [(24, .call [false, false] [.v (.jk), .v (.jk)] [.v (.s (.bool r1))]), (31, .call [false, false, false] [.v (.jk), .v (.jk), .v (.jk)] [.v (.s (.bool r2))])] (by cbv) ?_ ?_
  · exact (hq trivial (hq trivial (hq trivial (hq (fun _ => hq0) (hq (fun g4 => (hq g4 (hq trivial hq0))) (hq (fun _ => hq0) (hq (fun g6 => (hq g6 (hq trivial hq0))) (hq (fun g7 => (hq g7 (hq g7 (hq trivial hq0)))) (hq (fun q8 => (hq q8 hq0)) (hq (fun _ => hq0) (hq (fun _ => hq0) (hq (fun g11 => (hq g11 (hq trivial hq0))) (hq (fun _ => hq0) (hq (fun g13 => (hq g13 (hq trivial hq0))) (hq (fun g14 => (hq g14 (hq g14 hq0))) (hq (fun q15 => (hq q15 hq0)) (hq (fun _ => hq0) (hq (fun _ => hq0) (hq (fun g18 => (hq g18 (hq trivial hq0))) (hq (fun _ => hq0) (hq (fun g20 => (hq g20 (hq trivial hq0))) (hq (fun g21 => (hq g21 (hq g21 (hq (hC (slices_Equal_string_ac (gd_t h_r1 g21))) hq0)))) (hq (fun q22 => (hq q22 hq0)) (hq (fun _ => hq0) (hq (fun _ => hq0) (hq (fun g25 => (hq g25 (hq trivial hq0))) (hq (fun _ => hq0) (hq (fun g27 => (hq g27 (hq trivial hq0))) (hq (fun g28 => (hq g28 (hq g28 (hq (hC (slices_EqualFunc_impl_Json__impl_alike_ac self hself (gd_t h_r2 g28))) hq0)))) (hq (fun q29 => (hq q29 hq0)) (hq (fun _ => hq0) hq0)))))))))))))))))))))))))))))))
  refine Run.ret ?_
  cases h
  refine ⟨_, _, by cbv, ?_, ?_⟩
  · exact LLe.r
  · exact (ALe.v LLe.r ALe.nil)
theorem impl_alike_acg : ∀ (k : Nat) {a0v_Kind : Int} {a0v_N : Int} {a0v_S : ByteArray} {a0v_List_ : List Json} {a0v_Names : List ByteArray} {a1v_Kind : Int} {a1v_N : Int} {a1v_S : ByteArray} {a1v_List_ : List Json} {a1v_Names : List ByteArray} {r : Bool} (h : impl_alike.g k (Json.mk a0v_Kind a0v_N a0v_S a0v_List_ a0v_Names) (Json.mk a1v_Kind a1v_N a1v_S a1v_List_ a1v_Names) = some r), AC Tryd.prog 40 [.ag [.s (.int .i64 a0v_Kind), .s (.int .i64 a0v_N), .s (.string a0v_S), .im false (rowsOf Json_i a0v_List_), .im false (rowsOf Str_c a0v_Names)], .ag [.s (.int .i64 a1v_Kind), .s (.int .i64 a1v_N), .s (.string a1v_S), .im false (rowsOf Json_i a1v_List_), .im false (rowsOf Str_c a1v_Names)]] [.ag [.jk, .jk, .jk, .jk, .jk], .ag [.jk, .jk, .jk, .jk, .jk]] [.v (.s (.bool r))]
  | 0 => fun h => by cases h
  | k + 1 => fun h => impl_alike_acs (impl_alike.g k) (impl_alike_acg k) h
theorem impl_alike_ac {a0v_Kind : Int} {a0v_N : Int} {a0v_S : ByteArray} {a0v_List_ : List Json} {a0v_Names : List ByteArray} {a1v_Kind : Int} {a1v_N : Int} {a1v_S : ByteArray} {a1v_List_ : List Json} {a1v_Names : List ByteArray} {r : Bool} (h : impl_alike.f (Json.mk a0v_Kind a0v_N a0v_S a0v_List_ a0v_Names) (Json.mk a1v_Kind a1v_N a1v_S a1v_List_ a1v_Names) = some r) : AC Tryd.prog 40 [.ag [.s (.int .i64 a0v_Kind), .s (.int .i64 a0v_N), .s (.string a0v_S), .im false (rowsOf Json_i a0v_List_), .im false (rowsOf Str_c a0v_Names)], .ag [.s (.int .i64 a1v_Kind), .s (.int .i64 a1v_N), .s (.string a1v_S), .im false (rowsOf Json_i a1v_List_), .im false (rowsOf Str_c a1v_Names)]] [.ag [.jk, .jk, .jk, .jk, .jk], .ag [.jk, .jk, .jk, .jk, .jk]] [.v (.s (.bool r))] := impl_alike_acg 20 h

set_option maxRecDepth 8000 in
theorem impl_JsonSame_ac {a0v_Kind : Int} {a0v_N : Int} {a0v_S : ByteArray} {a0v_List_ : List Json} {a0v_Names : List ByteArray} {a1v_Kind : Int} {a1v_N : Int} {a1v_S : ByteArray} {a1v_List_ : List Json} {a1v_Names : List ByteArray} {r : Bool} (h : impl_JsonSame.f (Json.mk a0v_Kind a0v_N a0v_S a0v_List_ a0v_Names) (Json.mk a1v_Kind a1v_N a1v_S a1v_List_ a1v_Names) = some r) : AC Tryd.prog 11 [.ag [.s (.int .i64 a0v_Kind), .s (.int .i64 a0v_N), .s (.string a0v_S), .im false (rowsOf Json_i a0v_List_), .im false (rowsOf Str_c a0v_Names)], .ag [.s (.int .i64 a1v_Kind), .s (.int .i64 a1v_N), .s (.string a1v_S), .im false (rowsOf Json_i a1v_List_), .im false (rowsOf Str_c a1v_Names)]] [.ag [.jk, .jk, .jk, .jk, .jk], .ag [.jk, .jk, .jk, .jk, .jk]] [.v (.s (.bool r))] := by
  unfold impl_JsonSame.f at h
  let ar := Ls.ar; let cm := Ls.cm; let bo := Ls.bo; let sc := Ls.sc; let sa := Ls.sa; let sx := Ls.sx; let ss := Ls.ss; let sl := Ls.sl; let bs := Ls.bs; let sb := Ls.sb; let ln := Ls.ln; let sr := Ls.sr; let ap := Ls.ap; let up := Ls.up; let rp := Ls.rp; let fr := Ls.fr; let ge := Ls.ge; let le := Ls.le; let lt := Ls.lt; let nz := Ls.nz; let mm := Ls.mm; let ma := Ls.ma; let sm := Ls.sm; let fl := Ls.fl; let al := Ls.al; let ci := Ls.ci
  let eJson_i := rowsOf Json_i
  let eStr_c := rowsOf Str_c
  have hL : (⟨ar, cm, bo, sc, sa, sx, ss, sl, bs, sb, ln, sr, ap, up, rp, fr, ge, le, lt, nz, mm, ma, sm, fl, al, ci⟩ : Lf) = Ls := rfl
  show AC Tryd.prog 11 [.ag [.s (.int .i64 a0v_Kind), .s (.int .i64 a0v_N), .s (.string a0v_S), .im false (eJson_i a0v_List_), .im false (eStr_c a0v_Names)], .ag [.s (.int .i64 a1v_Kind), .s (.int .i64 a1v_N), .s (.string a1v_S), .im false (eJson_i a1v_List_), .im false (eStr_c a1v_Names)]] _ _
  refine AC.of_run2 tab_ok Tryd.func11 (by rfl) (by rfl) (by cbv) ⟨by decide, rfl⟩ fun F hP hA => ?_
  have hT : TabOk F.P tab := hP ▸ tab_ok
  have hM : F.P.follows .mixedOrders = true := hP ▸ mixed
  have hC : ∀ {f a o r}, AC Tryd.prog f a o r → AC F.P f a o r := fun h => hP ▸ h
  refine Run.seq ?_
  refine Run.region hL hT [] (by cbv) ?_ ?_
  · exact hq0
  refine Run.seq ?_
  obtain ⟨r1, h_r1, h⟩ := bnd h
  obtain ⟨r2, h_r2, h⟩ := bnd h
  obtain ⟨r3, h_r3, h⟩ := bnd h
  refine Run.region hL hT [(1, .call [false] [.ag [.jk, .jk, .jk, .jk, .jk]] [.v (.s (.bool r1))]), (4, .call [false] [.ag [.jk, .jk, .jk, .jk, .jk]] [.v (.s (.bool r2))]), (9, .call [false, false] [.ag [.jk, .jk, .jk, .jk, .jk], .ag [.jk, .jk, .jk, .jk, .jk]] [.v (.s (.bool r3))])] (by cbv) ?_ ?_
  · exact (hq trivial (hq (hC (impl_JsonOk_ac h_r1)) (hq (fun g4 => (hq trivial hq0)) (hq (fun g5 => (hq g5 (hq (hC (impl_JsonOk_ac (gd_t h_r2 g5))) hq0))) (hq (fun q6 => (hq q6 hq0)) (hq (fun _ => hq0) (hq (fun g8 => (hq trivial hq0)) (hq (fun g9 => (hq trivial hq0)) (hq (fun g10 => (hq g10 (hq g10 (hq (hC (impl_alike_ac (gd_t h_r3 g10))) hq0)))) (hq (fun q11 => (hq q11 hq0)) (hq (fun _ => hq0) hq0)))))))))))
  refine Run.ret ?_
  cases h
  refine ⟨_, _, by cbv, ?_, ?_⟩
  · exact LLe.r
  · exact (ALe.v LLe.r ALe.nil)

set_option maxRecDepth 8000 in
theorem impl_orNull_ac {a0v_Kind : Int} {a0v_N : Int} {a0v_S : ByteArray} {a0v_List_ : List Json} {a0v_Names : List ByteArray} {r : Json} (h : impl_orNull.f (Json.mk a0v_Kind a0v_N a0v_S a0v_List_ a0v_Names) = some r) : AC Tryd.prog 31 [.ag [.s (.int .i64 a0v_Kind), .s (.int .i64 a0v_N), .s (.string a0v_S), .ow 34 (rowsOf Json_o a0v_List_), .ow 9 (rowsOf Str_c a0v_Names)]] [.ag [.jk, .jk, .jk, .jk, .jk]] [.ag [.s (.int .i64 r.Kind), .s (.int .i64 r.N), .s (.string r.S), .ow 34 (rowsOf Json_o r.List_), .ow 9 (rowsOf Str_c r.Names)]] := by
  unfold impl_orNull.f at h
  let ar := Ls.ar; let cm := Ls.cm; let bo := Ls.bo; let sc := Ls.sc; let sa := Ls.sa; let sx := Ls.sx; let ss := Ls.ss; let sl := Ls.sl; let bs := Ls.bs; let sb := Ls.sb; let ln := Ls.ln; let sr := Ls.sr; let ap := Ls.ap; let up := Ls.up; let rp := Ls.rp; let fr := Ls.fr; let ge := Ls.ge; let le := Ls.le; let lt := Ls.lt; let nz := Ls.nz; let mm := Ls.mm; let ma := Ls.ma; let sm := Ls.sm; let fl := Ls.fl; let al := Ls.al; let ci := Ls.ci
  let eJson_o := rowsOf Json_o
  let eStr_c := rowsOf Str_c
  have hL : (⟨ar, cm, bo, sc, sa, sx, ss, sl, bs, sb, ln, sr, ap, up, rp, fr, ge, le, lt, nz, mm, ma, sm, fl, al, ci⟩ : Lf) = Ls := rfl
  show AC Tryd.prog 31 [.ag [.s (.int .i64 a0v_Kind), .s (.int .i64 a0v_N), .s (.string a0v_S), .ow 34 (eJson_o a0v_List_), .ow 9 (eStr_c a0v_Names)]] _ _
  refine AC.of_run2 tab_ok Tryd.func31 (by rfl) (by rfl) (by cbv) ⟨by decide, rfl⟩ fun F hP hA => ?_
  have hT : TabOk F.P tab := hP ▸ tab_ok
  have hM : F.P.follows .mixedOrders = true := hP ▸ mixed
  have hC : ∀ {f a o r}, AC Tryd.prog f a o r → AC F.P f a o r := fun h => hP ▸ h
  refine Run.seq ?_
  refine Run.region hL hT [] (by cbv) ?_ ?_
  · exact hq0
  refine Run.seq ?_
  refine Run.seq ?_
  obtain ⟨r1, h_r1, h⟩ := bnd h
  refine Run.region hL hT [(1, .call [false] [.ag [.jk, .jk, .jk, .jk, .jk]] [.v (.s (.bool r1))])] (by cbv) ?_ ?_
  · exact (hq trivial (hq (hC (AC.args (impl_JsonOk_ac h_r1) (ALe.ag rfl (LLe.c (LLe.c (LLe.c (LLe.cons (LLe.im (RLe.eq (fr_row Json_o_z _))) (LLe.cons (LLe.im (RLe.eq (fr_row Str_c_z _))) LLe.nil))))) ALe.nil))) hq0))
  refine Run.cond (by cbv) (hq0) (fun c2 => ?_) (fun c2 => ?_)
  · have h := if_t c2 h
    refine Run.seq ?_
    refine Run.region hL hT [] (by cbv) ?_ ?_
    · exact (hq trivial hq0)
    refine Run.ret ?_
    cases h
    refine ⟨_, _, by cbv, ?_, ?_⟩
    · exact (LLe.c (LLe.c (LLe.c (LLe.cons LLe.jk (LLe.cons LLe.jk LLe.nil)))))
    · exact (ALe.ag rfl (LLe.c (LLe.c (LLe.c (LLe.cons LLe.nilO (LLe.cons LLe.nilO LLe.nil))))) ALe.nil)
  · have h := if_f c2 h
    refine Run.skip ?_
    refine Run.seq ?_
    refine Run.region hL hT [] (by cbv) ?_ ?_
    · exact (hq trivial (hq trivial hq0))
    refine Run.weak ?_ (Weak.mvB 0 14290 3 (by cbv) (by cbv) (by cbv))
    refine Run.weak ?_ (Weak.mvB 1 14291 3 (by cbv) (by cbv) (by cbv))
    refine Run.ret ?_
    cases h
    refine ⟨_, _, by cbv, ?_, ?_⟩
    · exact LLe.r
    · exact (ALe.ag rfl LLe.r ALe.nil)

set_option maxRecDepth 8000 in
theorem slices_Index_int_ac {a0 : List Int} {a1 : Int} {r : Int} (h : slices_Index_int.f a0 a1 = some r) : AC Tryd.prog 68 [.v (.im false (rowsOf Int_c a0)), .v (.s (.int .i64 a1))] [.v (.jk), .v (.jk)] [.v (.s (.int .i64 r))] := by
  unfold slices_Index_int.f at h
  let ar := Ls.ar; let cm := Ls.cm; let bo := Ls.bo; let sc := Ls.sc; let sa := Ls.sa; let sx := Ls.sx; let ss := Ls.ss; let sl := Ls.sl; let bs := Ls.bs; let sb := Ls.sb; let ln := Ls.ln; let sr := Ls.sr; let ap := Ls.ap; let up := Ls.up; let rp := Ls.rp; let fr := Ls.fr; let ge := Ls.ge; let le := Ls.le; let lt := Ls.lt; let nz := Ls.nz; let mm := Ls.mm; let ma := Ls.ma; let sm := Ls.sm; let fl := Ls.fl; let al := Ls.al; let ci := Ls.ci
  let eInt_c := rowsOf Int_c
  let lenI_Int := @lenI Int
  have hL : (⟨ar, cm, bo, sc, sa, sx, ss, sl, bs, sb, ln, sr, ap, up, rp, fr, ge, le, lt, nz, mm, ma, sm, fl, al, ci⟩ : Lf) = Ls := rfl
  show AC Tryd.prog 68 [.v (.im false (eInt_c a0)), .v (.s (.int .i64 a1))] _ _
  refine AC.of_run2 tab_ok Tryd.func68 (by rfl) (by rfl) (by cbv) ⟨by decide, rfl⟩ fun F hP hA => ?_
  have hT : TabOk F.P tab := hP ▸ tab_ok
  have hM : F.P.follows .mixedOrders = true := hP ▸ mixed
  have hC : ∀ {f a o r}, AC Tryd.prog f a o r → AC F.P f a o r := fun h => hP ▸ h
  refine Run.seq ?_
  refine Run.region hL hT [] (by cbv) ?_ ?_
  · exact hq0
  refine Run.seq ?_
  refine Run.seq ?_
  refine Run.region hL hT [] (by cbv) ?_ ?_
  · exact hq0
  rw [show ln (eInt_c a0) = lenI_Int a0 from ln_eq Int_c _]
  refine Run.block ?_
  refine Run.loop1 (fun (z5 : Int) => ⟨19, 100000, [(0, .t (.im false (eInt_c a0))), (1, .t (.s (.int .i64 a1))), (7, .t (.s (.int .i64 (lenI_Int a0)))), (8, .t (.s (.int .i64 z5)))], []⟩) (x0 := 0) h (Weak.of _ [] hA (by cbv) ?_) (fun _ => rfl) ?_
  · repeat (first | exact hq0 | refine hq (by first | exact True.intro | rfl) ?_)
  · intro k z5 h
    rw [slices_Index_int.l0] at h
    refine Run.seq ?_
    refine Run.region hL hT [] (by cbv) ?_ ?_
    · exact (hq trivial hq0)
    refine Run.seq ?_
    refine Run.cond (by cbv) (hq0) (fun c6 => ?_) (fun c6 => ?_)
    · have h := if_t c6 h
      refine Run.skip ?_
      refine Run.seq ?_
      refine Run.block ?_
      refine Run.seq ?_
      refine Run.region hL hT [] (by cbv) ?_ ?_
      · exact hq0
      refine Run.seq ?_
      obtain ⟨x7, h_x7, h⟩ := bnd h
      refine Run.region hL hT [(3, .el [.s (.int .i64 x7)])] (by cbv) ?_ ?_
      · exact (hq (get_le h_x7) (hq (get_lt (f := Int_c) h_x7) (hq (get_ge (f := Int_c) h_x7) (hq trivial hq0))))
      refine Run.cond (by cbv) (hq0) (fun c8 => ?_) (fun c8 => ?_)
      · have h := if_t c8 h
        refine Run.seq ?_
        refine Run.region hL hT [] (by cbv) ?_ ?_
        · exact hq0
        refine Run.ret ?_
        cases h
        refine ⟨_, _, by cbv, ?_, ?_⟩
        · exact LLe.r
        · exact (ALe.v LLe.r ALe.nil)
      · have h := if_f c8 h
        refine Run.skip ?_
        refine Run.region hL hT [] (by cbv) ?_ ?_
        · exact (hq trivial hq0)
        refine ⟨(ar .add .i64 z5 1), h, Weak.of _ [] hA (by cbv) ?_⟩
        repeat (first | exact hq0 | refine hq (by first | exact True.intro | rfl) ?_)
    · have h := if_f c6 h
      refine Run.exit ?_
      refine Run.seq ?_
      refine Run.region hL hT [] (by cbv) ?_ ?_
      · exact hq0
      refine Run.ret ?_
      cases h
      refine ⟨_, _, by cbv, ?_, ?_⟩
      · exact LLe.r
      · exact (ALe.v LLe.r ALe.nil)

set_option maxRecDepth 8000 in
theorem slices_Contains_int_ac {a0 : List Int} {a1 : Int} {r : Bool} (h : slices_Contains_int.f a0 a1 = some r) : AC Tryd.prog 41 [.v (.im false (rowsOf Int_c a0)), .v (.s (.int .i64 a1))] [.v (.jk), .v (.jk)] [.v (.s (.bool r))] := by
  unfold slices_Contains_int.f at h
  let ar := Ls.ar; let cm := Ls.cm; let bo := Ls.bo; let sc := Ls.sc; let sa := Ls.sa; let sx := Ls.sx; let ss := Ls.ss; let sl := Ls.sl; let bs := Ls.bs; let sb := Ls.sb; let ln := Ls.ln; let sr := Ls.sr; let ap := Ls.ap; let up := Ls.up; let rp := Ls.rp; let fr := Ls.fr; let ge := Ls.ge; let le := Ls.le; let lt := Ls.lt; let nz := Ls.nz; let mm := Ls.mm; let ma := Ls.ma; let sm := Ls.sm; let fl := Ls.fl; let al := Ls.al; let ci := Ls.ci
  let eInt_c := rowsOf Int_c
  have hL : (⟨ar, cm, bo, sc, sa, sx, ss, sl, bs, sb, ln, sr, ap, up, rp, fr, ge, le, lt, nz, mm, ma, sm, fl, al, ci⟩ : Lf) = Ls := rfl
  show AC Tryd.prog 41 [.v (.im false (eInt_c a0)), .v (.s (.int .i64 a1))] _ _
  refine AC.of_run2 tab_ok Tryd.func41 (by rfl) (by rfl) (by cbv) ⟨by decide, rfl⟩ fun F hP hA => ?_
  have hT : TabOk F.P tab := hP ▸ tab_ok
  have hM : F.P.follows .mixedOrders = true := hP ▸ mixed
  have hC : ∀ {f a o r}, AC Tryd.prog f a o r → AC F.P f a o r := fun h => hP ▸ h
  refine Run.seq ?_
  refine Run.region hL hT [] (by cbv) ?_ ?_
  · exact hq0
  refine Run.seq ?_
  obtain ⟨r1, h_r1, h⟩ := bnd h
  refine Run.region hL hT [(2, .call [false, false] [.v (.jk), .v (.jk)] [.v (.s (.int .i64 r1))])] (by cbv) ?_ ?_
  · exact (hq (hC (slices_Index_int_ac h_r1)) (hq trivial hq0))
  refine Run.ret ?_
  cases h
  refine ⟨_, _, by cbv, ?_, ?_⟩
  · exact LLe.r
  · exact (ALe.v LLe.r ALe.nil)

def laysItoa_ren : Go.Shelf.Ren := ⟨fun | 171 => 69 | 243 => 87 | 246 => 101 | 283 => 106 | 284 => 107 | 285 => 108 | 286 => 109 | 129 => 114 | 317 => 113 | 318 => 115 | 319 => 116 | 320 => 117 | 337 => 118 | 338 => 119 | n => n, fun | 3 => 3 | 9 => 9 | 2 => 2 | 4 => 4 | 171 => 116 | 0 => 0 | 53 => 117 | 37 => 22 | 5 => 5 | 173 => 120 | 212 => 127 | 51 => 128 | 20 => 20 | 213 => 129 | 46 => 106 | 232 => 132 | 233 => 133 | n => n, fun | 17 => 0 | 18 => 1 | 19 => 2 | n => n⟩
theorem laysItoa : Go.Proofs.LaysM.n171 Tryd.prog laysItoa_ren := {
  mixed := by kernel_rfl
  f129 := Tryd.func114.trans (congrArg some (by kernel_rfl))
  f171 := Tryd.func69.trans (congrArg some (by kernel_rfl))
  f243 := Tryd.func87.trans (congrArg some (by kernel_rfl))
  f246 := Tryd.func101.trans (congrArg some (by kernel_rfl))
  f283 := Tryd.func106.trans (congrArg some (by kernel_rfl))
  f284 := Tryd.func107.trans (congrArg some (by kernel_rfl))
  f285 := Tryd.func108.trans (congrArg some (by kernel_rfl))
  f286 := Tryd.func109.trans (congrArg some (by kernel_rfl))
  f317 := Tryd.func113.trans (congrArg some (by kernel_rfl))
  f318 := Tryd.func115.trans (congrArg some (by kernel_rfl))
  f319 := Tryd.func116.trans (congrArg some (by kernel_rfl))
  f320 := Tryd.func117.trans (congrArg some (by kernel_rfl))
  f337 := Tryd.func118.trans (congrArg some (by kernel_rfl))
  f338 := Tryd.func119.trans (congrArg some (by kernel_rfl))
  t0 := Tryd.underlying0
  a0 := Tryd.isAgg0
  z0 := Tryd.sizeOf0
  v0 := Tryd.zeroValue0
  t2 := Tryd.underlying2
  a2 := Tryd.isAgg2
  z2 := Tryd.sizeOf2
  v2 := Tryd.zeroValue2
  t3 := Tryd.underlying3
  a3 := Tryd.isAgg3
  z3 := Tryd.sizeOf3
  v3 := Tryd.zeroValue3
  t4 := Tryd.underlying4
  a4 := Tryd.isAgg4
  z4 := Tryd.sizeOf4
  v4 := Tryd.zeroValue4
  t5 := Tryd.underlying5
  a5 := Tryd.isAgg5
  z5 := Tryd.sizeOf5
  v5 := Tryd.zeroValue5
  t9 := Tryd.underlying9
  a9 := Tryd.isAgg9
  z9 := Tryd.sizeOf9
  v9 := Tryd.zeroValue9
  t20 := Tryd.underlying20
  a20 := Tryd.isAgg20
  z20 := Tryd.sizeOf20
  v20 := Tryd.zeroValue20
  t37 := Tryd.underlying22
  a37 := Tryd.isAgg22
  z37 := Tryd.sizeOf22
  v37 := Tryd.zeroValue22
  t46 := Tryd.underlying106
  a46 := Tryd.isAgg106
  z46 := Tryd.sizeOf106
  v46 := Tryd.zeroValue106
  t51 := Tryd.underlying128
  a51 := Tryd.isAgg128
  z51 := Tryd.sizeOf128
  v51 := Tryd.zeroValue128
  t53 := Tryd.underlying117
  a53 := Tryd.isAgg117
  z53 := Tryd.sizeOf117
  v53 := Tryd.zeroValue117
  t171 := Tryd.underlying116
  a171 := Tryd.isAgg116
  z171 := Tryd.sizeOf116
  v171 := Tryd.zeroValue116
  t173 := Tryd.underlying120
  a173 := Tryd.isAgg120
  z173 := Tryd.sizeOf120
  v173 := Tryd.zeroValue120
  t212 := Tryd.underlying127
  a212 := Tryd.isAgg127
  z212 := Tryd.sizeOf127
  v212 := Tryd.zeroValue127
  t213 := Tryd.underlying129
  a213 := Tryd.isAgg129
  z213 := Tryd.sizeOf129
  t232 := Tryd.underlying132
  a232 := Tryd.isAgg132
  z232 := Tryd.sizeOf132
  v232 := Tryd.zeroValue132
  t233 := Tryd.underlying133
  a233 := Tryd.isAgg133
  z233 := Tryd.sizeOf133
  v233 := Tryd.zeroValue133
  g17 := by kernel_rfl
  g18 := by kernel_rfl
  g19 := by kernel_rfl
  i0 := by kernel_rfl
  i2 := by kernel_rfl
  i3 := by kernel_rfl
  i4 := by kernel_rfl
  i5 := by kernel_rfl
  i9 := by kernel_rfl
  i20 := by kernel_rfl
  i37 := by kernel_rfl
  i46 := by kernel_rfl
  i51 := by kernel_rfl
  i53 := by kernel_rfl
  i171 := by kernel_rfl
  i173 := by kernel_rfl
  i212 := by kernel_rfl
  i232 := by kernel_rfl
  i233 := by kernel_rfl
  m17 := by kernel_rfl
  m18 := by kernel_rfl
  m19 := by kernel_rfl }
theorem strconv_Itoa_ac {a0 : Int} {r : ByteArray} (h : strconv_Itoa.f a0 = some r) : AC Tryd.prog 69 [.v (.s (.int .i64 a0))] [.v .jk] [.v (.s (.string r))] := AC.of_itoa ⟨_, Tryd.func69, by rfl, by rfl⟩ (g := 0) (by kernel_rfl) (fun n h0 h1 w htab => Go.Proofs.Any.strconv_Itoa laysItoa n h0 h1 w htab) h

set_option maxRecDepth 8000 in
theorem impl_digits_ac {a0 : Int} {r : ByteArray} (h : impl_digits.f a0 = some r) : AC Tryd.prog 42 [.v (.s (.int .i64 a0))] [.v (.jk)] [.v (.s (.string r))] := by
  unfold impl_digits.f at h
  let ar := Ls.ar; let cm := Ls.cm; let bo := Ls.bo; let sc := Ls.sc; let sa := Ls.sa; let sx := Ls.sx; let ss := Ls.ss; let sl := Ls.sl; let bs := Ls.bs; let sb := Ls.sb; let ln := Ls.ln; let sr := Ls.sr; let ap := Ls.ap; let up := Ls.up; let rp := Ls.rp; let fr := Ls.fr; let ge := Ls.ge; let le := Ls.le; let lt := Ls.lt; let nz := Ls.nz; let mm := Ls.mm; let ma := Ls.ma; let sm := Ls.sm; let fl := Ls.fl; let al := Ls.al; let ci := Ls.ci
  have hL : (⟨ar, cm, bo, sc, sa, sx, ss, sl, bs, sb, ln, sr, ap, up, rp, fr, ge, le, lt, nz, mm, ma, sm, fl, al, ci⟩ : Lf) = Ls := rfl
  show AC Tryd.prog 42 [.v (.s (.int .i64 a0))] _ _
  refine AC.of_run2 tab_ok Tryd.func42 (by rfl) (by rfl) (by cbv) ⟨by decide, rfl⟩ fun F hP hA => ?_
  have hT : TabOk F.P tab := hP ▸ tab_ok
  have hM : F.P.follows .mixedOrders = true := hP ▸ mixed
  have hC : ∀ {f a o r}, AC Tryd.prog f a o r → AC F.P f a o r := fun h => hP ▸ h
  refine Run.seq ?_
  refine Run.region hL hT [] (by cbv) ?_ ?_
  · exact hq0
  refine Run.seq ?_
  obtain ⟨r1, h_r1, h⟩ := bnd h
  refine Run.region hL hT [(1, .call [false] [.v (.jk)] [.v (.s (.string r1))])] (by cbv) ?_ ?_
  · exact (hq (hC (strconv_Itoa_ac h_r1)) hq0)
  refine Run.ret ?_
  cases h
  refine ⟨_, _, by cbv, ?_, ?_⟩
  · exact LLe.r
  · exact (ALe.v LLe.r ALe.nil)

set_option maxRecDepth 8000 in
theorem impl_cellOf_ac {a0v_Id : Int} {a0v_Cells : List Int} {a1 : Int} {r : Int} (h : impl_cellOf.f (Row.mk a0v_Id a0v_Cells) a1 = some r) : AC Tryd.prog 43 [.ag [.s (.int .i64 a0v_Id), .im false (rowsOf Int_c a0v_Cells)], .v (.s (.int .i64 a1))] [.ag [.jk, .jk], .v (.jk)] [.v (.s (.int .i64 r))] := by
  unfold impl_cellOf.f at h
  let ar := Ls.ar; let cm := Ls.cm; let bo := Ls.bo; let sc := Ls.sc; let sa := Ls.sa; let sx := Ls.sx; let ss := Ls.ss; let sl := Ls.sl; let bs := Ls.bs; let sb := Ls.sb; let ln := Ls.ln; let sr := Ls.sr; let ap := Ls.ap; let up := Ls.up; let rp := Ls.rp; let fr := Ls.fr; let ge := Ls.ge; let le := Ls.le; let lt := Ls.lt; let nz := Ls.nz; let mm := Ls.mm; let ma := Ls.ma; let sm := Ls.sm; let fl := Ls.fl; let al := Ls.al; let ci := Ls.ci
  let eInt_c := rowsOf Int_c
  let lenI_Int := @lenI Int
  have hL : (⟨ar, cm, bo, sc, sa, sx, ss, sl, bs, sb, ln, sr, ap, up, rp, fr, ge, le, lt, nz, mm, ma, sm, fl, al, ci⟩ : Lf) = Ls := rfl
  show AC Tryd.prog 43 [.ag [.s (.int .i64 a0v_Id), .im false (eInt_c a0v_Cells)], .v (.s (.int .i64 a1))] _ _
  refine AC.of_run2 tab_ok Tryd.func43 (by rfl) (by rfl) (by cbv) ⟨by decide, rfl⟩ fun F hP hA => ?_
  have hT : TabOk F.P tab := hP ▸ tab_ok
  have hM : F.P.follows .mixedOrders = true := hP ▸ mixed
  have hC : ∀ {f a o r}, AC Tryd.prog f a o r → AC F.P f a o r := fun h => hP ▸ h
  refine Run.seq ?_
  refine Run.region hL hT [] (by cbv) ?_ ?_
  · exact hq0
  refine Run.seq ?_
  refine Run.seq ?_
  obtain ⟨r1, h_r1, h⟩ := bnd h
  refine Run.region hL hT [(5, .call [false, false, false] [.v (.jk), .v (.jk), .v (.jk)] [.v (.s (.bool r1))])] (by cbv) ?_ ?_
  · exact (hq trivial (hq trivial (hq (by rw [show ln (eInt_c a0v_Cells) = lenI_Int a0v_Cells from ln_eq Int_c _]; exact (hC (impl_within_ac h_r1))) hq0)))
  rw [show ln (eInt_c a0v_Cells) = lenI_Int a0v_Cells from ln_eq Int_c _]
  refine Run.cond (by cbv) (hq0) (fun c2 => ?_) (fun c2 => ?_)
  · have h := if_t c2 h
    refine Run.seq ?_
    refine Run.region hL hT [] (by cbv) ?_ ?_
    · exact hq0
    refine Run.ret ?_
    cases h
    refine ⟨_, _, by cbv, ?_, ?_⟩
    · exact LLe.r
    · exact (ALe.v LLe.r ALe.nil)
  · have h := if_f c2 h
    refine Run.skip ?_
    refine Run.seq ?_
    obtain ⟨x3, h_x3, h⟩ := bnd h
    refine Run.region hL hT [(3, .el [.s (.int .i64 x3)])] (by cbv) ?_ ?_
    · exact (hq trivial (hq (get_le h_x3) (hq (get_lt (f := Int_c) h_x3) (hq (get_ge (f := Int_c) h_x3) hq0))))
    refine Run.ret ?_
    cases h
    refine ⟨_, _, by cbv, ?_, ?_⟩
    · exact LLe.r
    · exact (ALe.v LLe.r ALe.nil)

set_option maxRecDepth 8000 in
theorem cmp_isNaN_string_ac {a0 : ByteArray} {r : Bool} (h : cmp_isNaN_string.f a0 = some r) : AC Tryd.prog 102 [.v (.s (.string a0))] [.v (.jk)] [.v (.s (.bool r))] := by
  unfold cmp_isNaN_string.f at h
  let ar := Ls.ar; let cm := Ls.cm; let bo := Ls.bo; let sc := Ls.sc; let sa := Ls.sa; let sx := Ls.sx; let ss := Ls.ss; let sl := Ls.sl; let bs := Ls.bs; let sb := Ls.sb; let ln := Ls.ln; let sr := Ls.sr; let ap := Ls.ap; let up := Ls.up; let rp := Ls.rp; let fr := Ls.fr; let ge := Ls.ge; let le := Ls.le; let lt := Ls.lt; let nz := Ls.nz; let mm := Ls.mm; let ma := Ls.ma; let sm := Ls.sm; let fl := Ls.fl; let al := Ls.al; let ci := Ls.ci
  have hL : (⟨ar, cm, bo, sc, sa, sx, ss, sl, bs, sb, ln, sr, ap, up, rp, fr, ge, le, lt, nz, mm, ma, sm, fl, al, ci⟩ : Lf) = Ls := rfl
  show AC Tryd.prog 102 [.v (.s (.string a0))] _ _
  refine AC.of_run2 tab_ok Tryd.func102 (by rfl) (by rfl) (by cbv) ⟨by decide, rfl⟩ fun F hP hA => ?_
  have hT : TabOk F.P tab := hP ▸ tab_ok
  have hM : F.P.follows .mixedOrders = true := hP ▸ mixed
  have hC : ∀ {f a o r}, AC Tryd.prog f a o r → AC F.P f a o r := fun h => hP ▸ h
  refine Run.seq ?_
  refine Run.region hL hT [] (by cbv) ?_ ?_
  · exact hq0
  refine Run.seq ?_
  refine Run.region hL hT [] (by cbv) ?_ ?_
  · exact hq0
  refine Run.ret ?_
  cases h
  refine ⟨_, _, by cbv, ?_, ?_⟩
  · exact LLe.r
  · exact (ALe.v LLe.r ALe.nil)

set_option maxRecDepth 8000 in
theorem cmp_Less_string_ac {a0 : ByteArray} {a1 : ByteArray} {r : Bool} (h : cmp_Less_string.f a0 a1 = some r) : AC Tryd.prog 88 [.v (.s (.string a0)), .v (.s (.string a1))] [.v (.jk), .v (.jk)] [.v (.s (.bool r))] := by
  unfold cmp_Less_string.f at h
  let ar := Ls.ar; let cm := Ls.cm; let bo := Ls.bo; let sc := Ls.sc; let sa := Ls.sa; let sx := Ls.sx; let ss := Ls.ss; let sl := Ls.sl; let bs := Ls.bs; let sb := Ls.sb; let ln := Ls.ln; let sr := Ls.sr; let ap := Ls.ap; let up := Ls.up; let rp := Ls.rp; let fr := Ls.fr; let ge := Ls.ge; let le := Ls.le; let lt := Ls.lt; let nz := Ls.nz; let mm := Ls.mm; let ma := Ls.ma; let sm := Ls.sm; let fl := Ls.fl; let al := Ls.al; let ci := Ls.ci
  have hL : (⟨ar, cm, bo, sc, sa, sx, ss, sl, bs, sb, ln, sr, ap, up, rp, fr, ge, le, lt, nz, mm, ma, sm, fl, al, ci⟩ : Lf) = Ls := rfl
  show AC Tryd.prog 88 [.v (.s (.string a0)), .v (.s (.string a1))] _ _
  refine AC.of_run2 tab_ok Tryd.func88 (by rfl) (by rfl) (by cbv) ⟨by decide, rfl⟩ fun F hP hA => ?_
  have hT : TabOk F.P tab := hP ▸ tab_ok
  have hM : F.P.follows .mixedOrders = true := hP ▸ mixed
  have hC : ∀ {f a o r}, AC Tryd.prog f a o r → AC F.P f a o r := fun h => hP ▸ h
  refine Run.seq ?_
  refine Run.region hL hT [] (by cbv) ?_ ?_
  · exact hq0
  refine Run.seq ?_
  obtain ⟨r1, h_r1, h⟩ := bnd h
  obtain ⟨r2, h_r2, h⟩ := bnd h
  refine Run.region hL hT [(1, .call [false] [.v (.jk)] [.v (.s (.bool r1))]), (4, .call [false] [.v (.jk)] [.v (.s (.bool r2))])] (by cbv) ?_ ?_
  · exact (hq (hC (cmp_isNaN_string_ac h_r1)) (hq (fun _ => hq0) (hq (fun g4 => (hq g4 (hq (hC (cmp_isNaN_string_ac (gd_t h_r2 g4))) hq0))) (hq (fun g5 => (hq g5 hq0)) (hq (fun q6 => (hq q6 hq0)) (hq (fun _ => hq0) (hq (fun _ => hq0) (hq (fun _ => hq0) (hq (fun g10 => (hq g10 (hq g10 hq0))) (hq (fun _ => hq0) (hq (fun q12 => (hq (bo_m q12) hq0)) hq0)))))))))))
  refine Run.ret ?_
  cases h
  refine ⟨_, _, by cbv, ?_, ?_⟩
  · exact LLe.r
  · exact (ALe.v LLe.r ALe.nil)

set_option maxRecDepth 8000 in
theorem slices_isNaN_string_ac {a0 : ByteArray} {r : Bool} (h : slices_isNaN_string.f a0 = some r) : AC Tryd.prog 89 [.v (.s (.string a0))] [.v (.jk)] [.v (.s (.bool r))] := by
  unfold slices_isNaN_string.f at h
  let ar := Ls.ar; let cm := Ls.cm; let bo := Ls.bo; let sc := Ls.sc; let sa := Ls.sa; let sx := Ls.sx; let ss := Ls.ss; let sl := Ls.sl; let bs := Ls.bs; let sb := Ls.sb; let ln := Ls.ln; let sr := Ls.sr; let ap := Ls.ap; let up := Ls.up; let rp := Ls.rp; let fr := Ls.fr; let ge := Ls.ge; let le := Ls.le; let lt := Ls.lt; let nz := Ls.nz; let mm := Ls.mm; let ma := Ls.ma; let sm := Ls.sm; let fl := Ls.fl; let al := Ls.al; let ci := Ls.ci
  have hL : (⟨ar, cm, bo, sc, sa, sx, ss, sl, bs, sb, ln, sr, ap, up, rp, fr, ge, le, lt, nz, mm, ma, sm, fl, al, ci⟩ : Lf) = Ls := rfl
  show AC Tryd.prog 89 [.v (.s (.string a0))] _ _
  refine AC.of_run2 tab_ok Tryd.func89 (by rfl) (by rfl) (by cbv) ⟨by decide, rfl⟩ fun F hP hA => ?_
  have hT : TabOk F.P tab := hP ▸ tab_ok
  have hM : F.P.follows .mixedOrders = true := hP ▸ mixed
  have hC : ∀ {f a o r}, AC Tryd.prog f a o r → AC F.P f a o r := fun h => hP ▸ h
  refine Run.seq ?_
  refine Run.region hL hT [] (by cbv) ?_ ?_
  · exact hq0
  refine Run.seq ?_
  refine Run.region hL hT [] (by cbv) ?_ ?_
  · exact hq0
  refine Run.ret ?_
  cases h
  refine ⟨_, _, by cbv, ?_, ?_⟩
  · exact LLe.r
  · exact (ALe.v LLe.r ALe.nil)

set_option maxRecDepth 8000 in
theorem slices_BinarySearch_string_ac {a0 : List ByteArray} {a1 : ByteArray} {r : Int × Bool} (h : slices_BinarySearch_string.f a0 a1 = some r) : AC Tryd.prog 71 [.v (.im false (rowsOf Str_c a0)), .v (.s (.string a1))] [.v (.jk), .v (.jk)] [.v (.s (.int .i64 r.1)), .v (.s (.bool r.2))] := by
  unfold slices_BinarySearch_string.f at h
  let ar := Ls.ar; let cm := Ls.cm; let bo := Ls.bo; let sc := Ls.sc; let sa := Ls.sa; let sx := Ls.sx; let ss := Ls.ss; let sl := Ls.sl; let bs := Ls.bs; let sb := Ls.sb; let ln := Ls.ln; let sr := Ls.sr; let ap := Ls.ap; let up := Ls.up; let rp := Ls.rp; let fr := Ls.fr; let ge := Ls.ge; let le := Ls.le; let lt := Ls.lt; let nz := Ls.nz; let mm := Ls.mm; let ma := Ls.ma; let sm := Ls.sm; let fl := Ls.fl; let al := Ls.al; let ci := Ls.ci
  let eStr_c := rowsOf Str_c
  let lenI_Str := @lenI ByteArray
  have hL : (⟨ar, cm, bo, sc, sa, sx, ss, sl, bs, sb, ln, sr, ap, up, rp, fr, ge, le, lt, nz, mm, ma, sm, fl, al, ci⟩ : Lf) = Ls := rfl
  show AC Tryd.prog 71 [.v (.im false (eStr_c a0)), .v (.s (.string a1))] _ _
  refine AC.of_run2 tab_ok Tryd.func71 (by rfl) (by rfl) (by cbv) ⟨by decide, rfl⟩ fun F hP hA => ?_
  have hT : TabOk F.P tab := hP ▸ tab_ok
  have hM : F.P.follows .mixedOrders = true := hP ▸ mixed
  have hC : ∀ {f a o r}, AC Tryd.prog f a o r → AC F.P f a o r := fun h => hP ▸ h
  refine Run.seq ?_
  refine Run.region hL hT [] (by cbv) ?_ ?_
  · exact hq0
  refine Run.seq ?_
  refine Run.region hL hT [] (by cbv) ?_ ?_
  · exact hq0
  rw [show ln (eStr_c a0) = lenI_Str a0 from ln_eq Str_c _]
  refine Run.seq ?_
  refine Run.region hL hT [] (by cbv) ?_ ?_
  · exact hq0
  obtain ⟨K2, h_K2, h⟩ := joinE h
  refine Run.join1 K2 (r := r) (fun (y1 : Int) => ⟨54, 100000, [(0, .t (.im false (eStr_c a0))), (1, .t (.s (.string a1))), (6, .t (.s (.int .i64 (lenI_Str a0)))), (7, .t (.s (.int .i64 y1)))], []⟩) ?_ ?_
  · skip
    refine Run.block ?_
    refine Run.loop2 (fun (z8 : Int) (z9 : Int) => ⟨54, 100000, [(0, .t (.im false (eStr_c a0))), (1, .t (.s (.string a1))), (6, .t (.s (.int .i64 (lenI_Str a0)))), (7, .t (.s (.int .i64 z8))), (8, .t (.s (.int .i64 z9)))], []⟩) (x0 := 0) (x1 := (lenI_Str a0)) h (Weak.of _ [] hA (by cbv) ?_) (fun _ _ => rfl) ?_
    · repeat (first | exact hq0 | refine hq (by first | exact True.intro | rfl) ?_)
    · intro k z8 z9 h
      rw [slices_BinarySearch_string.l0] at h
      refine Run.seq ?_
      refine Run.seq ?_
      refine Run.region hL hT [] (by cbv) ?_ ?_
      · exact (hq trivial hq0)
      refine Run.cond (by cbv) (hq0) (fun c10 => ?_) (fun c10 => ?_)
      · have h := if_t c10 h
        refine Run.skip ?_
        refine Run.block ?_
        refine Run.seq ?_
        refine Run.region hL hT [] (by cbv) ?_ ?_
        · exact (hq trivial (hq trivial (hq trivial (hq (by decide : (0 : Int) ≤ 1) (hq (by decide : (1 : Int) < 64) hq0)))))
        refine Run.seq ?_
        obtain ⟨x11, h_x11, h⟩ := bnd h
        obtain ⟨r12, h_r12, h⟩ := bnd h
        refine Run.region hL hT [(2, .el [.s (.string x11)]), (5, .call [false, false] [.v (.jk), .v (.jk)] [.v (.s (.bool r12))])] (by cbv) ?_ ?_
        · exact (hq (get_le h_x11) (hq (get_lt (f := Str_c) h_x11) (hq (get_ge (f := Str_c) h_x11) (hq (hC (cmp_Less_string_ac h_r12)) hq0))))
        refine Run.cond (by cbv) (hq0) (fun c13 => ?_) (fun c13 => ?_)
        · have h := if_t c13 h
          refine Run.region hL hT [] (by cbv) ?_ ?_
          · exact (hq trivial hq0)
          refine ⟨(ar .add .i64 (ar .or .i64 (ar .shr .u64 (ar .or .u64 (ar .add .i64 z8 z9) 0) 1) 0) 1), z9, h, Weak.of _ [] hA (by cbv) ?_⟩
          repeat (first | exact hq0 | refine hq (by first | exact True.intro | rfl) ?_)
        · have h := if_f c13 h
          refine Run.region hL hT [] (by cbv) ?_ ?_
          · exact hq0
          refine ⟨z8, (ar .or .i64 (ar .shr .u64 (ar .or .u64 (ar .add .i64 z8 z9) 0) 1) 0), h, Weak.of _ [] hA (by cbv) ?_⟩
          repeat (first | exact hq0 | refine hq (by first | exact True.intro | rfl) ?_)
      · have h := if_f c10 h
        refine Run.exit ?_
        refine ⟨z8, h, Weak.of _ [] hA (by cbv) ?_⟩
        repeat (first | exact hq0 | refine hq (by first | exact True.intro | rfl) ?_)
  · intro y1 h
    rw [h_K2] at h
    refine Run.seq ?_
    obtain ⟨x14, h_x14, h⟩ := bnd h
    obtain ⟨x15, h_x15, h⟩ := bnd h
    obtain ⟨r16, h_r16, h⟩ := bnd h
    obtain ⟨r17, h_r17, h⟩ := bnd h
    refine Run.region hL hT [(7, .el [.s (.string x14)]), (14, .el [.s (.string x15)]), (16, .call [false] [.v (.jk)] [.v (.s (.bool r16))]), (19, .call [false] [.v (.jk)] [.v (.s (.bool r17))])] (by cbv) ?_ ?_
    · exact (hq trivial (hq (fun _ => hq0) (hq (fun _ => hq0) (hq (fun g20 => (hq g20 (hq g20 (hq (get_le (gd_t h_x14 g20)) (hq (get_lt (f := Str_c) (gd_t h_x14 g20)) (hq (get_ge (f := Str_c) (gd_t h_x14 g20)) hq0)))))) (hq (fun g21 => (hq g21 hq0)) (hq (fun _ => hq0) (hq (fun g23 => (hq g23 (hq g23 hq0))) (hq (fun g24 => (hq g24 hq0)) (hq (fun _ => hq0) (hq (fun _ => hq0) (hq (fun g27 => (hq g27 (hq g27 (hq (get_le (gd_t h_x15 g27)) (hq (get_lt (f := Str_c) (gd_t h_x15 g27)) (hq (get_ge (f := Str_c) (gd_t h_x15 g27)) hq0)))))) (hq (fun g28 => (hq g28 hq0)) (hq (fun g29 => (hq g29 (hq (hC (slices_isNaN_string_ac (gd_t h_r16 g29))) hq0))) (hq (fun g30 => (hq g30 hq0)) (hq (fun _ => hq0) (hq (fun g32 => (hq g32 (hq (hC (slices_isNaN_string_ac (gd_t h_r17 g32))) hq0))) (hq (fun g33 => (hq g33 (hq (fun q34 => (hq (bo_a g33 q34) hq0)) (hq (fun _ => hq0) hq0)))) (hq (fun g36 => (hq g36 (hq (fun _ => hq0) (hq (fun q38 => (hq (bo_a g36 (bo_m q38)) hq0)) hq0)))) (hq (fun q39 => (hq q39 hq0)) (hq (fun _ => hq0) hq0))))))))))))))))))))
    refine Run.ret ?_
    cases h
    refine ⟨_, _, by cbv, ?_, ?_⟩
    · exact LLe.r
    · exact (ALe.v LLe.r (ALe.v LLe.r ALe.nil))

set_option maxHeartbeats 4000000 in
set_option maxRecDepth 100000 in
theorem slices_Insert_string_end0 (w : World) (g2 c2 : Nat)
  (v' : Value) (w' : World) (hrun : (Builtin.append_ #[32, 32] 32 #[.slice none 0 0, .slice (some ⟨g2, 0, none⟩) 1 c2]).run Tryd.prog w = .ok v' w') :
  Calls Tryd.prog 72 #[.slice none 0 0, .int .i64 0, .slice (some ⟨g2, 0, none⟩) 1 c2] w fun ex w2 => ex = .returned v' ∧ w2 = w' := by
  go_enter Tryd.func72, Tryd.ntmps72
  go_wp2_with (at_builtin; refine wpList_run rfl (exec_append rfl rfl rfl hrun) ?_)
  all_goals go_ret
  all_goals exact ⟨rfl, rfl⟩

set_option maxHeartbeats 4000000 in
set_option maxRecDepth 100000 in
theorem slices_Insert_string_end (w : World) (g c g2 c2 n : Nat) (hnc : n ≤ c)
  (v' : Value) (w' : World) (hrun : (Builtin.append_ #[32, 32] 32 #[.slice (some ⟨g, 0, none⟩) n c, .slice (some ⟨g2, 0, none⟩) 1 c2]).run Tryd.prog w = .ok v' w') :
  Calls Tryd.prog 72 #[.slice (some ⟨g, 0, none⟩) n c, .int .i64 n, .slice (some ⟨g2, 0, none⟩) 1 c2] w fun ex w2 => ex = .returned v' ∧ w2 = w' := by
  go_enter Tryd.func72, Tryd.ntmps72
  go_wp2_with (at_builtin; refine wpList_run rfl (exec_append rfl rfl rfl hrun) ?_)
  all_goals go_ret
  all_goals exact ⟨rfl, rfl⟩

set_option maxHeartbeats 4000000 in
set_option maxRecDepth 100000 in
theorem slices_Insert_string_in (w : World) (g c g2 c2 n i : Nat) (cur cur2 A B : Array Value) (hi : i < n) (hroom : n + 1 ≤ c) (hc63 : c ≤ maxLen) (hne : g2 ≠ g) (hg : w.heap[g]? = some (.cells cur 9 (0, 0))) (hcs : cur.size = c * 1) (hg2 : w.heap[g2]? = some (.cells cur2 9 (0, 0)))
  (hcp1 : ∀ ty dc sc, (Builtin.copy_ #[32, 32] ty #[.slice (some ⟨g, i + 1, none⟩) (n + 1 - (i + 1)) dc, .slice (some ⟨g, i, none⟩) (n + 1 - i) sc]).run Tryd.prog w.drew = .ok (goInt (n - i : Nat)) (w.drew.setRow g A))
  (hcp2 : ∀ ty dc, (Builtin.copy_ #[32, 32] ty #[.slice (some ⟨g, i, none⟩) (n + 1 - i) dc, .slice (some ⟨g2, 0, none⟩) 1 c2]).run Tryd.prog (w.drew.setRow g A) = .ok (goInt (1 : Nat)) ((w.drew.setRow g A).setRow g B)) :
  Calls Tryd.prog 72 #[.slice (some ⟨g, 0, none⟩) n c, .int .i64 i, .slice (some ⟨g2, 0, none⟩) 1 c2] w fun ex w2 => ex = .returned (.slice (some ⟨g, 0, none⟩) (n + 1) c) ∧ w2 = (w.drew.setRow g A).setRow g B := by
  have mixed := mixed
  have TE : TyOk Tryd.prog 9 _ := tab_ok 9 _ rfl
  have TS : TyOk Tryd.prog 32 _ := tab_ok 32 _ rfl
  obtain ⟨ti, hti, htz, htb, _⟩ := TE.info
  have u92 := TS.isS rfl
  have hz1 : ¬ ((1 : Int) = 0) := by omega
  have hz2 : ¬ ((i : Int) = (n : Int)) := by omega
  have hw1 : IntKind.i64.wrap ((i : Int) + (1 : Int)) = (i : Int) + (1 : Int) := by unfold maxLen at hc63; rw [IntKind.wrap_i64]; omega
  have hw2 : IntKind.i64.wrap ((n : Int) + (1 : Int)) = (n : Int) + (1 : Int) := by unfold maxLen at hc63; rw [IntKind.wrap_i64]; omega
  have hb1 : (0 : Int) ≤ (i : Int) + (1 : Int) := by omega
  have hin : i ≤ n := by omega
  have htn : ((i : Int) + (1 : Int)).toNat = i + 1 := by omega
  have hb2 : ¬ (c = i + 1) := by omega
  have hb3 : (i : Int) ≤ (n : Int) + (1 : Int) := by omega
  have hb4 : ¬ (c = i) := by omega
  have hov : ∀ lb cb o, (callFunc 90 #[.slice (some ⟨g2, 0, none⟩) 1 c2, .slice (some ⟨g, o, none⟩) lb cb]).run Tryd.prog w = .ok (.value (.bool false)) w := fun lb cb o => by
    rw [run_callFunc_extern Tryd.func90 (by kernel_rfl) (by kernel_rfl) (by kernel_rfl) (e := Extern.SlicesOverlaps.overlaps #[32, 32] #[4]) (by kernel_rfl),
      Lib.run_overlaps_apart w 32 4 9 u92 1 (fun w => by simp [sizeOf, typeInfo, hti, htz]) ⟨g2, 0, none⟩ ⟨g, o, none⟩ 1 c2 lb cb hne 9 9 cur2.size cur.size (by simp [World.shape?, hg2]) (by simp [World.shape?, hg]) (by omega) (by simp [World.frozen?, hg2]) (by simp [World.frozen?, hg2])]
    rfl
  go_enter Tryd.func72, Tryd.ntmps72
  go_wp2_with (simp only [hov])
  go_region_law_o (refine step_run rfl (exec_copy rfl (by simp [Act.eval, Act.put]; rfl) (by simp [Act.eval, Act.put]; rfl) (hcp1 _ _ _)) ?_)
  go_wp2_with (at_builtin; refine wpList_run rfl (exec_copy rfl rfl rfl (hcp2 _ _)) ?_)
  go_ret
  exact ⟨rfl, rfl⟩

set_option maxHeartbeats 4000000 in
set_option maxRecDepth 100000 in
theorem slices_Insert_string_grow (w : World) (g c g2 c2 n i G : Nat) (R A B : Array Value) (hi : i < n) (hnc : n ≤ c) (hroom : c < n + 1) (hc63 : n + 1 ≤ maxLen) (hG : n + 1 ≤ G) (hGm : G ≤ maxLen)
  (hrz : ∀ ty, (Builtin.append_ #[32, 3] ty #[.slice (some ⟨g, 0, none⟩) i c, .int .i64 ((n : Int) + 1 - i)]).run Tryd.prog w = .ok (.slice (some ⟨w.heap.size, 0, none⟩) (n + 1) G) (w.drew.alloc (.cells R 9)))
  (hcp2 : ∀ ty dc, (Builtin.copy_ #[32, 32] ty #[.slice (some ⟨w.heap.size, i, none⟩) (n + 1 - i) dc, .slice (some ⟨g2, 0, none⟩) 1 c2]).run Tryd.prog (w.alloc (.cells R 9)).drew = .ok (goInt (1 : Nat)) ((w.alloc (.cells R 9)).drew.setRow w.heap.size A))
  (hcp1 : ∀ ty dc sc, (Builtin.copy_ #[32, 32] ty #[.slice (some ⟨w.heap.size, i + 1, none⟩) (n + 1 - (i + 1)) dc, .slice (some ⟨g, i, none⟩) (n - i) sc]).run Tryd.prog ((w.alloc (.cells R 9)).drew.setRow w.heap.size A).drew = .ok (goInt (n - i : Nat)) (((w.alloc (.cells R 9)).drew.setRow w.heap.size A).drew.setRow w.heap.size B)) :
  Calls Tryd.prog 72 #[.slice (some ⟨g, 0, none⟩) n c, .int .i64 i, .slice (some ⟨g2, 0, none⟩) 1 c2] w fun ex w2 => ex = .returned (.slice (some ⟨w.heap.size, 0, none⟩) (n + 1) G) ∧ w2 = ((w.alloc (.cells R 9)).drew.setRow w.heap.size A).drew.setRow w.heap.size B := by
  have mixed := mixed
  have hz1 : ¬ ((1 : Int) = 0) := by omega
  have hz2 : ¬ ((i : Int) = (n : Int)) := by omega
  have hz3 : (c : Int) < (n : Int) + (1 : Int) := by omega
  have hw1 : IntKind.i64.wrap ((i : Int) + (1 : Int)) = (i : Int) + (1 : Int) := by unfold maxLen at hc63; rw [IntKind.wrap_i64]; omega
  have hw2 : IntKind.i64.wrap ((n : Int) + (1 : Int)) = (n : Int) + (1 : Int) := by unfold maxLen at hc63; rw [IntKind.wrap_i64]; omega
  have hw3 : IntKind.i64.wrap ((n : Int) + (1 : Int) - (i : Int)) = (n : Int) + (1 : Int) - (i : Int) := by unfold maxLen at hc63; rw [IntKind.wrap_i64]; omega
  have hb1 : (0 : Int) ≤ (i : Int) + (1 : Int) := by omega
  have hin : i ≤ n := by omega
  have htn : ((i : Int) + (1 : Int)).toNat = i + 1 := by omega
  have hGi : ¬ (G = i) := by omega
  have hGim : ¬ (G = i + 1) := by omega
  have hci : ¬ (c = i) := by omega
  have hb3 : (i : Int) ≤ (n : Int) := by omega
  go_enter Tryd.func72, Tryd.ntmps72
  go_wp2_with (first
    | (at_builtin; refine wpList_run rfl (exec_append rfl rfl rfl (hrz _)) ?_)
    | (at_builtin; refine wpList_run rfl (exec_copy rfl rfl rfl (hcp2 _ _)) ?_))
  go_region_law_o (refine step_run rfl (exec_copy rfl (by simp [Act.eval, Act.put]; rfl) (by simp [Act.eval, Act.put]; rfl) (hcp1 _ _ _)) ?_)
  go_wp2
  go_ret
  exact ⟨rfl, rfl⟩
theorem slices_Insert_string_roads : Roads Tryd.prog 72 32 9 1 3 where
  end0 := fun w g2 c2 v' w' h => slices_Insert_string_end0 w g2 c2 v' w' h
  end1 := fun w g c g2 c2 n v' w' hnc h => slices_Insert_string_end w g c g2 c2 n hnc v' w' h
  inn := fun w g c g2 c2 n i cur cur2 A B h1 h2 h3 h4 h5 h6 h7 h8 h9 => slices_Insert_string_in w g c g2 c2 n i cur cur2 A B h1 h2 h3 h4 h5 h6 h7 (by simpa using h8) (by simpa using h9)
  grow := fun w g c g2 c2 n i G R A B h1 h2 h3 h4 h5 h6 h7 h8 h9 => slices_Insert_string_grow w g c g2 c2 n i G R A B h1 h2 h3 h4 h5 h6 h7 (by simpa using h8) (by simpa using h9)
theorem slices_Insert_string_ac {a0 a2 : List ByteArray} {a1 : Int} {r : List ByteArray} (h : slices_Insert_string.f a0 a1 a2 = some r) : AC Tryd.prog 72 [.v (.ow 9 (rowsOf Str_c a0)), .v (.s (.int .i64 a1)), .v (.ow 9 (rowsOf Str_c a2))] [.v .jk, .v .jk, .v .jk] [.v (.ow 9 (rowsOf Str_c r))] := by
  unfold slices_Insert_string.f insO at h
  split at h
  · rename_i hc
    obtain ⟨h1, c0, c1, c2, c3⟩ := hc
    obtain ⟨i, rfl⟩ : ∃ k : Nat, a1 = k := ⟨a1.toNat, by omega⟩
    obtain ⟨x, rfl⟩ := List.length_eq_one_iff.1 h1
    simp only [Option.some.injEq] at h
    subst h
    have hr : rowsOf Str_c (a0.take ((i : Nat) : Int).toNat ++ [x] ++ a0.drop ((i : Nat) : Int).toNat) = (rowsOf Str_c a0).take i ++ [Str_c x] ++ (rowsOf Str_c a0).drop i := by simp [rowsOf, List.map_take, List.map_drop]
    rw [hr]
    have hl := rowsOf_len Str_c a0
    simp only [List.length_singleton] at c2 c3
    exact AC.of_ins ⟨_, Tryd.func72, by rfl, by rfl⟩ (cellsOf_ty (tab_ok 9 _ rfl)) (slices_Insert_string_roads.raw (tab_ok 32 _ rfl) rfl (tab_ok 9 _ rfl) (by simp) (underlying_int (tab_ok 3 _ rfl) rfl)) (by omega) (by rw [hl]; show (a0.length + 1) * 16 ≤ _; omega) (by omega)
  · cases h


set_option maxHeartbeats 4000000 in
set_option maxRecDepth 100000 in
theorem slices_Insert_impl_Json_end0 (w : World) (g2 c2 : Nat)
  (v' : Value) (w' : World) (hrun : (Builtin.append_ #[31, 31] 31 #[.slice none 0 0, .slice (some ⟨g2, 0, none⟩) 1 c2]).run Tryd.prog w = .ok v' w') :
  Calls Tryd.prog 73 #[.slice none 0 0, .int .i64 0, .slice (some ⟨g2, 0, none⟩) 1 c2] w fun ex w2 => ex = .returned v' ∧ w2 = w' := by
  go_enter Tryd.func73, Tryd.ntmps73
  go_wp2_with (at_builtin; refine wpList_run rfl (exec_append rfl rfl rfl hrun) ?_)
  all_goals go_ret
  all_goals exact ⟨rfl, rfl⟩

set_option maxHeartbeats 4000000 in
set_option maxRecDepth 100000 in
theorem slices_Insert_impl_Json_end (w : World) (g c g2 c2 n : Nat) (hnc : n ≤ c)
  (v' : Value) (w' : World) (hrun : (Builtin.append_ #[31, 31] 31 #[.slice (some ⟨g, 0, none⟩) n c, .slice (some ⟨g2, 0, none⟩) 1 c2]).run Tryd.prog w = .ok v' w') :
  Calls Tryd.prog 73 #[.slice (some ⟨g, 0, none⟩) n c, .int .i64 n, .slice (some ⟨g2, 0, none⟩) 1 c2] w fun ex w2 => ex = .returned v' ∧ w2 = w' := by
  go_enter Tryd.func73, Tryd.ntmps73
  go_wp2_with (at_builtin; refine wpList_run rfl (exec_append rfl rfl rfl hrun) ?_)
  all_goals go_ret
  all_goals exact ⟨rfl, rfl⟩

set_option maxHeartbeats 4000000 in
set_option maxRecDepth 100000 in
theorem slices_Insert_impl_Json_in (w : World) (g c g2 c2 n i : Nat) (cur cur2 A B : Array Value) (hi : i < n) (hroom : n + 1 ≤ c) (hc63 : c ≤ maxLen) (hne : g2 ≠ g) (hg : w.heap[g]? = some (.cells cur 34 (0, 0))) (hcs : cur.size = c * 5) (hg2 : w.heap[g2]? = some (.cells cur2 34 (0, 0)))
  (hcp1 : ∀ ty dc sc, (Builtin.copy_ #[31, 31] ty #[.slice (some ⟨g, (i + 1) * 5, none⟩) (n + 1 - (i + 1)) dc, .slice (some ⟨g, i * 5, none⟩) (n + 1 - i) sc]).run Tryd.prog w.drew = .ok (goInt (n - i : Nat)) (w.drew.setRow g A))
  (hcp2 : ∀ ty dc, (Builtin.copy_ #[31, 31] ty #[.slice (some ⟨g, i * 5, none⟩) (n + 1 - i) dc, .slice (some ⟨g2, 0, none⟩) 1 c2]).run Tryd.prog (w.drew.setRow g A) = .ok (goInt (1 : Nat)) ((w.drew.setRow g A).setRow g B)) :
  Calls Tryd.prog 73 #[.slice (some ⟨g, 0, none⟩) n c, .int .i64 i, .slice (some ⟨g2, 0, none⟩) 1 c2] w fun ex w2 => ex = .returned (.slice (some ⟨g, 0, none⟩) (n + 1) c) ∧ w2 = (w.drew.setRow g A).setRow g B := by
  have mixed := mixed
  have TE : TyOk Tryd.prog 34 _ := tab_ok 34 _ rfl
  have TS : TyOk Tryd.prog 31 _ := tab_ok 31 _ rfl
  obtain ⟨ti, hti, htz, htb, _⟩ := TE.info
  have u92 := TS.isS rfl
  have hz1 : ¬ ((1 : Int) = 0) := by omega
  have hz2 : ¬ ((i : Int) = (n : Int)) := by omega
  have hw1 : IntKind.i64.wrap ((i : Int) + (1 : Int)) = (i : Int) + (1 : Int) := by unfold maxLen at hc63; rw [IntKind.wrap_i64]; omega
  have hw2 : IntKind.i64.wrap ((n : Int) + (1 : Int)) = (n : Int) + (1 : Int) := by unfold maxLen at hc63; rw [IntKind.wrap_i64]; omega
  have hb1 : (0 : Int) ≤ (i : Int) + (1 : Int) := by omega
  have hin : i ≤ n := by omega
  have htn : ((i : Int) + (1 : Int)).toNat = i + 1 := by omega
  have hb2 : ¬ (c = i + 1) := by omega
  have hb3 : (i : Int) ≤ (n : Int) + (1 : Int) := by omega
  have hb4 : ¬ (c = i) := by omega
  have hov : ∀ lb cb o, (callFunc 92 #[.slice (some ⟨g2, 0, none⟩) 1 c2, .slice (some ⟨g, o, none⟩) lb cb]).run Tryd.prog w = .ok (.value (.bool false)) w := fun lb cb o => by
    rw [run_callFunc_extern Tryd.func92 (by kernel_rfl) (by kernel_rfl) (by kernel_rfl) (e := Extern.SlicesOverlaps.overlaps #[31, 31] #[4]) (by kernel_rfl),
      Lib.run_overlaps_apart w 31 4 34 u92 5 (fun w => by simp [sizeOf, typeInfo, hti, htz]) ⟨g2, 0, none⟩ ⟨g, o, none⟩ 1 c2 lb cb hne 34 34 cur2.size cur.size (by simp [World.shape?, hg2]) (by simp [World.shape?, hg]) (by omega) (by simp [World.frozen?, hg2]) (by simp [World.frozen?, hg2])]
    rfl
  go_enter Tryd.func73, Tryd.ntmps73
  go_wp2_with (simp only [hov])
  go_region_law_o (refine step_run rfl (exec_copy rfl (by simp [Act.eval, Act.put]; rfl) (by simp [Act.eval, Act.put]; rfl) (hcp1 _ _ _)) ?_)
  go_wp2_with (at_builtin; refine wpList_run rfl (exec_copy rfl rfl rfl (hcp2 _ _)) ?_)
  go_ret
  exact ⟨rfl, rfl⟩

set_option maxHeartbeats 4000000 in
set_option maxRecDepth 100000 in
theorem slices_Insert_impl_Json_grow (w : World) (g c g2 c2 n i G : Nat) (R A B : Array Value) (hi : i < n) (hnc : n ≤ c) (hroom : c < n + 1) (hc63 : n + 1 ≤ maxLen) (hG : n + 1 ≤ G) (hGm : G ≤ maxLen)
  (hrz : ∀ ty, (Builtin.append_ #[31, 3] ty #[.slice (some ⟨g, 0, none⟩) i c, .int .i64 ((n : Int) + 1 - i)]).run Tryd.prog w = .ok (.slice (some ⟨w.heap.size, 0, none⟩) (n + 1) G) (w.drew.alloc (.cells R 34)))
  (hcp2 : ∀ ty dc, (Builtin.copy_ #[31, 31] ty #[.slice (some ⟨w.heap.size, i * 5, none⟩) (n + 1 - i) dc, .slice (some ⟨g2, 0, none⟩) 1 c2]).run Tryd.prog (w.alloc (.cells R 34)).drew = .ok (goInt (1 : Nat)) ((w.alloc (.cells R 34)).drew.setRow w.heap.size A))
  (hcp1 : ∀ ty dc sc, (Builtin.copy_ #[31, 31] ty #[.slice (some ⟨w.heap.size, (i + 1) * 5, none⟩) (n + 1 - (i + 1)) dc, .slice (some ⟨g, i * 5, none⟩) (n - i) sc]).run Tryd.prog ((w.alloc (.cells R 34)).drew.setRow w.heap.size A).drew = .ok (goInt (n - i : Nat)) (((w.alloc (.cells R 34)).drew.setRow w.heap.size A).drew.setRow w.heap.size B)) :
  Calls Tryd.prog 73 #[.slice (some ⟨g, 0, none⟩) n c, .int .i64 i, .slice (some ⟨g2, 0, none⟩) 1 c2] w fun ex w2 => ex = .returned (.slice (some ⟨w.heap.size, 0, none⟩) (n + 1) G) ∧ w2 = ((w.alloc (.cells R 34)).drew.setRow w.heap.size A).drew.setRow w.heap.size B := by
  have mixed := mixed
  have hz1 : ¬ ((1 : Int) = 0) := by omega
  have hz2 : ¬ ((i : Int) = (n : Int)) := by omega
  have hz3 : (c : Int) < (n : Int) + (1 : Int) := by omega
  have hw1 : IntKind.i64.wrap ((i : Int) + (1 : Int)) = (i : Int) + (1 : Int) := by unfold maxLen at hc63; rw [IntKind.wrap_i64]; omega
  have hw2 : IntKind.i64.wrap ((n : Int) + (1 : Int)) = (n : Int) + (1 : Int) := by unfold maxLen at hc63; rw [IntKind.wrap_i64]; omega
  have hw3 : IntKind.i64.wrap ((n : Int) + (1 : Int) - (i : Int)) = (n : Int) + (1 : Int) - (i : Int) := by unfold maxLen at hc63; rw [IntKind.wrap_i64]; omega
  have hb1 : (0 : Int) ≤ (i : Int) + (1 : Int) := by omega
  have hin : i ≤ n := by omega
  have htn : ((i : Int) + (1 : Int)).toNat = i + 1 := by omega
  have hGi : ¬ (G = i) := by omega
  have hGim : ¬ (G = i + 1) := by omega
  have hci : ¬ (c = i) := by omega
  have hb3 : (i : Int) ≤ (n : Int) := by omega
  go_enter Tryd.func73, Tryd.ntmps73
  go_wp2_with (first
    | (at_builtin; refine wpList_run rfl (exec_append rfl rfl rfl (hrz _)) ?_)
    | (at_builtin; refine wpList_run rfl (exec_copy rfl rfl rfl (hcp2 _ _)) ?_))
  go_region_law_o (refine step_run rfl (exec_copy rfl (by simp [Act.eval, Act.put]; rfl) (by simp [Act.eval, Act.put]; rfl) (hcp1 _ _ _)) ?_)
  go_wp2
  go_ret
  exact ⟨rfl, rfl⟩
theorem slices_Insert_impl_Json_roads : Roads Tryd.prog 73 31 34 5 3 where
  end0 := fun w g2 c2 v' w' h => slices_Insert_impl_Json_end0 w g2 c2 v' w' h
  end1 := fun w g c g2 c2 n v' w' hnc h => slices_Insert_impl_Json_end w g c g2 c2 n hnc v' w' h
  inn := fun w g c g2 c2 n i cur cur2 A B h1 h2 h3 h4 h5 h6 h7 h8 h9 => slices_Insert_impl_Json_in w g c g2 c2 n i cur cur2 A B h1 h2 h3 h4 h5 h6 h7 h8 h9
  grow := fun w g c g2 c2 n i G R A B h1 h2 h3 h4 h5 h6 h7 h8 h9 => slices_Insert_impl_Json_grow w g c g2 c2 n i G R A B h1 h2 h3 h4 h5 h6 h7 h8 h9
theorem slices_Insert_impl_Json_ac {a0 a2 : List Json} {a1 : Int} {r : List Json} (h : slices_Insert_impl_Json.f a0 a1 a2 = some r) : AC Tryd.prog 73 [.v (.ow 34 (rowsOf Json_o a0)), .v (.s (.int .i64 a1)), .v (.ow 34 (rowsOf Json_o a2))] [.v .jk, .v .jk, .v .jk] [.v (.ow 34 (rowsOf Json_o r))] := by
  unfold slices_Insert_impl_Json.f insO at h
  split at h
  · rename_i hc
    obtain ⟨h1, c0, c1, c2, c3⟩ := hc
    obtain ⟨i, rfl⟩ : ∃ k : Nat, a1 = k := ⟨a1.toNat, by omega⟩
    obtain ⟨x, rfl⟩ := List.length_eq_one_iff.1 h1
    simp only [Option.some.injEq] at h
    subst h
    have hr : rowsOf Json_o (a0.take ((i : Nat) : Int).toNat ++ [x] ++ a0.drop ((i : Nat) : Int).toNat) = (rowsOf Json_o a0).take i ++ [Json_o x] ++ (rowsOf Json_o a0).drop i := by simp [rowsOf, List.map_take, List.map_drop]
    rw [hr]
    have hl := rowsOf_len Json_o a0
    simp only [List.length_singleton] at c2 c3
    exact AC.of_ins ⟨_, Tryd.func73, by rfl, by rfl⟩ (cellsOf_ty (tab_ok 34 _ rfl)) (slices_Insert_impl_Json_roads.raw (tab_ok 31 _ rfl) rfl (tab_ok 34 _ rfl) (by simp) (underlying_int (tab_ok 3 _ rfl) rfl)) (by omega) (by rw [hl]; show (a0.length + 1) * 80 ≤ _; omega) (by omega)
  · cases h


set_option maxRecDepth 8000 in
theorem impl_objOf_ac {a0 : List ByteArray} {a1 : List Int} {r : Json} (h : impl_objOf.f a0 a1 = some r) : AC Tryd.prog 44 [.v (.im false (rowsOf Str_c a0)), .v (.im false (rowsOf Int_c a1))] [.v (.jk), .v (.jk)] [.ag [.s (.int .i64 r.Kind), .s (.int .i64 r.N), .s (.string r.S), .ow 34 (rowsOf Json_o r.List_), .ow 9 (rowsOf Str_c r.Names)]] := by
  unfold impl_objOf.f at h
  let ar := Ls.ar; let cm := Ls.cm; let bo := Ls.bo; let sc := Ls.sc; let sa := Ls.sa; let sx := Ls.sx; let ss := Ls.ss; let sl := Ls.sl; let bs := Ls.bs; let sb := Ls.sb; let ln := Ls.ln; let sr := Ls.sr; let ap := Ls.ap; let up := Ls.up; let rp := Ls.rp; let fr := Ls.fr; let ge := Ls.ge; let le := Ls.le; let lt := Ls.lt; let nz := Ls.nz; let mm := Ls.mm; let ma := Ls.ma; let sm := Ls.sm; let fl := Ls.fl; let al := Ls.al; let ci := Ls.ci
  let eInt_c := rowsOf Int_c
  let eJson_o := rowsOf Json_o
  let eStr_c := rowsOf Str_c
  let lenI_Str := @lenI ByteArray
  have hL : (⟨ar, cm, bo, sc, sa, sx, ss, sl, bs, sb, ln, sr, ap, up, rp, fr, ge, le, lt, nz, mm, ma, sm, fl, al, ci⟩ : Lf) = Ls := rfl
  show AC Tryd.prog 44 [.v (.im false (eStr_c a0)), .v (.im false (eInt_c a1))] _ _
  refine AC.of_run2 tab_ok Tryd.func44 (by rfl) (by rfl) (by cbv) ⟨by decide, rfl⟩ fun F hP hA => ?_
  have hT : TabOk F.P tab := hP ▸ tab_ok
  have hM : F.P.follows .mixedOrders = true := hP ▸ mixed
  have hC : ∀ {f a o r}, AC Tryd.prog f a o r → AC F.P f a o r := fun h => hP ▸ h
  refine Run.seq ?_
  refine Run.region hL hT [] (by cbv) ?_ ?_
  · exact hq0
  refine Run.seq ?_
  refine Run.region hL hT [] (by cbv) ?_ ?_
  · exact (hq trivial hq0)
  refine Run.seq ?_
  refine Run.seq ?_
  refine Run.region hL hT [] (by cbv) ?_ ?_
  · exact hq0
  rw [show ln (eStr_c a0) = lenI_Str a0 from ln_eq Str_c _]
  refine Run.block ?_
  refine Run.loop3 (fun (z23 : List Json) (z24 : List ByteArray) (z25 : Int) => ⟨45, 100000, [(1, .t (.im false (eInt_c a1))), (4, .pt 1 0 0), (5, .pt 2 0 0), (11, .t (.im false (eStr_c a0))), (12, .t (.s (.int .i64 (lenI_Str a0)))), (13, .t (.s (.int .i64 z25)))], [(1, .box 34 [.t (.s (.int .i64 0)), .t (.s (.int .i64 0)), .t (.s (.string ByteArray.empty)), .t (.s (.slice none 0 0)), .t (.s (.slice none 0 0))]), (2, .box 34 [.t (.s (.int .i64 5)), .t (.s (.int .i64 0)), .t (.s (.string ByteArray.empty)), .rf 3, .rf 4]), (3, .row 0 34 5 (eJson_o z23)), (4, .row 0 9 1 (eStr_c z24))]⟩) (x0 := []) (x1 := []) (x2 := 0) h ((Weak.nilB (l := [.t (.s (.int .i64 5)), .t (.s (.int .i64 0)), .t (.s (.string ByteArray.empty))]) hT 4097 3 13288 34 rfl (by cbv) (by cbv) (by cbv)).trans ((Weak.nilB (l := [.t (.s (.int .i64 5)), .t (.s (.int .i64 0)), .t (.s (.string ByteArray.empty)), .rf 13288]) hT 4097 4 13289 9 rfl (by cbv) (by cbv) (by cbv)).trans (Weak.of _ [(1, 0), (2, 4097), (3, 13288), (4, 13289)] hA (by cbv) ?_))) (fun _ _ _ => rfl) ?_
  · repeat (first | exact hq0 | refine hq (by first | exact True.intro | rfl) ?_)
  · intro k z23 z24 z25 h
    rw [impl_objOf.l0] at h
    refine Run.seq ?_
    refine Run.region hL hT [] (by cbv) ?_ ?_
    · exact (hq trivial hq0)
    refine Run.seq ?_
    refine Run.cond (by cbv) (hq0) (fun c26 => ?_) (fun c26 => ?_)
    · have h := if_t c26 h
      refine Run.skip ?_
      refine Run.seq ?_
      refine Run.block ?_
      refine Run.seq ?_
      obtain ⟨x27, h_x27, h⟩ := bnd h
      refine Run.region hL hT [(1, .el [.s (.string x27)])] (by cbv) ?_ ?_
      · exact (hq (get_le h_x27) (hq (get_lt (f := Str_c) h_x27) (hq (get_ge (f := Str_c) h_x27) hq0)))
      refine Run.seq ?_
      obtain ⟨⟨r28v_1, r28v_2⟩, h_r28, h⟩ := bnd h
      refine Run.region hL hT [(3, .call [false, false] [.v (.jk), .v (.jk)] [.v (.s (.int .i64 r28v_1)), .v (.s (.bool r28v_2))])] (by cbv) ?_ ?_
      · exact (hq trivial (hq (hC (AC.args (slices_BinarySearch_string_ac h_r28) (ALe.v (LLe.im (RLe.eq (fr_row Str_c_z _))) (ALe.v LLe.r ALe.nil)))) hq0))
      refine Run.seq ?_
      obtain ⟨l29, h_l29, h⟩ := bnd h
      obtain ⟨r30, h_r30, h⟩ := bnd h
      refine Run.region hL hT [(5, .call [true, false, true] [.v (.jk), .v (.jk), .v (.jk)] [.v (.ow 9 (eStr_c r30))])] (by cbv) ?_ ?_
      · exact (hq trivial (hq (hC (AC.args (slices_Insert_string_ac h_r30) (ALe.v LLe.r (ALe.v LLe.r (ALe.v (LLe.ow (some_le (f := Str_c) h_l29 (RLe.cons rfl LLe.r RLe.nil))) ALe.nil))))) (hq trivial hq0)))
      obtain ⟨x31, h_x31, h⟩ := bnd h
      obtain ⟨l32, h_l32, h⟩ := bnd h
      obtain ⟨r33, h_r33, h⟩ := bnd h
      refine Run.draw hL hT hM [(5, .el [.s (.int .i64 x31)]), (9, .call [true, false, true] [.v (.jk), .v (.jk), .v (.jk)] [.v (.ow 34 (eJson_o r33))])] (by cbv) (by cbv) (by cbv) (by cbv) (by cbv) ?_ ?_
      · exact (hq trivial (hq (get_le h_x31) (hq (get_lt (f := Int_c) h_x31) (hq (get_ge (f := Int_c) h_x31) (hq (hC (AC.args (slices_Insert_impl_Json_ac h_r33) (ALe.v LLe.r (ALe.v LLe.r (ALe.v (LLe.ow (some_leU Json_o_u h_l32 (RLe.cons rfl (LLe.c (LLe.c (LLe.c (LLe.cons LLe.nilO (LLe.cons LLe.nilO LLe.nil))))) RLe.nil))) ALe.nil))))) (hq trivial hq0))))))
      refine Run.region hL hT [] (by cbv) ?_ ?_
      · exact (hq trivial hq0)
      refine ⟨r33, r30, (ar .add .i64 z25 1), h, Weak.of _ [(1, 1), (2, 2), (3, 116393), (4, 112293)] hA (by cbv) ?_⟩
      repeat (first | exact hq0 | refine hq (by first | exact True.intro | rfl) ?_)
    · have h := if_f c26 h
      refine Run.exit ?_
      refine Run.seq ?_
      refine Run.region hL hT [] (by cbv) ?_ ?_
      · exact (hq trivial (hq trivial hq0))
      refine Run.ret ?_
      cases h
      refine ⟨_, _, by cbv, ?_, ?_⟩
      · exact LLe.r
      · exact (ALe.ag rfl LLe.r ALe.nil)

set_option maxRecDepth 8000 in
theorem impl_RowDoc_ac {a0v_Table : Int} {a0v_Where : List Cond} {a0v_Order : Int} {a0v_Down : Bool} {a0v_First : Int} {a0v_Show : List Int} {a0v_Kids : Bool} {a0v_KidTable : Int} {a0v_KidCol : Int} {a1v_Id : Int} {a1v_Cells : List Int} {a2 : Int} {r : Json} (h : impl_RowDoc.f (Query.mk a0v_Table a0v_Where a0v_Order a0v_Down a0v_First a0v_Show a0v_Kids a0v_KidTable a0v_KidCol) (Row.mk a1v_Id a1v_Cells) a2 = some r) : AC Tryd.prog 12 [.ag [.s (.int .i64 a0v_Table), .im false (rowsOf Cond_c a0v_Where), .s (.int .i64 a0v_Order), .s (.bool a0v_Down), .s (.int .i64 a0v_First), .im false (rowsOf Int_c a0v_Show), .s (.bool a0v_Kids), .s (.int .i64 a0v_KidTable), .s (.int .i64 a0v_KidCol)], .ag [.s (.int .i64 a1v_Id), .im false (rowsOf Int_c a1v_Cells)], .v (.s (.int .i64 a2))] [.ag [.jk, .jk, .jk, .jk, .jk, .jk, .jk, .jk, .jk], .ag [.jk, .jk], .v (.jk)] [.ag [.s (.int .i64 r.Kind), .s (.int .i64 r.N), .s (.string r.S), .ow 34 (rowsOf Json_o r.List_), .ow 9 (rowsOf Str_c r.Names)]] := by
  unfold impl_RowDoc.f at h
  let ar := Ls.ar; let cm := Ls.cm; let bo := Ls.bo; let sc := Ls.sc; let sa := Ls.sa; let sx := Ls.sx; let ss := Ls.ss; let sl := Ls.sl; let bs := Ls.bs; let sb := Ls.sb; let ln := Ls.ln; let sr := Ls.sr; let ap := Ls.ap; let up := Ls.up; let rp := Ls.rp; let fr := Ls.fr; let ge := Ls.ge; let le := Ls.le; let lt := Ls.lt; let nz := Ls.nz; let mm := Ls.mm; let ma := Ls.ma; let sm := Ls.sm; let fl := Ls.fl; let al := Ls.al; let ci := Ls.ci
  let eCond_c := rowsOf Cond_c
  let eInt_c := rowsOf Int_c
  let eJson_o := rowsOf Json_o
  let eStr_c := rowsOf Str_c
  let lenI_Int := @lenI Int
  have hL : (⟨ar, cm, bo, sc, sa, sx, ss, sl, bs, sb, ln, sr, ap, up, rp, fr, ge, le, lt, nz, mm, ma, sm, fl, al, ci⟩ : Lf) = Ls := rfl
  show AC Tryd.prog 12 [.ag [.s (.int .i64 a0v_Table), .im false (eCond_c a0v_Where), .s (.int .i64 a0v_Order), .s (.bool a0v_Down), .s (.int .i64 a0v_First), .im false (eInt_c a0v_Show), .s (.bool a0v_Kids), .s (.int .i64 a0v_KidTable), .s (.int .i64 a0v_KidCol)], .ag [.s (.int .i64 a1v_Id), .im false (eInt_c a1v_Cells)], .v (.s (.int .i64 a2))] _ _
  refine AC.of_run2 tab_ok Tryd.func12 (by rfl) (by rfl) (by cbv) ⟨by decide, rfl⟩ fun F hP hA => ?_
  have hT : TabOk F.P tab := hP ▸ tab_ok
  have hM : F.P.follows .mixedOrders = true := hP ▸ mixed
  have hC : ∀ {f a o r}, AC Tryd.prog f a o r → AC F.P f a o r := fun h => hP ▸ h
  refine Run.seq ?_
  refine Run.region hL hT [] (by cbv) ?_ ?_
  · exact hq0
  refine Run.seq ?_
  obtain ⟨l1, h_l1, h⟩ := bnd h
  obtain ⟨l2, h_l2, h⟩ := bnd h
  refine Run.draw hL hT hM [] (by cbv) (by cbv) (by cbv) (by cbv) (by cbv) ?_ ?_
  · exact (hq trivial hq0)
  refine Run.row (rows := [[.s (.string (ByteArray.mk #[105, 100]))]]) 4096 (eStr_c l1) (by cbv) (some_le (f := Str_c) h_l1 (RLe.cons rfl LLe.r RLe.nil)) ?_
  refine Run.row (rows := [[.s (.int .i64 a1v_Id)]]) 4099 (eInt_c l2) (by cbv) (some_le (f := Int_c) h_l2 (RLe.cons rfl LLe.r RLe.nil)) ?_
  obtain ⟨K5, h_K5, h⟩ := joinE h
  refine Run.join2 K5 (r := r) (fun (y3 : List ByteArray) (y4 : List Int) => ⟨55, 100000, [(2, .t (.s (.int .i64 a2))), (3, .pt 1 0 0), (6, .pt 2 0 0), (7, .rf 3), (8, .rf 4)], [(1, .box 27 [.t (.s (.int .i64 a0v_Table)), .t (.im false (eCond_c a0v_Where)), .t (.s (.int .i64 a0v_Order)), .t (.s (.bool a0v_Down)), .t (.s (.int .i64 a0v_First)), .t (.im false (eInt_c a0v_Show)), .t (.s (.bool a0v_Kids)), .t (.s (.int .i64 a0v_KidTable)), .t (.s (.int .i64 a0v_KidCol))]), (2, .box 34 [.t (.s (.int .i64 0)), .t (.s (.int .i64 0)), .t (.s (.string ByteArray.empty)), .t (.s (.slice none 0 0)), .t (.s (.slice none 0 0))]), (3, .row 0 9 1 (eStr_c y3)), (4, .row 0 3 1 (eInt_c y4))]⟩) ?_ ?_
  · skip
    refine Run.seq ?_
    refine Run.region hL hT [] (by cbv) ?_ ?_
    · exact (hq trivial hq0)
    rw [show ln (eInt_c a0v_Show) = lenI_Int a0v_Show from ln_eq Int_c _]
    refine Run.block ?_
    refine Run.loop3 (fun (z26 : List ByteArray) (z27 : List Int) (z28 : Int) => ⟨55, 100000, [(2, .t (.s (.int .i64 a2))), (3, .pt 1 0 0), (4, .pt 2 0 0), (6, .pt 3 0 0), (7, .rf 4), (8, .rf 5), (16, .t (.im false (eInt_c a0v_Show))), (17, .t (.s (.int .i64 (lenI_Int a0v_Show)))), (18, .t (.s (.int .i64 z28)))], [(1, .box 27 [.t (.s (.int .i64 a0v_Table)), .t (.im false (eCond_c a0v_Where)), .t (.s (.int .i64 a0v_Order)), .t (.s (.bool a0v_Down)), .t (.s (.int .i64 a0v_First)), .t (.im false (eInt_c a0v_Show)), .t (.s (.bool a0v_Kids)), .t (.s (.int .i64 a0v_KidTable)), .t (.s (.int .i64 a0v_KidCol))]), (2, .box 41 [.t (.s (.int .i64 a1v_Id)), .t (.im false (eInt_c a1v_Cells))]), (3, .box 34 [.t (.s (.int .i64 0)), .t (.s (.int .i64 0)), .t (.s (.string ByteArray.empty)), .t (.s (.slice none 0 0)), .t (.s (.slice none 0 0))]), (4, .row 0 9 1 (eStr_c z26)), (5, .row 0 3 1 (eInt_c z27))]⟩) (x0 := l1) (x1 := l2) (x2 := 0) h (Weak.of _ [(1, 0), (2, 1), (3, 2), (4, 4096), (5, 4099)] hA (by cbv) ?_) (fun _ _ _ => rfl) ?_
    · repeat (first | exact hq0 | refine hq (by first | exact True.intro | rfl) ?_)
    · intro k z26 z27 z28 h
      rw [impl_RowDoc.l0] at h
      refine Run.seq ?_
      refine Run.region hL hT [] (by cbv) ?_ ?_
      · exact (hq trivial hq0)
      refine Run.seq ?_
      refine Run.cond (by cbv) (hq0) (fun c29 => ?_) (fun c29 => ?_)
      · have h := if_t c29 h
        refine Run.skip ?_
        refine Run.seq ?_
        refine Run.block ?_
        refine Run.seq ?_
        obtain ⟨x30, h_x30, h⟩ := bnd h
        refine Run.region hL hT [(1, .el [.s (.int .i64 x30)])] (by cbv) ?_ ?_
        · exact (hq (get_le h_x30) (hq (get_lt (f := Int_c) h_x30) (hq (get_ge (f := Int_c) h_x30) hq0)))
        refine Run.seq ?_
        refine Run.seq ?_
        obtain ⟨l31, h_l31, h⟩ := bnd h
        obtain ⟨r32, h_r32, h⟩ := bnd h
        refine Run.region hL hT [(5, .call [false, false] [.v (.jk), .v (.jk)] [.v (.s (.bool r32))])] (by cbv) ?_ ?_
        · exact (hq trivial (hq (cut_0 h_l31) (hq (cut_1 h_l31) (hq (cut_2 (f := Int_c) h_l31) (hq (al_row Int_c_n _) (hq (hC (AC.args (slices_Contains_int_ac h_r32) (ALe.v (LLe.im (RLe.eq (cut_sr Int_c h_l31))) (ALe.v LLe.r ALe.nil)))) hq0))))))
        rw [show sr (eInt_c a0v_Show) 0 z28 = eInt_c l31 from cut_sr Int_c h_l31]
        refine Run.cond (by cbv) (hq0) (fun c33 => ?_) (fun c33 => ?_)
        · have h := if_t c33 h
          refine Run.exit ?_
          refine Run.region hL hT [] (by cbv) ?_ ?_
          · exact (hq trivial hq0)
          refine ⟨z26, z27, (ar .add .i64 z28 1), h, Weak.of _ [(1, 1), (2, 2), (3, 3), (4, 4), (5, 5)] hA (by cbv) ?_⟩
          repeat (first | exact hq0 | refine hq (by first | exact True.intro | rfl) ?_)
        · have h := if_f c33 h
          refine Run.skip ?_
          refine Run.seq ?_
          obtain ⟨r34, h_r34, h⟩ := bnd h
          obtain ⟨u35, h_u35, h⟩ := bnd h
          obtain ⟨l36, h_l36, h⟩ := bnd h
          obtain ⟨l37, h_l37, h⟩ := bnd h
          refine Run.region hL hT [(2, .call [false] [.v (.jk)] [.v (.s (.string r34))])] (by cbv) ?_ ?_
          · exact (hq (hC (impl_digits_ac h_r34)) (hq (sm_t h_u35) (hq (app_mb (P := Tryd.prog) (f := Str_c) RLe.r (some_le (f := Str_c) h_l36 (RLe.cons rfl LLe.r RLe.nil)) h_l37) hq0)))
          refine Run.row (rows := (ap (eStr_c z26) ([[.s (.string (sa (ByteArray.mk #[99]) r34))]]))) 112293 (eStr_c l37) (by cbv) (app_le (f := Str_c) RLe.r (some_le (f := Str_c) h_l36 (RLe.cons rfl LLe.r RLe.nil)) h_l37) ?_
          obtain ⟨r38, h_r38, h⟩ := bnd h
          obtain ⟨l39, h_l39, h⟩ := bnd h
          obtain ⟨l40, h_l40, h⟩ := bnd h
          refine Run.region hL hT [(3, .call [false, false] [.ag [.jk, .jk], .v (.jk)] [.v (.s (.int .i64 r38))])] (by cbv) ?_ ?_
          · exact (hq trivial (hq (hC (impl_cellOf_ac h_r38)) (hq (app_mb (P := Tryd.prog) (f := Int_c) RLe.r (some_le (f := Int_c) h_l39 (RLe.cons rfl LLe.r RLe.nil)) h_l40) hq0)))
          refine Run.row (rows := (ap (eInt_c z27) ([[.s (.int .i64 r38)]]))) 116389 (eInt_c l40) (by cbv) (app_le (f := Int_c) RLe.r (some_le (f := Int_c) h_l39 (RLe.cons rfl LLe.r RLe.nil)) h_l40) ?_
          refine Run.region hL hT [] (by cbv) ?_ ?_
          · exact (hq trivial hq0)
          refine ⟨l37, l40, (ar .add .i64 z28 1), h, Weak.of _ [(1, 1), (2, 2), (3, 3), (4, 112293), (5, 116389)] hA (by cbv) ?_⟩
          repeat (first | exact hq0 | refine hq (by first | exact True.intro | rfl) ?_)
      · have h := if_f c29 h
        refine Run.exit ?_
        refine ⟨z26, z27, h, Weak.of _ [(1, 1), (2, 3), (3, 4), (4, 5)] hA (by cbv) ?_⟩
        repeat (first | exact hq0 | refine hq (by first | exact True.intro | rfl) ?_)
  · intro y3 y4 h
    rw [h_K5] at h
    obtain ⟨K43, h_K43, h⟩ := joinE h
    refine Run.join2 K43 (r := r) (fun (y41 : List ByteArray) (y42 : List Int) => ⟨55, 100000, [(6, .pt 1 0 0), (7, .rf 2), (8, .rf 3)], [(1, .box 34 [.t (.s (.int .i64 0)), .t (.s (.int .i64 0)), .t (.s (.string ByteArray.empty)), .t (.s (.slice none 0 0)), .t (.s (.slice none 0 0))]), (2, .row 0 9 1 (eStr_c y41)), (3, .row 0 3 1 (eInt_c y42))]⟩) ?_ ?_
    · skip
      refine Run.seq ?_
      refine Run.region hL hT [] (by cbv) ?_ ?_
      · exact (hq trivial hq0)
      refine Run.cond (by cbv) (hq0) (fun c44 => ?_) (fun c44 => ?_)
      · have h := if_t c44 h
        refine Run.seq ?_
        obtain ⟨l45, h_l45, h⟩ := bnd h
        obtain ⟨l46, h_l46, h⟩ := bnd h
        refine Run.region hL hT [] (by cbv) ?_ ?_
        · exact (hq (app_mb (P := Tryd.prog) (f := Str_c) RLe.r (some_le (f := Str_c) h_l45 (RLe.cons rfl LLe.r RLe.nil)) h_l46) hq0)
        refine Run.row (rows := (ap (eStr_c y3) ([[.s (.string (ByteArray.mk #[107, 105, 100, 115]))]]))) 104098 (eStr_c l46) (by cbv) (app_le (f := Str_c) RLe.r (some_le (f := Str_c) h_l45 (RLe.cons rfl LLe.r RLe.nil)) h_l46) ?_
        obtain ⟨l47, h_l47, h⟩ := bnd h
        obtain ⟨l48, h_l48, h⟩ := bnd h
        refine Run.region hL hT [] (by cbv) ?_ ?_
        · exact (hq (app_mb (P := Tryd.prog) (f := Int_c) RLe.r (some_le (f := Int_c) h_l47 (RLe.cons rfl LLe.r RLe.nil)) h_l48) hq0)
        refine ⟨l46, l48, h, (Weak.row (rows := (ap (eInt_c y4) ([[.s (.int .i64 a2)]]))) 108195 (eInt_c l48) (by cbv) (app_le (f := Int_c) RLe.r (some_le (f := Int_c) h_l47 (RLe.cons rfl LLe.r RLe.nil)) h_l48)).trans (Weak.of _ [(1, 2), (2, 104098), (3, 108195)] hA (by cbv) ?_)⟩
        repeat (first | exact hq0 | refine hq (by first | exact True.intro | rfl) ?_)
      · have h := if_f c44 h
        refine Run.skip ?_
        refine ⟨y3, y4, h, Weak.of _ [(1, 2), (2, 3), (3, 4)] hA (by cbv) ?_⟩
        repeat (first | exact hq0 | refine hq (by first | exact True.intro | rfl) ?_)
    · intro y41 y42 h
      rw [h_K43] at h
      refine Run.seq ?_
      obtain ⟨⟨r49v_Kind, r49v_N, r49v_S, r49v_List_, r49v_Names⟩, h_r49, h⟩ := bnd h
      obtain ⟨⟨r50v_Kind, r50v_N, r50v_S, r50v_List_, r50v_Names⟩, h_r50, h⟩ := bnd h
      refine Run.region hL hT [(2, .call [false, false] [.v (.jk), .v (.jk)] [.ag [.s (.int .i64 r49v_Kind), .s (.int .i64 r49v_N), .s (.string r49v_S), .ow 34 (eJson_o r49v_List_), .ow 9 (eStr_c r49v_Names)]]), (3, .call [true] [.ag [.jk, .jk, .jk, .jk, .jk]] [.ag [.s (.int .i64 r50v_Kind), .s (.int .i64 r50v_N), .s (.string r50v_S), .ow 34 (eJson_o r50v_List_), .ow 9 (eStr_c r50v_Names)]])] (by cbv) ?_ ?_
      · exact (hq (hC (AC.args (impl_objOf_ac h_r49) (ALe.v (LLe.im (RLe.eq (fr_row Str_c_z _))) (ALe.v (LLe.im (RLe.eq (fr_row Int_c_z _))) ALe.nil)))) (hq (hC (impl_orNull_ac h_r50)) (hq trivial hq0)))
      refine Run.ret ?_
      cases h
      refine ⟨_, _, by cbv, ?_, ?_⟩
      · exact LLe.r
      · exact (ALe.ag rfl LLe.r ALe.nil)

set_option maxRecDepth 8000 in
theorem laws_big_ac {a0 : List Int} {r : Bool} (h : laws_big.f a0 = some r) : AC Tryd.prog 5 [.v (.im false (rowsOf u8_c a0))] [.v (.jk)] [.v (.s (.bool r))] := by
  unfold laws_big.f at h
  let ar := Ls.ar; let cm := Ls.cm; let bo := Ls.bo; let sc := Ls.sc; let sa := Ls.sa; let sx := Ls.sx; let ss := Ls.ss; let sl := Ls.sl; let bs := Ls.bs; let sb := Ls.sb; let ln := Ls.ln; let sr := Ls.sr; let ap := Ls.ap; let up := Ls.up; let rp := Ls.rp; let fr := Ls.fr; let ge := Ls.ge; let le := Ls.le; let lt := Ls.lt; let nz := Ls.nz; let mm := Ls.mm; let ma := Ls.ma; let sm := Ls.sm; let fl := Ls.fl; let al := Ls.al; let ci := Ls.ci
  let eu8_c := rowsOf u8_c
  let lenI_u8 := @lenI Int
  have hL : (⟨ar, cm, bo, sc, sa, sx, ss, sl, bs, sb, ln, sr, ap, up, rp, fr, ge, le, lt, nz, mm, ma, sm, fl, al, ci⟩ : Lf) = Ls := rfl
  show AC Tryd.prog 5 [.v (.im false (eu8_c a0))] _ _
  refine AC.of_run2 tab_ok Tryd.func5 (by rfl) (by rfl) (by cbv) ⟨by decide, rfl⟩ fun F hP hA => ?_
  have hT : TabOk F.P tab := hP ▸ tab_ok
  have hM : F.P.follows .mixedOrders = true := hP ▸ mixed
  have hC : ∀ {f a o r}, AC Tryd.prog f a o r → AC F.P f a o r := fun h => hP ▸ h
  refine Run.seq ?_
  refine Run.region hL hT [] (by cbv) ?_ ?_
  · exact hq0
  refine Run.seq ?_
  refine Run.region hL hT [] (by cbv) ?_ ?_
  · exact (hq trivial hq0)
  rw [show ln (eu8_c a0) = lenI_u8 a0 from ln_eq u8_c _]
  refine Run.ret ?_
  cases h
  refine ⟨_, _, by cbv, ?_, ?_⟩
  · exact LLe.r
  · exact (ALe.v LLe.r ALe.nil)

set_option maxRecDepth 8000 in
theorem spec_l1New_ac {a0 : List Int} {r : l1Cur} (h : spec_l1New.f a0 = some r) : AC Tryd.prog 21 [.v (.im true (rowsOf u8_c a0))] [.v (.jk)] [.v (.bx 85 [.im true (rowsOf u8_c r.b), .s (.int .i64 r.i), .s (.int .i64 r.h)])] := by
  unfold spec_l1New.f at h
  let ar := Ls.ar; let cm := Ls.cm; let bo := Ls.bo; let sc := Ls.sc; let sa := Ls.sa; let sx := Ls.sx; let ss := Ls.ss; let sl := Ls.sl; let bs := Ls.bs; let sb := Ls.sb; let ln := Ls.ln; let sr := Ls.sr; let ap := Ls.ap; let up := Ls.up; let rp := Ls.rp; let fr := Ls.fr; let ge := Ls.ge; let le := Ls.le; let lt := Ls.lt; let nz := Ls.nz; let mm := Ls.mm; let ma := Ls.ma; let sm := Ls.sm; let fl := Ls.fl; let al := Ls.al; let ci := Ls.ci
  let eu8_c := rowsOf u8_c
  let lenI_u8 := @lenI Int
  have hL : (⟨ar, cm, bo, sc, sa, sx, ss, sl, bs, sb, ln, sr, ap, up, rp, fr, ge, le, lt, nz, mm, ma, sm, fl, al, ci⟩ : Lf) = Ls := rfl
  show AC Tryd.prog 21 [.v (.im true (eu8_c a0))] _ _
  refine AC.of_run2 tab_ok Tryd.func21 (by rfl) (by rfl) (by cbv) ⟨by decide, rfl⟩ fun F hP hA => ?_
  have hT : TabOk F.P tab := hP ▸ tab_ok
  have hM : F.P.follows .mixedOrders = true := hP ▸ mixed
  have hC : ∀ {f a o r}, AC Tryd.prog f a o r → AC F.P f a o r := fun h => hP ▸ h
  refine Run.seq ?_
  refine Run.region hL hT [] (by cbv) ?_ ?_
  · exact hq0
  refine Run.seq ?_
  refine Run.region hL hT [] (by cbv) ?_ ?_
  · exact (hq trivial hq0)
  rw [show ln (eu8_c a0) = lenI_u8 a0 from ln_eq u8_c _]
  refine Run.seq ?_
  refine Run.seq ?_
  refine Run.region hL hT [] (by cbv) ?_ ?_
  · exact hq0
  refine Run.block ?_
  refine Run.loop2 (fun (z4 : Int) (z5 : Int) => ⟨32, 100000, [(0, .t (.im true (eu8_c a0))), (3, .t (.s (.int .i64 z4))), (4, .t (.s (.int .i64 z5)))], []⟩) (x0 := (ar .add .i64 17333 (lenI_u8 a0))) (x1 := 0) h (Weak.of _ [] hA (by cbv) ?_) (fun _ _ => rfl) ?_
  · repeat (first | exact hq0 | refine hq (by first | exact True.intro | rfl) ?_)
  · intro k z4 z5 h
    rw [spec_l1New.l0] at h
    refine Run.seq ?_
    refine Run.seq ?_
    refine Run.region hL hT [] (by cbv) ?_ ?_
    · exact (hq trivial (hq (fun _ => hq0) (hq (fun g7 => (by have g7C := g7; rw [show ln (eu8_c a0) = lenI_u8 a0 from ln_eq u8_c _] at g7C; exact (hq g7 (hq trivial hq0)))) (hq (fun q8 => (by have q8C := q8; rw [show ln (eu8_c a0) = lenI_u8 a0 from ln_eq u8_c _] at q8C; exact (hq q8 hq0))) (hq (fun _ => hq0) hq0)))))
    rw [show ln (eu8_c a0) = lenI_u8 a0 from ln_eq u8_c _]
    refine Run.cond (by cbv) (hq0) (fun c10 => ?_) (fun c10 => ?_)
    · have h := if_t c10 h
      refine Run.skip ?_
      refine Run.seq ?_
      refine Run.block ?_
      obtain ⟨x11, h_x11, h⟩ := bnd h
      refine Run.region hL hT [(4, .el [.s (.int .u8 x11)])] (by cbv) ?_ ?_
      · exact (hq trivial (hq (get_le h_x11) (hq (get_lt (f := u8_c) h_x11) (hq (get_ge (f := u8_c) h_x11) (hq trivial (hq trivial (hq trivial hq0)))))))
      refine Run.region hL hT [] (by cbv) ?_ ?_
      · exact (hq trivial hq0)
      refine ⟨(ar .and .i64 (ar .add .i64 (ar .add .i64 (ar .mul .i64 z4 131) (ar .or .i64 x11 0)) 7) 1073741823), (ar .add .i64 z5 1), h, Weak.of _ [] hA (by cbv) ?_⟩
      repeat (first | exact hq0 | refine hq (by first | exact True.intro | rfl) ?_)
    · have h := if_f c10 h
      refine Run.exit ?_
      refine Run.seq ?_
      refine Run.region hL hT [] (by cbv) ?_ ?_
      · exact hq0
      refine Run.ret ?_
      cases h
      refine ⟨_, _, by cbv, ?_, ?_⟩
      · exact LLe.r
      · exact (ALe.v LLe.r ALe.nil)

set_option maxRecDepth 8000 in
theorem spec_l1Byte_ac {a0v_b : List Int} {a0v_i : Int} {a0v_h : Int} {r : l1Cur × Int} (h : spec_l1Byte.f (l1Cur.mk a0v_b a0v_i a0v_h) = some r) : AC Tryd.prog 55 [.v (.bx 85 [.im true (rowsOf u8_c a0v_b), .s (.int .i64 a0v_i), .s (.int .i64 a0v_h)])] [.v (.bx 85 [.im true (rowsOf u8_c a0v_b), .s (.int .i64 r.1.i), .s (.int .i64 r.1.h)])] [.v (.s (.int .i64 r.2))] := by
  unfold spec_l1Byte.f at h
  let ar := Ls.ar; let cm := Ls.cm; let bo := Ls.bo; let sc := Ls.sc; let sa := Ls.sa; let sx := Ls.sx; let ss := Ls.ss; let sl := Ls.sl; let bs := Ls.bs; let sb := Ls.sb; let ln := Ls.ln; let sr := Ls.sr; let ap := Ls.ap; let up := Ls.up; let rp := Ls.rp; let fr := Ls.fr; let ge := Ls.ge; let le := Ls.le; let lt := Ls.lt; let nz := Ls.nz; let mm := Ls.mm; let ma := Ls.ma; let sm := Ls.sm; let fl := Ls.fl; let al := Ls.al; let ci := Ls.ci
  let eu8_c := rowsOf u8_c
  let lenI_u8 := @lenI Int
  have hL : (⟨ar, cm, bo, sc, sa, sx, ss, sl, bs, sb, ln, sr, ap, up, rp, fr, ge, le, lt, nz, mm, ma, sm, fl, al, ci⟩ : Lf) = Ls := rfl
  show AC Tryd.prog 55 [.v (.bx 85 [.im true (eu8_c a0v_b), .s (.int .i64 a0v_i), .s (.int .i64 a0v_h)])] _ _
  refine AC.of_run2 tab_ok Tryd.func55 (by rfl) (by rfl) (by cbv) ⟨by decide, rfl⟩ fun F hP hA => ?_
  have hT : TabOk F.P tab := hP ▸ tab_ok
  have hM : F.P.follows .mixedOrders = true := hP ▸ mixed
  have hC : ∀ {f a o r}, AC Tryd.prog f a o r → AC F.P f a o r := fun h => hP ▸ h
  refine Run.seq ?_
  refine Run.region hL hT [] (by cbv) ?_ ?_
  · exact hq0
  refine Run.seq ?_
  refine Run.region hL hT [] (by cbv) ?_ ?_
  · exact (hq trivial (hq trivial (hq trivial (hq trivial hq0))))
  refine Run.seq ?_
  refine Run.draw hL hT hM [] (by cbv) (by cbv) (by cbv) (by cbv) (by cbv) ?_ ?_
  · exact (hq trivial (hq trivial (hq trivial (hq (by decide : (0 : Int) ≤ 33) (hq (by decide : (33 : Int) < 64) (hq trivial (hq trivial (hq trivial (hq (by decide : (0 : Int) ≤ 45) (hq (by decide : (45 : Int) < 64) (hq trivial (hq trivial hq0))))))))))))
  refine Run.seq ?_
  refine Run.seq ?_
  refine Run.draw hL hT hM [] (by cbv) (by cbv) (by cbv) (by cbv) (by cbv) ?_ ?_
  · exact (hq trivial (hq trivial (hq trivial hq0)))
  rw [show ln (eu8_c a0v_b) = lenI_u8 a0v_b from ln_eq u8_c _]
  refine Run.cond (by cbv) (hq0) (fun c1 => ?_) (fun c1 => ?_)
  · have h := if_t c1 h
    refine Run.seq ?_
    obtain ⟨x2, h_x2, h⟩ := bnd h
    refine Run.draw hL hT hM [(9, .el [.s (.int .u8 x2)])] (by cbv) (by cbv) (by cbv) (by cbv) (by cbv) ?_ ?_
    · exact (hq trivial (hq trivial (hq (get_le h_x2) (hq (get_lt (f := u8_c) h_x2) (hq (get_ge (f := u8_c) h_x2) (hq trivial (hq trivial hq0)))))))
    refine Run.region hL hT [] (by cbv) ?_ ?_
    · exact (hq trivial (hq trivial (hq trivial hq0)))
    refine Run.seq ?_
    refine Run.region hL hT [] (by cbv) ?_ ?_
    · exact hq0
    refine Run.ret ?_
    cases h
    refine ⟨_, _, by cbv, ?_, ?_⟩
    · exact LLe.r
    · exact (ALe.v LLe.r ALe.nil)
  · have h := if_f c1 h
    refine Run.skip ?_
    refine Run.seq ?_
    refine Run.region hL hT [] (by cbv) ?_ ?_
    · exact hq0
    refine Run.ret ?_
    cases h
    refine ⟨_, _, by cbv, ?_, ?_⟩
    · exact LLe.r
    · exact (ALe.v LLe.r ALe.nil)

set_option maxRecDepth 8000 in
theorem spec_l1Below_ac {a0v_b : List Int} {a0v_i : Int} {a0v_h : Int} {a1 : Int} {r : l1Cur × Int} (h : spec_l1Below.f (l1Cur.mk a0v_b a0v_i a0v_h) a1 = some r) : AC Tryd.prog 25 [.v (.bx 85 [.im true (rowsOf u8_c a0v_b), .s (.int .i64 a0v_i), .s (.int .i64 a0v_h)]), .v (.s (.int .i64 a1))] [.v (.bx 85 [.im true (rowsOf u8_c a0v_b), .s (.int .i64 r.1.i), .s (.int .i64 r.1.h)]), .v (.jk)] [.v (.s (.int .i64 r.2))] := by
  unfold spec_l1Below.f at h
  let ar := Ls.ar; let cm := Ls.cm; let bo := Ls.bo; let sc := Ls.sc; let sa := Ls.sa; let sx := Ls.sx; let ss := Ls.ss; let sl := Ls.sl; let bs := Ls.bs; let sb := Ls.sb; let ln := Ls.ln; let sr := Ls.sr; let ap := Ls.ap; let up := Ls.up; let rp := Ls.rp; let fr := Ls.fr; let ge := Ls.ge; let le := Ls.le; let lt := Ls.lt; let nz := Ls.nz; let mm := Ls.mm; let ma := Ls.ma; let sm := Ls.sm; let fl := Ls.fl; let al := Ls.al; let ci := Ls.ci
  let eu8_c := rowsOf u8_c
  have hL : (⟨ar, cm, bo, sc, sa, sx, ss, sl, bs, sb, ln, sr, ap, up, rp, fr, ge, le, lt, nz, mm, ma, sm, fl, al, ci⟩ : Lf) = Ls := rfl
  show AC Tryd.prog 25 [.v (.bx 85 [.im true (eu8_c a0v_b), .s (.int .i64 a0v_i), .s (.int .i64 a0v_h)]), .v (.s (.int .i64 a1))] _ _
  refine AC.of_run2 tab_ok Tryd.func25 (by rfl) (by rfl) (by cbv) ⟨by decide, rfl⟩ fun F hP hA => ?_
  have hT : TabOk F.P tab := hP ▸ tab_ok
  have hM : F.P.follows .mixedOrders = true := hP ▸ mixed
  have hC : ∀ {f a o r}, AC Tryd.prog f a o r → AC F.P f a o r := fun h => hP ▸ h
  refine Run.seq ?_
  refine Run.region hL hT [] (by cbv) ?_ ?_
  · exact hq0
  refine Run.seq ?_
  refine Run.seq ?_
  refine Run.region hL hT [] (by cbv) ?_ ?_
  · exact (hq trivial hq0)
  refine Run.cond (by cbv) (hq0) (fun c1 => ?_) (fun c1 => ?_)
  · have h := if_t c1 h
    refine Run.seq ?_
    refine Run.region hL hT [] (by cbv) ?_ ?_
    · exact hq0
    refine Run.ret ?_
    cases h
    refine ⟨_, _, by cbv, ?_, ?_⟩
    · exact LLe.r
    · exact (ALe.v LLe.r ALe.nil)
  · have h := if_f c1 h
    refine Run.skip ?_
    refine Run.seq ?_
    refine Run.seq ?_
    refine Run.region hL hT [] (by cbv) ?_ ?_
    · exact (hq trivial hq0)
    refine Run.cond (by cbv) (hq0) (fun c2 => ?_) (fun c2 => ?_)
    · have h := if_t c2 h
      refine Run.seq ?_
      obtain ⟨⟨⟨r3v_1v_b, r3v_1v_i, r3v_1v_h⟩, r3v_2⟩, h_r3, h⟩ := bnd h
      obtain ⟨u4, h_u4, h⟩ := bnd h
      refine Run.region hL hT [(1, .call [true] [.v (.bx 85 [.im true (eu8_c a0v_b), .s (.int .i64 r3v_1v_i), .s (.int .i64 r3v_1v_h)])] [.v (.s (.int .i64 r3v_2))])] (by cbv) ?_ ?_
      · exact (hq (hC (spec_l1Byte_ac h_r3)) (hq trivial (hq (nz_t h_u4) hq0)))
      refine Run.ret ?_
      cases h
      refine ⟨_, _, by cbv, ?_, ?_⟩
      · exact LLe.r
      · exact (ALe.v LLe.r ALe.nil)
    · have h := if_f c2 h
      refine Run.skip ?_
      refine Run.seq ?_
      obtain ⟨⟨⟨r5v_1v_b, r5v_1v_i, r5v_1v_h⟩, r5v_2⟩, h_r5, h⟩ := bnd h
      refine Run.region hL hT [(1, .call [true] [.v (.bx 85 [.im true (eu8_c a0v_b), .s (.int .i64 r5v_1v_i), .s (.int .i64 r5v_1v_h)])] [.v (.s (.int .i64 r5v_2))])] (by cbv) ?_ ?_
      · exact (hq (hC (spec_l1Byte_ac h_r5)) hq0)
      refine Run.seq ?_
      obtain ⟨⟨⟨r6v_1v_b, r6v_1v_i, r6v_1v_h⟩, r6v_2⟩, h_r6, h⟩ := bnd h
      refine Run.region hL hT [(1, .call [true] [.v (.bx 85 [.im true (eu8_c a0v_b), .s (.int .i64 r6v_1v_i), .s (.int .i64 r6v_1v_h)])] [.v (.s (.int .i64 r6v_2))])] (by cbv) ?_ ?_
      · exact (hq (hC (spec_l1Byte_ac h_r6)) hq0)
      refine Run.seq ?_
      obtain ⟨⟨⟨r7v_1v_b, r7v_1v_i, r7v_1v_h⟩, r7v_2⟩, h_r7, h⟩ := bnd h
      refine Run.region hL hT [(1, .call [true] [.v (.bx 85 [.im true (eu8_c a0v_b), .s (.int .i64 r7v_1v_i), .s (.int .i64 r7v_1v_h)])] [.v (.s (.int .i64 r7v_2))])] (by cbv) ?_ ?_
      · exact (hq (hC (spec_l1Byte_ac h_r7)) hq0)
      refine Run.seq ?_
      obtain ⟨⟨⟨r8v_1v_b, r8v_1v_i, r8v_1v_h⟩, r8v_2⟩, h_r8, h⟩ := bnd h
      refine Run.region hL hT [(1, .call [true] [.v (.bx 85 [.im true (eu8_c a0v_b), .s (.int .i64 r8v_1v_i), .s (.int .i64 r8v_1v_h)])] [.v (.s (.int .i64 r8v_2))])] (by cbv) ?_ ?_
      · exact (hq (hC (spec_l1Byte_ac h_r8)) hq0)
      refine Run.seq ?_
      obtain ⟨u9, h_u9, h⟩ := bnd h
      refine Run.region hL hT [] (by cbv) ?_ ?_
      · exact (hq trivial (hq trivial (hq trivial (hq trivial (hq trivial (hq trivial (hq trivial (hq (nz_t h_u9) hq0))))))))
      refine Run.ret ?_
      cases h
      refine ⟨_, _, by cbv, ?_, ?_⟩
      · exact LLe.r
      · exact (ALe.v LLe.r ALe.nil)

set_option maxRecDepth 8000 in
theorem spec_l6DrawSchema_ac {a0v_b : List Int} {a0v_i : Int} {a0v_h : Int} {r : l1Cur × Schema} (h : spec_l6DrawSchema.f (l1Cur.mk a0v_b a0v_i a0v_h) = some r) : AC Tryd.prog 22 [.v (.bx 85 [.im true (rowsOf u8_c a0v_b), .s (.int .i64 a0v_i), .s (.int .i64 a0v_h)])] [.v (.bx 85 [.im true (rowsOf u8_c a0v_b), .s (.int .i64 r.1.i), .s (.int .i64 r.1.h)])] [.ag [.ow 3 (rowsOf Int_c r.2.Cols)]] := by
  unfold spec_l6DrawSchema.f at h
  let ar := Ls.ar; let cm := Ls.cm; let bo := Ls.bo; let sc := Ls.sc; let sa := Ls.sa; let sx := Ls.sx; let ss := Ls.ss; let sl := Ls.sl; let bs := Ls.bs; let sb := Ls.sb; let ln := Ls.ln; let sr := Ls.sr; let ap := Ls.ap; let up := Ls.up; let rp := Ls.rp; let fr := Ls.fr; let ge := Ls.ge; let le := Ls.le; let lt := Ls.lt; let nz := Ls.nz; let mm := Ls.mm; let ma := Ls.ma; let sm := Ls.sm; let fl := Ls.fl; let al := Ls.al; let ci := Ls.ci
  let eInt_c := rowsOf Int_c
  let eu8_c := rowsOf u8_c
  have hL : (⟨ar, cm, bo, sc, sa, sx, ss, sl, bs, sb, ln, sr, ap, up, rp, fr, ge, le, lt, nz, mm, ma, sm, fl, al, ci⟩ : Lf) = Ls := rfl
  show AC Tryd.prog 22 [.v (.bx 85 [.im true (eu8_c a0v_b), .s (.int .i64 a0v_i), .s (.int .i64 a0v_h)])] _ _
  refine AC.of_run2 tab_ok Tryd.func22 (by rfl) (by rfl) (by cbv) ⟨by decide, rfl⟩ fun F hP hA => ?_
  have hT : TabOk F.P tab := hP ▸ tab_ok
  have hM : F.P.follows .mixedOrders = true := hP ▸ mixed
  have hC : ∀ {f a o r}, AC Tryd.prog f a o r → AC F.P f a o r := fun h => hP ▸ h
  refine Run.seq ?_
  refine Run.region hL hT [] (by cbv) ?_ ?_
  · exact hq0
  refine Run.seq ?_
  refine Run.region hL hT [] (by cbv) ?_ ?_
  · exact (hq trivial hq0)
  refine Run.seq ?_
  refine Run.seq ?_
  refine Run.region hL hT [] (by cbv) ?_ ?_
  · exact hq0
  refine Run.block ?_
  refine Run.loop4 (fun (z10 : Int) (z11 : Int) (z12 : List Int) (z13 : Int) => ⟨22, 100000, [(0, .pt 0 0 0), (2, .pt 1 0 0), (3, .pt 2 0 0), (4, .t (.s (.int .i64 z13)))], [(0, .box 85 [.t (.im true (eu8_c a0v_b)), .t (.s (.int .i64 z10)), .t (.s (.int .i64 z11))]), (1, .box 43 [.t (.s (.slice none 0 0))]), (2, .box 43 [.rf 3]), (3, .row 0 3 1 (eInt_c z12))]⟩) (x0 := a0v_i) (x1 := a0v_h) (x2 := []) (x3 := 0) h ((Weak.nilB (l := []) hT 4098 0 13289 3 rfl (by cbv) (by cbv) (by cbv)).trans (Weak.of _ [(0, 0), (1, 1), (2, 4098), (3, 13289)] hA (by cbv) ?_)) (fun _ _ _ _ => rfl) ?_
  · repeat (first | exact hq0 | refine hq (by first | exact True.intro | rfl) ?_)
  · intro k z10 z11 z12 z13 h
    rw [spec_l6DrawSchema.l0] at h
    refine Run.seq ?_
    refine Run.seq ?_
    obtain ⟨⟨⟨r14v_1v_b, r14v_1v_i, r14v_1v_h⟩, r14v_2⟩, h_r14, h⟩ := bnd h
    refine Run.region hL hT [(2, .call [true, false] [.v (.bx 85 [.im true (eu8_c a0v_b), .s (.int .i64 r14v_1v_i), .s (.int .i64 r14v_1v_h)]), .v (.jk)] [.v (.s (.int .i64 r14v_2))])] (by cbv) ?_ ?_
    · exact (hq (hC (spec_l1Below_ac h_r14)) (hq trivial (hq trivial hq0)))
    refine Run.cond (by cbv) (hq0) (fun c15 => ?_) (fun c15 => ?_)
    · have h := if_t c15 h
      refine Run.skip ?_
      refine Run.seq ?_
      refine Run.block ?_
      obtain ⟨⟨⟨r16v_1v_b, r16v_1v_i, r16v_1v_h⟩, r16v_2⟩, h_r16, h⟩ := bnd h
      obtain ⟨l17, h_l17, h⟩ := bnd h
      obtain ⟨l18, h_l18, h⟩ := bnd h
      refine Run.draw hL hT hM [(3, .call [true, false] [.v (.bx 85 [.im true (eu8_c a0v_b), .s (.int .i64 r16v_1v_i), .s (.int .i64 r16v_1v_h)]), .v (.jk)] [.v (.s (.int .i64 r16v_2))])] (by cbv) (by cbv) (by cbv) (by cbv) (by cbv) ?_ ?_
      · exact (hq trivial (hq (hC (spec_l1Below_ac h_r16)) (hq trivial (hq (app_mb (P := Tryd.prog) (f := Int_c) RLe.r (some_le (f := Int_c) h_l17 (RLe.cons rfl LLe.r RLe.nil)) h_l18) (hq trivial hq0)))))
      refine Run.row (rows := (ap (eInt_c z12) ([[.s (.int .i64 (ar .add .i64 1 r16v_2))]]))) 104102 (eInt_c l18) (by cbv) (app_le (f := Int_c) RLe.r (some_le (f := Int_c) h_l17 (RLe.cons rfl LLe.r RLe.nil)) h_l18) ?_
      refine Run.region hL hT [] (by cbv) ?_ ?_
      · exact (hq trivial hq0)
      refine ⟨r16v_1v_i, r16v_1v_h, l18, (ar .add .i64 z13 1), h, Weak.of _ [(0, 0), (1, 1), (2, 2), (3, 104102)] hA (by cbv) ?_⟩
      repeat (first | exact hq0 | refine hq (by first | exact True.intro | rfl) ?_)
    · have h := if_f c15 h
      refine Run.exit ?_
      refine Run.seq ?_
      refine Run.region hL hT [] (by cbv) ?_ ?_
      · exact (hq trivial (hq trivial hq0))
      refine Run.ret ?_
      cases h
      refine ⟨_, _, by cbv, ?_, ?_⟩
      · exact LLe.r
      · exact (ALe.ag rfl LLe.r ALe.nil)

set_option maxRecDepth 8000 in
theorem spec_l1PickInt_ac {a0v_b : List Int} {a0v_i : Int} {a0v_h : Int} {a1 : List Int} {r : l1Cur × Int} (h : spec_l1PickInt.f (l1Cur.mk a0v_b a0v_i a0v_h) a1 = some r) : AC Tryd.prog 49 [.v (.bx 85 [.im true (rowsOf u8_c a0v_b), .s (.int .i64 a0v_i), .s (.int .i64 a0v_h)]), .v (.im false (rowsOf Int_c a1))] [.v (.bx 85 [.im true (rowsOf u8_c a0v_b), .s (.int .i64 r.1.i), .s (.int .i64 r.1.h)]), .v (.jk)] [.v (.s (.int .i64 r.2))] := by
  unfold spec_l1PickInt.f at h
  let ar := Ls.ar; let cm := Ls.cm; let bo := Ls.bo; let sc := Ls.sc; let sa := Ls.sa; let sx := Ls.sx; let ss := Ls.ss; let sl := Ls.sl; let bs := Ls.bs; let sb := Ls.sb; let ln := Ls.ln; let sr := Ls.sr; let ap := Ls.ap; let up := Ls.up; let rp := Ls.rp; let fr := Ls.fr; let ge := Ls.ge; let le := Ls.le; let lt := Ls.lt; let nz := Ls.nz; let mm := Ls.mm; let ma := Ls.ma; let sm := Ls.sm; let fl := Ls.fl; let al := Ls.al; let ci := Ls.ci
  let eInt_c := rowsOf Int_c
  let eu8_c := rowsOf u8_c
  let lenI_Int := @lenI Int
  have hL : (⟨ar, cm, bo, sc, sa, sx, ss, sl, bs, sb, ln, sr, ap, up, rp, fr, ge, le, lt, nz, mm, ma, sm, fl, al, ci⟩ : Lf) = Ls := rfl
  show AC Tryd.prog 49 [.v (.bx 85 [.im true (eu8_c a0v_b), .s (.int .i64 a0v_i), .s (.int .i64 a0v_h)]), .v (.im false (eInt_c a1))] _ _
  refine AC.of_run2 tab_ok Tryd.func49 (by rfl) (by rfl) (by cbv) ⟨by decide, rfl⟩ fun F hP hA => ?_
  have hT : TabOk F.P tab := hP ▸ tab_ok
  have hM : F.P.follows .mixedOrders = true := hP ▸ mixed
  have hC : ∀ {f a o r}, AC Tryd.prog f a o r → AC F.P f a o r := fun h => hP ▸ h
  refine Run.seq ?_
  refine Run.region hL hT [] (by cbv) ?_ ?_
  · exact hq0
  refine Run.seq ?_
  obtain ⟨⟨⟨r1v_1v_b, r1v_1v_i, r1v_1v_h⟩, r1v_2⟩, h_r1, h⟩ := bnd h
  obtain ⟨x2, h_x2, h⟩ := bnd h
  refine Run.region hL hT [(4, .call [true, false] [.v (.bx 85 [.im true (eu8_c a0v_b), .s (.int .i64 r1v_1v_i), .s (.int .i64 r1v_1v_h)]), .v (.jk)] [.v (.s (.int .i64 r1v_2))]), (5, .el [.s (.int .i64 x2)])] (by cbv) ?_ ?_
  · exact (hq (by rw [show ln (eInt_c a1) = lenI_Int a1 from ln_eq Int_c _]; exact (hC (spec_l1Below_ac h_r1))) (hq (get_le h_x2) (hq (get_lt (f := Int_c) h_x2) (hq (get_ge (f := Int_c) h_x2) hq0))))
  rw [show ln (eInt_c a1) = lenI_Int a1 from ln_eq Int_c _]
  refine Run.ret ?_
  cases h
  refine ⟨_, _, by cbv, ?_, ?_⟩
  · exact LLe.r
  · exact (ALe.v LLe.r ALe.nil)

set_option maxRecDepth 8000 in
theorem spec_l1Once_ac {a0v_b : List Int} {a0v_i : Int} {a0v_h : Int} {a1 : Int} {r : l1Cur × Bool} (h : spec_l1Once.f (l1Cur.mk a0v_b a0v_i a0v_h) a1 = some r) : AC Tryd.prog 26 [.v (.bx 85 [.im true (rowsOf u8_c a0v_b), .s (.int .i64 a0v_i), .s (.int .i64 a0v_h)]), .v (.s (.int .i64 a1))] [.v (.bx 85 [.im true (rowsOf u8_c a0v_b), .s (.int .i64 r.1.i), .s (.int .i64 r.1.h)]), .v (.jk)] [.v (.s (.bool r.2))] := by
  unfold spec_l1Once.f at h
  let ar := Ls.ar; let cm := Ls.cm; let bo := Ls.bo; let sc := Ls.sc; let sa := Ls.sa; let sx := Ls.sx; let ss := Ls.ss; let sl := Ls.sl; let bs := Ls.bs; let sb := Ls.sb; let ln := Ls.ln; let sr := Ls.sr; let ap := Ls.ap; let up := Ls.up; let rp := Ls.rp; let fr := Ls.fr; let ge := Ls.ge; let le := Ls.le; let lt := Ls.lt; let nz := Ls.nz; let mm := Ls.mm; let ma := Ls.ma; let sm := Ls.sm; let fl := Ls.fl; let al := Ls.al; let ci := Ls.ci
  let eu8_c := rowsOf u8_c
  have hL : (⟨ar, cm, bo, sc, sa, sx, ss, sl, bs, sb, ln, sr, ap, up, rp, fr, ge, le, lt, nz, mm, ma, sm, fl, al, ci⟩ : Lf) = Ls := rfl
  show AC Tryd.prog 26 [.v (.bx 85 [.im true (eu8_c a0v_b), .s (.int .i64 a0v_i), .s (.int .i64 a0v_h)]), .v (.s (.int .i64 a1))] _ _
  refine AC.of_run2 tab_ok Tryd.func26 (by rfl) (by rfl) (by cbv) ⟨by decide, rfl⟩ fun F hP hA => ?_
  have hT : TabOk F.P tab := hP ▸ tab_ok
  have hM : F.P.follows .mixedOrders = true := hP ▸ mixed
  have hC : ∀ {f a o r}, AC Tryd.prog f a o r → AC F.P f a o r := fun h => hP ▸ h
  refine Run.seq ?_
  refine Run.region hL hT [] (by cbv) ?_ ?_
  · exact hq0
  refine Run.seq ?_
  obtain ⟨⟨⟨r1v_1v_b, r1v_1v_i, r1v_1v_h⟩, r1v_2⟩, h_r1, h⟩ := bnd h
  refine Run.region hL hT [(2, .call [true, false] [.v (.bx 85 [.im true (eu8_c a0v_b), .s (.int .i64 r1v_1v_i), .s (.int .i64 r1v_1v_h)]), .v (.jk)] [.v (.s (.int .i64 r1v_2))])] (by cbv) ?_ ?_
  · exact (hq (hC (spec_l1Below_ac h_r1)) (hq trivial hq0))
  refine Run.ret ?_
  cases h
  refine ⟨_, _, by cbv, ?_, ?_⟩
  · exact LLe.r
  · exact (ALe.v LLe.r ALe.nil)

set_option maxRecDepth 8000 in
theorem spec_l1Max_ac {a0 : Int} {a1 : Int} {r : Int} (h : spec_l1Max.f a0 a1 = some r) : AC Tryd.prog 58 [.v (.s (.int .i64 a0)), .v (.s (.int .i64 a1))] [.v (.jk), .v (.jk)] [.v (.s (.int .i64 r))] := by
  unfold spec_l1Max.f at h
  let ar := Ls.ar; let cm := Ls.cm; let bo := Ls.bo; let sc := Ls.sc; let sa := Ls.sa; let sx := Ls.sx; let ss := Ls.ss; let sl := Ls.sl; let bs := Ls.bs; let sb := Ls.sb; let ln := Ls.ln; let sr := Ls.sr; let ap := Ls.ap; let up := Ls.up; let rp := Ls.rp; let fr := Ls.fr; let ge := Ls.ge; let le := Ls.le; let lt := Ls.lt; let nz := Ls.nz; let mm := Ls.mm; let ma := Ls.ma; let sm := Ls.sm; let fl := Ls.fl; let al := Ls.al; let ci := Ls.ci
  have hL : (⟨ar, cm, bo, sc, sa, sx, ss, sl, bs, sb, ln, sr, ap, up, rp, fr, ge, le, lt, nz, mm, ma, sm, fl, al, ci⟩ : Lf) = Ls := rfl
  show AC Tryd.prog 58 [.v (.s (.int .i64 a0)), .v (.s (.int .i64 a1))] _ _
  refine AC.of_run2 tab_ok Tryd.func58 (by rfl) (by rfl) (by cbv) ⟨by decide, rfl⟩ fun F hP hA => ?_
  have hT : TabOk F.P tab := hP ▸ tab_ok
  have hM : F.P.follows .mixedOrders = true := hP ▸ mixed
  have hC : ∀ {f a o r}, AC Tryd.prog f a o r → AC F.P f a o r := fun h => hP ▸ h
  refine Run.seq ?_
  refine Run.region hL hT [] (by cbv) ?_ ?_
  · exact hq0
  refine Run.seq ?_
  refine Run.seq ?_
  refine Run.region hL hT [] (by cbv) ?_ ?_
  · exact (hq trivial hq0)
  refine Run.cond (by cbv) (hq0) (fun c1 => ?_) (fun c1 => ?_)
  · have h := if_t c1 h
    refine Run.seq ?_
    refine Run.region hL hT [] (by cbv) ?_ ?_
    · exact hq0
    refine Run.ret ?_
    cases h
    refine ⟨_, _, by cbv, ?_, ?_⟩
    · exact LLe.r
    · exact (ALe.v LLe.r ALe.nil)
  · have h := if_f c1 h
    refine Run.skip ?_
    refine Run.seq ?_
    refine Run.region hL hT [] (by cbv) ?_ ?_
    · exact hq0
    refine Run.ret ?_
    cases h
    refine ⟨_, _, by cbv, ?_, ?_⟩
    · exact LLe.r
    · exact (ALe.v LLe.r ALe.nil)

set_option maxRecDepth 8000 in
theorem spec_l9DrawRight_ac {a0v_b : List Int} {a0v_i : Int} {a0v_h : Int} {a1v_Cols : List Int} {r : l1Cur × Query} (h : spec_l9DrawRight.f (l1Cur.mk a0v_b a0v_i a0v_h) (Schema.mk a1v_Cols) = some r) : AC Tryd.prog 53 [.v (.bx 85 [.im true (rowsOf u8_c a0v_b), .s (.int .i64 a0v_i), .s (.int .i64 a0v_h)]), .ag [.im false (rowsOf Int_c a1v_Cols)]] [.v (.bx 85 [.im true (rowsOf u8_c a0v_b), .s (.int .i64 r.1.i), .s (.int .i64 r.1.h)]), .ag [.jk]] [.ag [.s (.int .i64 r.2.Table), .ow 83 (rowsOf Cond_c r.2.Where), .s (.int .i64 r.2.Order), .s (.bool r.2.Down), .s (.int .i64 r.2.First), .ow 3 (rowsOf Int_c r.2.Show), .s (.bool r.2.Kids), .s (.int .i64 r.2.KidTable), .s (.int .i64 r.2.KidCol)]] := by
  unfold spec_l9DrawRight.f at h
  let ar := Ls.ar; let cm := Ls.cm; let bo := Ls.bo; let sc := Ls.sc; let sa := Ls.sa; let sx := Ls.sx; let ss := Ls.ss; let sl := Ls.sl; let bs := Ls.bs; let sb := Ls.sb; let ln := Ls.ln; let sr := Ls.sr; let ap := Ls.ap; let up := Ls.up; let rp := Ls.rp; let fr := Ls.fr; let ge := Ls.ge; let le := Ls.le; let lt := Ls.lt; let nz := Ls.nz; let mm := Ls.mm; let ma := Ls.ma; let sm := Ls.sm; let fl := Ls.fl; let al := Ls.al; let ci := Ls.ci
  let eCond_c := rowsOf Cond_c
  let eInt_c := rowsOf Int_c
  let eu8_c := rowsOf u8_c
  let lenI_Int := @lenI Int
  have hL : (⟨ar, cm, bo, sc, sa, sx, ss, sl, bs, sb, ln, sr, ap, up, rp, fr, ge, le, lt, nz, mm, ma, sm, fl, al, ci⟩ : Lf) = Ls := rfl
  show AC Tryd.prog 53 [.v (.bx 85 [.im true (eu8_c a0v_b), .s (.int .i64 a0v_i), .s (.int .i64 a0v_h)]), .ag [.im false (eInt_c a1v_Cols)]] _ _
  refine AC.of_run2 tab_ok Tryd.func53 (by rfl) (by rfl) (by cbv) ⟨by decide, rfl⟩ fun F hP hA => ?_
  have hT : TabOk F.P tab := hP ▸ tab_ok
  have hM : F.P.follows .mixedOrders = true := hP ▸ mixed
  have hC : ∀ {f a o r}, AC Tryd.prog f a o r → AC F.P f a o r := fun h => hP ▸ h
  refine Run.seq ?_
  refine Run.region hL hT [] (by cbv) ?_ ?_
  · exact hq0
  refine Run.seq ?_
  obtain ⟨r1, h_r1, h⟩ := bnd h
  obtain ⟨⟨⟨r2v_1v_b, r2v_1v_i, r2v_1v_h⟩, r2v_2⟩, h_r2, h⟩ := bnd h
  refine Run.region hL hT [(4, .call [false, false] [.v (.jk), .v (.jk)] [.v (.s (.int .i64 r1))]), (5, .call [true, false] [.v (.bx 85 [.im true (eu8_c a0v_b), .s (.int .i64 r2v_1v_i), .s (.int .i64 r2v_1v_h)]), .v (.jk)] [.v (.s (.int .i64 r2v_2))])] (by cbv) ?_ ?_
  · exact (hq trivial (hq (by rw [show ln (eInt_c a1v_Cols) = lenI_Int a1v_Cols from ln_eq Int_c _]; exact (hC (spec_l1Max_ac h_r1))) (hq (hC (spec_l1Below_ac h_r2)) (hq trivial hq0))))
  rw [show ln (eInt_c a1v_Cols) = lenI_Int a1v_Cols from ln_eq Int_c _]
  refine Run.seq ?_
  refine Run.region hL hT [] (by cbv) ?_ ?_
  · exact hq0
  obtain ⟨K4, h_K4, h⟩ := joinE h
  refine Run.join1 K4 (r := r) (fun (y3 : Int) => ⟨106, 100000, [(0, .pt 0 0 0), (3, .pt 1 0 0), (4, .pt 2 0 0), (5, .pt 3 0 0), (6, .t (.s (.int .i64 y3)))], [(0, .box 85 [.t (.im true (eu8_c a0v_b)), .t (.s (.int .i64 r2v_1v_i)), .t (.s (.int .i64 r2v_1v_h))]), (1, .box 43 [.t (.im false (eInt_c a1v_Cols))]), (2, .box 27 [.t (.s (.int .i64 0)), .t (.s (.slice none 0 0)), .t (.s (.int .i64 0)), .t (.s (.bool false)), .t (.s (.int .i64 0)), .t (.s (.slice none 0 0)), .t (.s (.bool false)), .t (.s (.int .i64 0)), .t (.s (.int .i64 0))]), (3, .box 27 [.t (.s (.int .i64 r2v_2)), .t (.s (.slice none 0 0)), .t (.s (.int .i64 0)), .t (.s (.bool false)), .t (.s (.int .i64 0)), .t (.s (.slice none 0 0)), .t (.s (.bool false)), .t (.s (.int .i64 0)), .t (.s (.int .i64 0))])]⟩) ?_ ?_
  · skip
    refine Run.seq ?_
    refine Run.region hL hT [] (by cbv) ?_ ?_
    · exact (hq trivial (hq trivial (hq trivial hq0)))
    rw [show ln (eInt_c a1v_Cols) = lenI_Int a1v_Cols from ln_eq Int_c _]
    refine Run.cond (by cbv) (hq0) (fun c5 => ?_) (fun c5 => ?_)
    · have h := if_t c5 h
      obtain ⟨x6, h_x6, h⟩ := bnd h
      obtain ⟨r7, h_r7, h⟩ := bnd h
      refine Run.region hL hT [(4, .el [.s (.int .i64 x6)]), (6, .call [false, false] [.v (.jk), .v (.jk)] [.v (.s (.int .i64 r7))])] (by cbv) ?_ ?_
      · exact (hq trivial (hq trivial (hq (get_le h_x6) (hq (get_lt (f := Int_c) h_x6) (hq (get_ge (f := Int_c) h_x6) (hq (hC (spec_l1Max_ac h_r7)) hq0))))))
      refine ⟨r7, h, Weak.of _ [(0, 0), (1, 1), (2, 2), (3, 4104)] hA (by cbv) ?_⟩
      repeat (first | exact hq0 | refine hq (by first | exact True.intro | rfl) ?_)
    · have h := if_f c5 h
      refine Run.skip ?_
      refine ⟨1, h, Weak.of _ [(0, 0), (1, 1), (2, 2), (3, 4104)] hA (by cbv) ?_⟩
      repeat (first | exact hq0 | refine hq (by first | exact True.intro | rfl) ?_)
  · intro y3 h
    rw [h_K4] at h
    obtain ⟨K11, h_K11, h⟩ := joinE h
    refine Run.join3 K11 (r := r) (fun (y8 : Int) (y9 : Int) (y10 : List Cond) => ⟨106, 100000, [(0, .pt 0 0 0), (3, .pt 1 0 0), (4, .pt 2 0 0), (5, .pt 3 0 0), (6, .t (.s (.int .i64 y3)))], [(0, .box 85 [.t (.im true (eu8_c a0v_b)), .t (.s (.int .i64 y8)), .t (.s (.int .i64 y9))]), (1, .box 43 [.t (.im false (eInt_c a1v_Cols))]), (2, .box 27 [.t (.s (.int .i64 0)), .t (.s (.slice none 0 0)), .t (.s (.int .i64 0)), .t (.s (.bool false)), .t (.s (.int .i64 0)), .t (.s (.slice none 0 0)), .t (.s (.bool false)), .t (.s (.int .i64 0)), .t (.s (.int .i64 0))]), (3, .box 27 [.t (.s (.int .i64 r2v_2)), .rf 4, .t (.s (.int .i64 0)), .t (.s (.bool false)), .t (.s (.int .i64 0)), .t (.s (.slice none 0 0)), .t (.s (.bool false)), .t (.s (.int .i64 0)), .t (.s (.int .i64 0))]), (4, .row 0 83 3 (eCond_c y10))]⟩) ?_ ?_
    · skip
      refine Run.seq ?_
      refine Run.region hL hT [] (by cbv) ?_ ?_
      · exact hq0
      refine Run.block ?_
      refine Run.loop4 (fun (z53 : Int) (z54 : Int) (z55 : List Cond) (z56 : Int) => ⟨106, 100000, [(0, .pt 0 0 0), (3, .pt 1 0 0), (4, .pt 2 0 0), (5, .pt 3 0 0), (6, .t (.s (.int .i64 y3))), (7, .t (.s (.int .i64 z56)))], [(0, .box 85 [.t (.im true (eu8_c a0v_b)), .t (.s (.int .i64 z53)), .t (.s (.int .i64 z54))]), (1, .box 43 [.t (.im false (eInt_c a1v_Cols))]), (2, .box 27 [.t (.s (.int .i64 0)), .t (.s (.slice none 0 0)), .t (.s (.int .i64 0)), .t (.s (.bool false)), .t (.s (.int .i64 0)), .t (.s (.slice none 0 0)), .t (.s (.bool false)), .t (.s (.int .i64 0)), .t (.s (.int .i64 0))]), (3, .box 27 [.t (.s (.int .i64 r2v_2)), .rf 4, .t (.s (.int .i64 0)), .t (.s (.bool false)), .t (.s (.int .i64 0)), .t (.s (.slice none 0 0)), .t (.s (.bool false)), .t (.s (.int .i64 0)), .t (.s (.int .i64 0))]), (4, .row 0 83 3 (eCond_c z55))]⟩) (x0 := r2v_1v_i) (x1 := r2v_1v_h) (x2 := []) (x3 := 0) h ((Weak.nilB (l := [.t (.s (.int .i64 r2v_2))]) hT 3 1 105096 83 rfl (by cbv) (by cbv) (by cbv)).trans (Weak.of _ [(0, 0), (1, 1), (2, 2), (3, 3), (4, 105096)] hA (by cbv) ?_)) (fun _ _ _ _ => rfl) ?_
      · repeat (first | exact hq0 | refine hq (by first | exact True.intro | rfl) ?_)
      · intro k z53 z54 z55 z56 h
        rw [spec_l9DrawRight.l0] at h
        refine Run.seq ?_
        refine Run.seq ?_
        obtain ⟨⟨⟨r57v_1v_b, r57v_1v_i, r57v_1v_h⟩, r57v_2⟩, h_r57, h⟩ := bnd h
        refine Run.region hL hT [(2, .call [true, false] [.v (.bx 85 [.im true (eu8_c a0v_b), .s (.int .i64 r57v_1v_i), .s (.int .i64 r57v_1v_h)]), .v (.jk)] [.v (.s (.int .i64 r57v_2))])] (by cbv) ?_ ?_
        · exact (hq (hC (spec_l1Below_ac h_r57)) (hq trivial hq0))
        refine Run.cond (by cbv) (hq0) (fun c58 => ?_) (fun c58 => ?_)
        · have h := if_t c58 h
          refine Run.skip ?_
          refine Run.seq ?_
          refine Run.block ?_
          obtain ⟨⟨⟨r59v_1v_b, r59v_1v_i, r59v_1v_h⟩, r59v_2⟩, h_r59, h⟩ := bnd h
          obtain ⟨⟨⟨r60v_1v_b, r60v_1v_i, r60v_1v_h⟩, r60v_2⟩, h_r60, h⟩ := bnd h
          obtain ⟨⟨⟨r61v_1v_b, r61v_1v_i, r61v_1v_h⟩, r61v_2⟩, h_r61, h⟩ := bnd h
          obtain ⟨l62, h_l62, h⟩ := bnd h
          obtain ⟨l63, h_l63, h⟩ := bnd h
          refine Run.draw hL hT hM [(4, .call [true, false] [.v (.bx 85 [.im true (eu8_c a0v_b), .s (.int .i64 r59v_1v_i), .s (.int .i64 r59v_1v_h)]), .v (.jk)] [.v (.s (.int .i64 r59v_2))]), (6, .call [true, false] [.v (.bx 85 [.im true (eu8_c a0v_b), .s (.int .i64 r60v_1v_i), .s (.int .i64 r60v_1v_h)]), .v (.jk)] [.v (.s (.int .i64 r60v_2))]), (9, .call [true, false] [.v (.bx 85 [.im true (eu8_c a0v_b), .s (.int .i64 r61v_1v_i), .s (.int .i64 r61v_1v_h)]), .v (.jk)] [.v (.s (.int .i64 r61v_2))])] (by cbv) (by cbv) (by cbv) (by cbv) (by cbv) ?_ ?_
          · exact (hq trivial (hq (hC (spec_l1Below_ac h_r59)) (hq (hC (spec_l1Below_ac h_r60)) (hq trivial (hq (hC (spec_l1Below_ac h_r61)) (hq (app_mb (P := Tryd.prog) (f := Cond_c) RLe.r (some_le (f := Cond_c) h_l62 (RLe.cons rfl LLe.r RLe.nil)) h_l63) (hq trivial hq0)))))))
          refine Run.row (rows := (ap (eCond_c z55) ([[.s (.int .i64 r59v_2), .s (.int .i64 (ar .add .i64 1 r60v_2)), .s (.int .i64 r61v_2)]]))) 104108 (eCond_c l63) (by cbv) (app_le (f := Cond_c) RLe.r (some_le (f := Cond_c) h_l62 (RLe.cons rfl LLe.r RLe.nil)) h_l63) ?_
          refine Run.region hL hT [] (by cbv) ?_ ?_
          · exact (hq trivial hq0)
          refine ⟨r61v_1v_i, r61v_1v_h, l63, (ar .add .i64 z56 1), h, Weak.of _ [(0, 0), (1, 1), (2, 2), (3, 3), (4, 104108)] hA (by cbv) ?_⟩
          repeat (first | exact hq0 | refine hq (by first | exact True.intro | rfl) ?_)
        · have h := if_f c58 h
          refine Run.exit ?_
          refine ⟨r57v_1v_i, r57v_1v_h, z55, h, Weak.of _ [(0, 0), (1, 1), (2, 2), (3, 3), (4, 4)] hA (by cbv) ?_⟩
          repeat (first | exact hq0 | refine hq (by first | exact True.intro | rfl) ?_)
    · intro y8 y9 y10 h
      rw [h_K11] at h
      refine Run.seq ?_
      obtain ⟨⟨⟨r64v_1v_b, r64v_1v_i, r64v_1v_h⟩, r64v_2⟩, h_r64, h⟩ := bnd h
      refine Run.region hL hT [(3, .call [true, false] [.v (.bx 85 [.im true (eu8_c a0v_b), .s (.int .i64 r64v_1v_i), .s (.int .i64 r64v_1v_h)]), .v (.jk)] [.v (.s (.int .i64 r64v_2))])] (by cbv) ?_ ?_
      · exact (hq trivial (hq (hC (spec_l1Below_ac h_r64)) (hq trivial hq0)))
      refine Run.seq ?_
      obtain ⟨⟨⟨r65v_1v_b, r65v_1v_i, r65v_1v_h⟩, r65v_2⟩, h_r65, h⟩ := bnd h
      refine Run.region hL hT [(5, .call [true, false] [.v (.bx 85 [.im true (eu8_c a0v_b), .s (.int .i64 r65v_1v_i), .s (.int .i64 r65v_1v_h)]), .v (.jk)] [.v (.s (.bool r65v_2))])] (by cbv) ?_ ?_
      · exact (hq trivial (hq trivial (hq (fun _ => hq0) (hq (fun g67 => (hq g67 (hq (hC (spec_l1Once_ac (gd_t h_r65 g67))) hq0))) (hq trivial (hq trivial (hq trivial (hq (fun q68 => (hq q68 hq0)) (hq (fun _ => hq0) (hq trivial hq0))))))))))
      refine Run.seq ?_
      obtain ⟨l70, h_l70, h⟩ := bnd h
      obtain ⟨⟨⟨r71v_1v_b, r71v_1v_i, r71v_1v_h⟩, r71v_2⟩, h_r71, h⟩ := bnd h
      refine Run.region hL hT [(2, .call [true, false] [.v (.bx 85 [.im true (eu8_c a0v_b), .s (.int .i64 r71v_1v_i), .s (.int .i64 r71v_1v_h)]), .v (.jk)] [.v (.s (.int .i64 r71v_2))])] (by cbv) ?_ ?_
      · exact (hq (hC (AC.args (spec_l1PickInt_ac h_r71) (ALe.v LLe.r (ALe.v (fr_lit rfl (some_le (f := Int_c) h_l70 (RLe.cons rfl LLe.r (RLe.cons rfl LLe.r (RLe.cons rfl LLe.r (RLe.cons rfl LLe.r (RLe.cons rfl LLe.r (RLe.cons rfl LLe.r RLe.nil)))))))) ALe.nil)))) (hq trivial hq0))
      refine Run.row (rows := [[.s (.int .i64 0)], [.s (.int .i64 0)], [.s (.int .i64 1)], [.s (.int .i64 2)], [.s (.int .i64 3)], [.s (.int .i64 5)]]) 108193 (eInt_c l70) (by cbv) (some_le (f := Int_c) h_l70 (RLe.cons rfl LLe.r (RLe.cons rfl LLe.r (RLe.cons rfl LLe.r (RLe.cons rfl LLe.r (RLe.cons rfl LLe.r (RLe.cons rfl LLe.r RLe.nil))))))) ?_
      obtain ⟨K76, h_K76, h⟩ := joinE h
      refine Run.join4 K76 (r := r) (fun (y72 : Int) (y73 : Int) (y74 : Bool) (y75 : List Int) => ⟨106, 100000, [(0, .pt 0 0 0), (3, .pt 1 0 0), (4, .pt 2 0 0), (5, .pt 3 0 0)], [(0, .box 85 [.t (.im true (eu8_c a0v_b)), .t (.s (.int .i64 y72)), .t (.s (.int .i64 y73))]), (1, .box 43 [.t (.im false (eInt_c a1v_Cols))]), (2, .box 27 [.t (.s (.int .i64 0)), .t (.s (.slice none 0 0)), .t (.s (.int .i64 0)), .t (.s (.bool false)), .t (.s (.int .i64 0)), .t (.s (.slice none 0 0)), .t (.s (.bool false)), .t (.s (.int .i64 0)), .t (.s (.int .i64 0))]), (3, .box 27 [.t (.s (.int .i64 r2v_2)), .rf 4, .t (.s (.int .i64 r64v_2)), .t (.s (.bool y74)), .t (.s (.int .i64 r71v_2)), .rf 5, .t (.s (.bool false)), .t (.s (.int .i64 0)), .t (.s (.int .i64 0))]), (4, .row 0 83 3 (eCond_c y10)), (5, .row 0 3 1 (eInt_c y75))]⟩) ?_ ?_
      · skip
        refine Run.seq ?_
        refine Run.region hL hT [] (by cbv) ?_ ?_
        · exact hq0
        refine Run.block ?_
        refine Run.loop5 (fun (z120 : Int) (z121 : Int) (z122 : Bool) (z123 : List Int) (z124 : Int) => ⟨106, 100000, [(0, .pt 0 0 0), (3, .pt 1 0 0), (4, .pt 2 0 0), (5, .pt 3 0 0), (6, .t (.s (.int .i64 y3))), (8, .t (.s (.int .i64 z124)))], [(0, .box 85 [.t (.im true (eu8_c a0v_b)), .t (.s (.int .i64 z120)), .t (.s (.int .i64 z121))]), (1, .box 43 [.t (.im false (eInt_c a1v_Cols))]), (2, .box 27 [.t (.s (.int .i64 0)), .t (.s (.slice none 0 0)), .t (.s (.int .i64 0)), .t (.s (.bool false)), .t (.s (.int .i64 0)), .t (.s (.slice none 0 0)), .t (.s (.bool false)), .t (.s (.int .i64 0)), .t (.s (.int .i64 0))]), (3, .box 27 [.t (.s (.int .i64 r2v_2)), .rf 4, .t (.s (.int .i64 r64v_2)), .t (.s (.bool z122)), .t (.s (.int .i64 r71v_2)), .rf 5, .t (.s (.bool false)), .t (.s (.int .i64 0)), .t (.s (.int .i64 0))]), (4, .row 0 83 3 (eCond_c y10)), (5, .row 0 3 1 (eInt_c z123))]⟩) (x0 := r71v_1v_i) (x1 := r71v_1v_h) (x2 := (bo (cm .gtr r64v_2 0) r65v_2 false)) (x3 := []) (x4 := 0) h ((Weak.nilB (l := [.t (.s (.int .i64 r2v_2)), .rf 4, .t (.s (.int .i64 r64v_2)), .t (.s (.bool (bo (cm .gtr r64v_2 0) r65v_2 false))), .t (.s (.int .i64 r71v_2))]) hT 3 5 117384 3 rfl (by cbv) (by cbv) (by cbv)).trans (Weak.of _ [(0, 0), (1, 1), (2, 2), (3, 3), (4, 4), (5, 117384)] hA (by cbv) ?_)) (fun _ _ _ _ _ => rfl) ?_
        · repeat (first | exact hq0 | refine hq (by first | exact True.intro | rfl) ?_)
        · intro k z120 z121 z122 z123 z124 h
          rw [spec_l9DrawRight.l1] at h
          refine Run.seq ?_
          refine Run.seq ?_
          refine Run.region hL hT [] (by cbv) ?_ ?_
          · exact (hq trivial hq0)
          refine Run.cond (by cbv) (hq0) (fun c125 => ?_) (fun c125 => ?_)
          · have h := if_t c125 h
            refine Run.skip ?_
            refine Run.seq ?_
            refine Run.block ?_
            refine Run.seq ?_
            obtain ⟨⟨⟨r126v_1v_b, r126v_1v_i, r126v_1v_h⟩, r126v_2⟩, h_r126, h⟩ := bnd h
            refine Run.region hL hT [(1, .call [true, false] [.v (.bx 85 [.im true (eu8_c a0v_b), .s (.int .i64 r126v_1v_i), .s (.int .i64 r126v_1v_h)]), .v (.jk)] [.v (.s (.bool r126v_2))])] (by cbv) ?_ ?_
            · exact (hq (hC (spec_l1Once_ac h_r126)) hq0)
            refine Run.cond (by cbv) (hq0) (fun c127 => ?_) (fun c127 => ?_)
            · have h := if_t c127 h
              obtain ⟨l128, h_l128, h⟩ := bnd h
              obtain ⟨l129, h_l129, h⟩ := bnd h
              refine Run.region hL hT [] (by cbv) ?_ ?_
              · exact (hq trivial (hq (app_mb (P := Tryd.prog) (f := Int_c) RLe.r (some_le (f := Int_c) h_l128 (RLe.cons rfl LLe.r RLe.nil)) h_l129) (hq trivial hq0)))
              refine Run.row (rows := (ap (eInt_c z123) ([[.s (.int .i64 z124)]]))) 108196 (eInt_c l129) (by cbv) (app_le (f := Int_c) RLe.r (some_le (f := Int_c) h_l128 (RLe.cons rfl LLe.r RLe.nil)) h_l129) ?_
              refine Run.region hL hT [] (by cbv) ?_ ?_
              · exact (hq trivial hq0)
              refine ⟨r126v_1v_i, r126v_1v_h, z122, l129, (ar .add .i64 z124 1), h, Weak.of _ [(0, 0), (1, 1), (2, 2), (3, 3), (4, 4), (5, 108196)] hA (by cbv) ?_⟩
              repeat (first | exact hq0 | refine hq (by first | exact True.intro | rfl) ?_)
            · have h := if_f c127 h
              refine Run.skip ?_
              refine Run.region hL hT [] (by cbv) ?_ ?_
              · exact (hq trivial hq0)
              refine ⟨r126v_1v_i, r126v_1v_h, z122, z123, (ar .add .i64 z124 1), h, Weak.of _ [(0, 0), (1, 1), (2, 2), (3, 3), (4, 4), (5, 5)] hA (by cbv) ?_⟩
              repeat (first | exact hq0 | refine hq (by first | exact True.intro | rfl) ?_)
          · have h := if_f c125 h
            refine Run.exit ?_
            refine ⟨z120, z121, z122, z123, h, Weak.of _ [(0, 0), (1, 1), (2, 2), (3, 3), (4, 4), (5, 5)] hA (by cbv) ?_⟩
            repeat (first | exact hq0 | refine hq (by first | exact True.intro | rfl) ?_)
      · intro y72 y73 y74 y75 h
        rw [h_K76] at h
        refine Run.seq ?_
        refine Run.seq ?_
        obtain ⟨⟨⟨r130v_1v_b, r130v_1v_i, r130v_1v_h⟩, r130v_2⟩, h_r130, h⟩ := bnd h
        refine Run.region hL hT [(1, .call [true, false] [.v (.bx 85 [.im true (eu8_c a0v_b), .s (.int .i64 r130v_1v_i), .s (.int .i64 r130v_1v_h)]), .v (.jk)] [.v (.s (.bool r130v_2))])] (by cbv) ?_ ?_
        · exact (hq (hC (spec_l1Once_ac h_r130)) hq0)
        refine Run.cond (by cbv) (hq0) (fun c131 => ?_) (fun c131 => ?_)
        · have h := if_t c131 h
          refine Run.seq ?_
          refine Run.region hL hT [] (by cbv) ?_ ?_
          · exact (hq trivial hq0)
          refine Run.seq ?_
          obtain ⟨r132, h_r132, h⟩ := bnd h
          obtain ⟨⟨⟨r133v_1v_b, r133v_1v_i, r133v_1v_h⟩, r133v_2⟩, h_r133, h⟩ := bnd h
          refine Run.region hL hT [(4, .call [false, false] [.v (.jk), .v (.jk)] [.v (.s (.int .i64 r132))]), (5, .call [true, false] [.v (.bx 85 [.im true (eu8_c a0v_b), .s (.int .i64 r133v_1v_i), .s (.int .i64 r133v_1v_h)]), .v (.jk)] [.v (.s (.int .i64 r133v_2))])] (by cbv) ?_ ?_
          · exact (hq trivial (hq (by rw [show ln (eInt_c a1v_Cols) = lenI_Int a1v_Cols from ln_eq Int_c _]; exact (hC (spec_l1Max_ac h_r132))) (hq (hC (spec_l1Below_ac h_r133)) (hq trivial hq0))))
          rw [show ln (eInt_c a1v_Cols) = lenI_Int a1v_Cols from ln_eq Int_c _]
          refine Run.seq ?_
          refine Run.region hL hT [] (by cbv) ?_ ?_
          · exact (hq trivial (hq trivial (hq trivial hq0)))
          rw [show ln (eInt_c a1v_Cols) = lenI_Int a1v_Cols from ln_eq Int_c _]
          refine Run.cond (by cbv) (hq0) (fun c134 => ?_) (fun c134 => ?_)
          · have h := if_t c134 h
            obtain ⟨x135, h_x135, h⟩ := bnd h
            obtain ⟨r136, h_r136, h⟩ := bnd h
            obtain ⟨⟨⟨r137v_1v_b, r137v_1v_i, r137v_1v_h⟩, r137v_2⟩, h_r137, h⟩ := bnd h
            refine Run.region hL hT [(5, .el [.s (.int .i64 x135)]), (7, .call [false, false] [.v (.jk), .v (.jk)] [.v (.s (.int .i64 r136))]), (8, .call [true, false] [.v (.bx 85 [.im true (eu8_c a0v_b), .s (.int .i64 r137v_1v_i), .s (.int .i64 r137v_1v_h)]), .v (.jk)] [.v (.s (.int .i64 r137v_2))])] (by cbv) ?_ ?_
            · exact (hq trivial (hq trivial (hq (get_le h_x135) (hq (get_lt (f := Int_c) h_x135) (hq (get_ge (f := Int_c) h_x135) (hq (hC (spec_l1Max_ac h_r136)) (hq (hC (spec_l1Below_ac h_r137)) (hq trivial hq0))))))))
            refine Run.seq ?_
            refine Run.region hL hT [] (by cbv) ?_ ?_
            · exact (hq trivial (hq trivial hq0))
            refine Run.ret ?_
            cases h
            refine ⟨_, _, by cbv, ?_, ?_⟩
            · exact LLe.r
            · exact (ALe.ag rfl LLe.r ALe.nil)
          · have h := if_f c134 h
            refine Run.skip ?_
            refine Run.seq ?_
            refine Run.region hL hT [] (by cbv) ?_ ?_
            · exact (hq trivial (hq trivial hq0))
            refine Run.ret ?_
            cases h
            refine ⟨_, _, by cbv, ?_, ?_⟩
            · exact LLe.r
            · exact (ALe.ag rfl LLe.r ALe.nil)
        · have h := if_f c131 h
          refine Run.skip ?_
          refine Run.seq ?_
          refine Run.region hL hT [] (by cbv) ?_ ?_
          · exact (hq trivial (hq trivial hq0))
          refine Run.ret ?_
          cases h
          refine ⟨_, _, by cbv, ?_, ?_⟩
          · exact LLe.r
          · exact (ALe.ag rfl LLe.r ALe.nil)

set_option maxRecDepth 8000 in
theorem spec_l9Draw_ac {a0v_b : List Int} {a0v_i : Int} {a0v_h : Int} {a1v_Cols : List Int} {r : l1Cur × Query} (h : spec_l9Draw.f (l1Cur.mk a0v_b a0v_i a0v_h) (Schema.mk a1v_Cols) = some r) : AC Tryd.prog 23 [.v (.bx 85 [.im true (rowsOf u8_c a0v_b), .s (.int .i64 a0v_i), .s (.int .i64 a0v_h)]), .ag [.im false (rowsOf Int_c a1v_Cols)]] [.v (.bx 85 [.im true (rowsOf u8_c a0v_b), .s (.int .i64 r.1.i), .s (.int .i64 r.1.h)]), .ag [.jk]] [.ag [.s (.int .i64 r.2.Table), .ow 83 (rowsOf Cond_c r.2.Where), .s (.int .i64 r.2.Order), .s (.bool r.2.Down), .s (.int .i64 r.2.First), .ow 3 (rowsOf Int_c r.2.Show), .s (.bool r.2.Kids), .s (.int .i64 r.2.KidTable), .s (.int .i64 r.2.KidCol)]] := by
  unfold spec_l9Draw.f at h
  let ar := Ls.ar; let cm := Ls.cm; let bo := Ls.bo; let sc := Ls.sc; let sa := Ls.sa; let sx := Ls.sx; let ss := Ls.ss; let sl := Ls.sl; let bs := Ls.bs; let sb := Ls.sb; let ln := Ls.ln; let sr := Ls.sr; let ap := Ls.ap; let up := Ls.up; let rp := Ls.rp; let fr := Ls.fr; let ge := Ls.ge; let le := Ls.le; let lt := Ls.lt; let nz := Ls.nz; let mm := Ls.mm; let ma := Ls.ma; let sm := Ls.sm; let fl := Ls.fl; let al := Ls.al; let ci := Ls.ci
  let eCond_c := rowsOf Cond_c
  let eInt_c := rowsOf Int_c
  let eu8_c := rowsOf u8_c
  have hL : (⟨ar, cm, bo, sc, sa, sx, ss, sl, bs, sb, ln, sr, ap, up, rp, fr, ge, le, lt, nz, mm, ma, sm, fl, al, ci⟩ : Lf) = Ls := rfl
  show AC Tryd.prog 23 [.v (.bx 85 [.im true (eu8_c a0v_b), .s (.int .i64 a0v_i), .s (.int .i64 a0v_h)]), .ag [.im false (eInt_c a1v_Cols)]] _ _
  refine AC.of_run2 tab_ok Tryd.func23 (by rfl) (by rfl) (by cbv) ⟨by decide, rfl⟩ fun F hP hA => ?_
  have hT : TabOk F.P tab := hP ▸ tab_ok
  have hM : F.P.follows .mixedOrders = true := hP ▸ mixed
  have hC : ∀ {f a o r}, AC Tryd.prog f a o r → AC F.P f a o r := fun h => hP ▸ h
  refine Run.seq ?_
  refine Run.region hL hT [] (by cbv) ?_ ?_
  · exact hq0
  refine Run.seq ?_
  obtain ⟨⟨⟨r1v_1v_b, r1v_1v_i, r1v_1v_h⟩, ⟨r1v_2v_Table, r1v_2v_Where, r1v_2v_Order, r1v_2v_Down, r1v_2v_First, r1v_2v_Show, r1v_2v_Kids, r1v_2v_KidTable, r1v_2v_KidCol⟩⟩, h_r1, h⟩ := bnd h
  refine Run.region hL hT [(2, .call [true, false] [.v (.bx 85 [.im true (eu8_c a0v_b), .s (.int .i64 r1v_1v_i), .s (.int .i64 r1v_1v_h)]), .ag [.jk]] [.ag [.s (.int .i64 r1v_2v_Table), .ow 83 (eCond_c r1v_2v_Where), .s (.int .i64 r1v_2v_Order), .s (.bool r1v_2v_Down), .s (.int .i64 r1v_2v_First), .ow 3 (eInt_c r1v_2v_Show), .s (.bool r1v_2v_Kids), .s (.int .i64 r1v_2v_KidTable), .s (.int .i64 r1v_2v_KidCol)]])] (by cbv) ?_ ?_
  · exact (hq trivial (hq (hC (spec_l9DrawRight_ac h_r1)) (hq trivial hq0)))
  refine Run.seq ?_
  refine Run.seq ?_
  obtain ⟨⟨⟨r2v_1v_b, r2v_1v_i, r2v_1v_h⟩, r2v_2⟩, h_r2, h⟩ := bnd h
  refine Run.region hL hT [(1, .call [true, false] [.v (.bx 85 [.im true (eu8_c a0v_b), .s (.int .i64 r2v_1v_i), .s (.int .i64 r2v_1v_h)]), .v (.jk)] [.v (.s (.int .i64 r2v_2))])] (by cbv) ?_ ?_
  · exact (hq (hC (spec_l1Below_ac h_r2)) hq0)
  refine Run.block ?_
  refine Run.seq ?_
  refine Run.region hL hT [] (by cbv) ?_ ?_
  · exact (hq trivial hq0)
  refine Run.cond (by cbv) (hq0) (fun c3 => ?_) (fun c3 => ?_)
  · have h := if_t c3 h
    obtain ⟨⟨⟨r4v_1v_b, r4v_1v_i, r4v_1v_h⟩, r4v_2⟩, h_r4, h⟩ := bnd h
    refine Run.region hL hT [(1, .call [true, false] [.v (.bx 85 [.im true (eu8_c a0v_b), .s (.int .i64 r4v_1v_i), .s (.int .i64 r4v_1v_h)]), .v (.jk)] [.v (.s (.int .i64 r4v_2))])] (by cbv) ?_ ?_
    · exact (hq (hC (spec_l1Below_ac h_r4)) (hq trivial (hq trivial hq0)))
    refine Run.seq ?_
    refine Run.region hL hT [] (by cbv) ?_ ?_
    · exact (hq trivial (hq trivial hq0))
    refine Run.ret ?_
    cases h
    refine ⟨_, _, by cbv, ?_, ?_⟩
    · exact LLe.r
    · exact (ALe.ag rfl LLe.r ALe.nil)
  · have h := if_f c3 h
    refine Run.seq ?_
    refine Run.region hL hT [] (by cbv) ?_ ?_
    · exact (hq trivial hq0)
    refine Run.cond (by cbv) (hq0) (fun c5 => ?_) (fun c5 => ?_)
    · have h := if_t c5 h
      obtain ⟨⟨⟨r6v_1v_b, r6v_1v_i, r6v_1v_h⟩, r6v_2⟩, h_r6, h⟩ := bnd h
      obtain ⟨⟨⟨r7v_1v_b, r7v_1v_i, r7v_1v_h⟩, r7v_2⟩, h_r7, h⟩ := bnd h
      obtain ⟨l8, h_l8, h⟩ := bnd h
      obtain ⟨⟨⟨r9v_1v_b, r9v_1v_i, r9v_1v_h⟩, r9v_2⟩, h_r9, h⟩ := bnd h
      obtain ⟨l10, h_l10, h⟩ := bnd h
      obtain ⟨l11, h_l11, h⟩ := bnd h
      refine Run.draw hL hT hM [(3, .call [true, false] [.v (.bx 85 [.im true (eu8_c a0v_b), .s (.int .i64 r6v_1v_i), .s (.int .i64 r6v_1v_h)]), .v (.jk)] [.v (.s (.int .i64 r6v_2))]), (6, .call [true, false] [.v (.bx 85 [.im true (eu8_c a0v_b), .s (.int .i64 r7v_1v_i), .s (.int .i64 r7v_1v_h)]), .v (.jk)] [.v (.s (.int .i64 r7v_2))]), (9, .call [true, false] [.v (.bx 85 [.im true (eu8_c a0v_b), .s (.int .i64 r9v_1v_i), .s (.int .i64 r9v_1v_h)]), .v (.jk)] [.v (.s (.int .i64 r9v_2))])] (by cbv) (by cbv) (by cbv) (by cbv) (by cbv) ?_ ?_
      · exact (hq trivial (hq (hC (spec_l1Below_ac h_r6)) (hq trivial (hq (hC (spec_l1Below_ac h_r7)) (hq (hC (AC.args (spec_l1PickInt_ac h_r9) (ALe.v LLe.r (ALe.v (fr_lit rfl (some_le (f := Int_c) h_l8 (RLe.cons rfl LLe.r (RLe.cons rfl LLe.r RLe.nil)))) ALe.nil)))) (hq (app_mb (P := Tryd.prog) (f := Cond_c) RLe.r (some_le (f := Cond_c) h_l10 (RLe.cons rfl LLe.r RLe.nil)) h_l11) (hq trivial hq0)))))))
      refine Run.row (rows := [[.s (.int .i64 0)], [.s (.int .i64 1000000001)]]) 20489 (eInt_c l8) (by cbv) (some_le (f := Int_c) h_l8 (RLe.cons rfl LLe.r (RLe.cons rfl LLe.r RLe.nil))) ?_
      refine Run.row (rows := (ap (eCond_c r1v_2v_Where) ([[.s (.int .i64 (ar .sub .i64 r6v_2 1)), .s (.int .i64 r7v_2), .s (.int .i64 r9v_2)]]))) 20493 (eCond_c l11) (by cbv) (app_le (f := Cond_c) RLe.r (some_le (f := Cond_c) h_l10 (RLe.cons rfl LLe.r RLe.nil)) h_l11) ?_
      refine Run.seq ?_
      refine Run.region hL hT [] (by cbv) ?_ ?_
      · exact (hq trivial (hq trivial hq0))
      refine Run.ret ?_
      cases h
      refine ⟨_, _, by cbv, ?_, ?_⟩
      · exact LLe.r
      · exact (ALe.ag rfl LLe.r ALe.nil)
    · have h := if_f c5 h
      refine Run.seq ?_
      refine Run.region hL hT [] (by cbv) ?_ ?_
      · exact (hq trivial hq0)
      refine Run.cond (by cbv) (hq0) (fun c12 => ?_) (fun c12 => ?_)
      · have h := if_t c12 h
        obtain ⟨⟨⟨r13v_1v_b, r13v_1v_i, r13v_1v_h⟩, r13v_2⟩, h_r13, h⟩ := bnd h
        refine Run.region hL hT [(1, .call [true, false] [.v (.bx 85 [.im true (eu8_c a0v_b), .s (.int .i64 r13v_1v_i), .s (.int .i64 r13v_1v_h)]), .v (.jk)] [.v (.s (.int .i64 r13v_2))])] (by cbv) ?_ ?_
        · exact (hq (hC (spec_l1Below_ac h_r13)) (hq trivial (hq trivial hq0)))
        refine Run.seq ?_
        refine Run.region hL hT [] (by cbv) ?_ ?_
        · exact (hq trivial (hq trivial hq0))
        refine Run.ret ?_
        cases h
        refine ⟨_, _, by cbv, ?_, ?_⟩
        · exact LLe.r
        · exact (ALe.ag rfl LLe.r ALe.nil)
      · have h := if_f c12 h
        refine Run.seq ?_
        refine Run.region hL hT [] (by cbv) ?_ ?_
        · exact (hq trivial hq0)
        refine Run.cond (by cbv) (hq0) (fun c14 => ?_) (fun c14 => ?_)
        · have h := if_t c14 h
          obtain ⟨l15, h_l15, h⟩ := bnd h
          obtain ⟨⟨⟨r16v_1v_b, r16v_1v_i, r16v_1v_h⟩, r16v_2⟩, h_r16, h⟩ := bnd h
          refine Run.region hL hT [(2, .call [true, false] [.v (.bx 85 [.im true (eu8_c a0v_b), .s (.int .i64 r16v_1v_i), .s (.int .i64 r16v_1v_h)]), .v (.jk)] [.v (.s (.int .i64 r16v_2))])] (by cbv) ?_ ?_
          · exact (hq (hC (AC.args (spec_l1PickInt_ac h_r16) (ALe.v LLe.r (ALe.v (fr_lit rfl (some_le (f := Int_c) h_l15 (RLe.cons rfl LLe.r (RLe.cons rfl LLe.r (RLe.cons rfl LLe.r RLe.nil))))) ALe.nil)))) (hq trivial hq0))
          refine Run.row (rows := [[.s (.int .i64 (-1))], [.s (.int .i64 24)], [.s (.int .i64 25)]]) 28674 (eInt_c l15) (by cbv) (some_le (f := Int_c) h_l15 (RLe.cons rfl LLe.r (RLe.cons rfl LLe.r (RLe.cons rfl LLe.r RLe.nil)))) ?_
          refine Run.seq ?_
          refine Run.region hL hT [] (by cbv) ?_ ?_
          · exact (hq trivial (hq trivial hq0))
          refine Run.ret ?_
          cases h
          refine ⟨_, _, by cbv, ?_, ?_⟩
          · exact LLe.r
          · exact (ALe.ag rfl LLe.r ALe.nil)
        · have h := if_f c14 h
          refine Run.seq ?_
          refine Run.region hL hT [] (by cbv) ?_ ?_
          · exact (hq trivial hq0)
          refine Run.cond (by cbv) (hq0) (fun c17 => ?_) (fun c17 => ?_)
          · have h := if_t c17 h
            obtain ⟨⟨⟨r18v_1v_b, r18v_1v_i, r18v_1v_h⟩, r18v_2⟩, h_r18, h⟩ := bnd h
            obtain ⟨l19, h_l19, h⟩ := bnd h
            obtain ⟨l20, h_l20, h⟩ := bnd h
            refine Run.draw hL hT hM [(3, .call [true, false] [.v (.bx 85 [.im true (eu8_c a0v_b), .s (.int .i64 r18v_1v_i), .s (.int .i64 r18v_1v_h)]), .v (.jk)] [.v (.s (.int .i64 r18v_2))])] (by cbv) (by cbv) (by cbv) (by cbv) (by cbv) ?_ ?_
            · exact (hq trivial (hq (hC (spec_l1Below_ac h_r18)) (hq (app_mb (P := Tryd.prog) (f := Int_c) RLe.r (some_le (f := Int_c) h_l19 (RLe.cons rfl LLe.r RLe.nil)) h_l20) (hq trivial hq0))))
            refine Run.row (rows := (ap (eInt_c r1v_2v_Show) ([[.s (.int .i64 r18v_2)]]))) 32774 (eInt_c l20) (by cbv) (app_le (f := Int_c) RLe.r (some_le (f := Int_c) h_l19 (RLe.cons rfl LLe.r RLe.nil)) h_l20) ?_
            refine Run.seq ?_
            refine Run.region hL hT [] (by cbv) ?_ ?_
            · exact (hq trivial (hq trivial hq0))
            refine Run.ret ?_
            cases h
            refine ⟨_, _, by cbv, ?_, ?_⟩
            · exact LLe.r
            · exact (ALe.ag rfl LLe.r ALe.nil)
          · have h := if_f c17 h
            refine Run.seq ?_
            refine Run.region hL hT [] (by cbv) ?_ ?_
            · exact (hq trivial hq0)
            refine Run.cond (by cbv) (hq0) (fun c21 => ?_) (fun c21 => ?_)
            · have h := if_t c21 h
              obtain ⟨⟨⟨r22v_1v_b, r22v_1v_i, r22v_1v_h⟩, r22v_2⟩, h_r22, h⟩ := bnd h
              refine Run.region hL hT [(1, .call [true, false] [.v (.bx 85 [.im true (eu8_c a0v_b), .s (.int .i64 r22v_1v_i), .s (.int .i64 r22v_1v_h)]), .v (.jk)] [.v (.s (.int .i64 r22v_2))])] (by cbv) ?_ ?_
              · exact (hq (hC (spec_l1Below_ac h_r22)) (hq trivial (hq trivial hq0)))
              refine Run.seq ?_
              refine Run.region hL hT [] (by cbv) ?_ ?_
              · exact (hq trivial (hq trivial hq0))
              refine Run.ret ?_
              cases h
              refine ⟨_, _, by cbv, ?_, ?_⟩
              · exact LLe.r
              · exact (ALe.ag rfl LLe.r ALe.nil)
            · have h := if_f c21 h
              refine Run.skip ?_
              refine Run.seq ?_
              refine Run.region hL hT [] (by cbv) ?_ ?_
              · exact (hq trivial (hq trivial hq0))
              refine Run.ret ?_
              cases h
              refine ⟨_, _, by cbv, ?_, ?_⟩
              · exact LLe.r
              · exact (ALe.ag rfl LLe.r ALe.nil)

set_option maxRecDepth 8000 in
theorem spec_l6DrawRow_ac {a0v_b : List Int} {a0v_i : Int} {a0v_h : Int} {a1 : Int} {r : l1Cur × Row} (h : spec_l6DrawRow.f (l1Cur.mk a0v_b a0v_i a0v_h) a1 = some r) : AC Tryd.prog 27 [.v (.bx 85 [.im true (rowsOf u8_c a0v_b), .s (.int .i64 a0v_i), .s (.int .i64 a0v_h)]), .v (.s (.int .i64 a1))] [.v (.bx 85 [.im true (rowsOf u8_c a0v_b), .s (.int .i64 r.1.i), .s (.int .i64 r.1.h)]), .v (.jk)] [.ag [.s (.int .i64 r.2.Id), .ow 3 (rowsOf Int_c r.2.Cells)]] := by
  unfold spec_l6DrawRow.f at h
  let ar := Ls.ar; let cm := Ls.cm; let bo := Ls.bo; let sc := Ls.sc; let sa := Ls.sa; let sx := Ls.sx; let ss := Ls.ss; let sl := Ls.sl; let bs := Ls.bs; let sb := Ls.sb; let ln := Ls.ln; let sr := Ls.sr; let ap := Ls.ap; let up := Ls.up; let rp := Ls.rp; let fr := Ls.fr; let ge := Ls.ge; let le := Ls.le; let lt := Ls.lt; let nz := Ls.nz; let mm := Ls.mm; let ma := Ls.ma; let sm := Ls.sm; let fl := Ls.fl; let al := Ls.al; let ci := Ls.ci
  let eInt_c := rowsOf Int_c
  let eu8_c := rowsOf u8_c
  have hL : (⟨ar, cm, bo, sc, sa, sx, ss, sl, bs, sb, ln, sr, ap, up, rp, fr, ge, le, lt, nz, mm, ma, sm, fl, al, ci⟩ : Lf) = Ls := rfl
  show AC Tryd.prog 27 [.v (.bx 85 [.im true (eu8_c a0v_b), .s (.int .i64 a0v_i), .s (.int .i64 a0v_h)]), .v (.s (.int .i64 a1))] _ _
  refine AC.of_run2 tab_ok Tryd.func27 (by rfl) (by rfl) (by cbv) ⟨by decide, rfl⟩ fun F hP hA => ?_
  have hT : TabOk F.P tab := hP ▸ tab_ok
  have hM : F.P.follows .mixedOrders = true := hP ▸ mixed
  have hC : ∀ {f a o r}, AC Tryd.prog f a o r → AC F.P f a o r := fun h => hP ▸ h
  refine Run.seq ?_
  refine Run.region hL hT [] (by cbv) ?_ ?_
  · exact hq0
  refine Run.seq ?_
  obtain ⟨⟨⟨r1v_1v_b, r1v_1v_i, r1v_1v_h⟩, r1v_2⟩, h_r1, h⟩ := bnd h
  refine Run.region hL hT [(1, .call [true, false] [.v (.bx 85 [.im true (eu8_c a0v_b), .s (.int .i64 r1v_1v_i), .s (.int .i64 r1v_1v_h)]), .v (.jk)] [.v (.s (.int .i64 r1v_2))])] (by cbv) ?_ ?_
  · exact (hq (hC (spec_l1Below_ac h_r1)) (hq trivial (hq trivial hq0)))
  refine Run.seq ?_
  refine Run.seq ?_
  refine Run.region hL hT [] (by cbv) ?_ ?_
  · exact hq0
  refine Run.block ?_
  refine Run.loop5 (fun (z17 : Int) (z18 : Int) (z19 : Int) (z20 : List Int) (z21 : Int) => ⟨24, 100000, [(0, .pt 0 0 0), (1, .t (.s (.int .i64 a1))), (4, .pt 1 0 0), (5, .pt 2 0 0), (6, .t (.s (.int .i64 z21)))], [(0, .box 85 [.t (.im true (eu8_c a0v_b)), .t (.s (.int .i64 z17)), .t (.s (.int .i64 z18))]), (1, .box 41 [.t (.s (.int .i64 0)), .t (.s (.slice none 0 0))]), (2, .box 41 [.t (.s (.int .i64 z19)), .rf 3]), (3, .row 0 3 1 (eInt_c z20))]⟩) (x0 := r1v_1v_i) (x1 := r1v_1v_h) (x2 := (ar .add .i64 1 r1v_2)) (x3 := []) (x4 := 0) h ((Weak.nilB (l := [.t (.s (.int .i64 (ar .add .i64 1 r1v_2)))]) hT 4101 1 13289 3 rfl (by cbv) (by cbv) (by cbv)).trans (Weak.of _ [(0, 0), (1, 1), (2, 4101), (3, 13289)] hA (by cbv) ?_)) (fun _ _ _ _ _ => rfl) ?_
  · repeat (first | exact hq0 | refine hq (by first | exact True.intro | rfl) ?_)
  · intro k z17 z18 z19 z20 z21 h
    rw [spec_l6DrawRow.l0] at h
    refine Run.seq ?_
    refine Run.seq ?_
    refine Run.region hL hT [] (by cbv) ?_ ?_
    · exact (hq trivial hq0)
    refine Run.cond (by cbv) (hq0) (fun c22 => ?_) (fun c22 => ?_)
    · have h := if_t c22 h
      refine Run.skip ?_
      refine Run.seq ?_
      refine Run.block ?_
      obtain ⟨⟨⟨r23v_1v_b, r23v_1v_i, r23v_1v_h⟩, r23v_2⟩, h_r23, h⟩ := bnd h
      obtain ⟨l24, h_l24, h⟩ := bnd h
      obtain ⟨l25, h_l25, h⟩ := bnd h
      refine Run.draw hL hT hM [(3, .call [true, false] [.v (.bx 85 [.im true (eu8_c a0v_b), .s (.int .i64 r23v_1v_i), .s (.int .i64 r23v_1v_h)]), .v (.jk)] [.v (.s (.int .i64 r23v_2))])] (by cbv) (by cbv) (by cbv) (by cbv) (by cbv) ?_ ?_
      · exact (hq trivial (hq (hC (spec_l1Below_ac h_r23)) (hq (app_mb (P := Tryd.prog) (f := Int_c) RLe.r (some_le (f := Int_c) h_l24 (RLe.cons rfl LLe.r RLe.nil)) h_l25) (hq trivial hq0))))
      refine Run.row (rows := (ap (eInt_c z20) ([[.s (.int .i64 r23v_2)]]))) 104101 (eInt_c l25) (by cbv) (app_le (f := Int_c) RLe.r (some_le (f := Int_c) h_l24 (RLe.cons rfl LLe.r RLe.nil)) h_l25) ?_
      refine Run.region hL hT [] (by cbv) ?_ ?_
      · exact (hq trivial hq0)
      refine ⟨r23v_1v_i, r23v_1v_h, z19, l25, (ar .add .i64 z21 1), h, Weak.of _ [(0, 0), (1, 1), (2, 2), (3, 104101)] hA (by cbv) ?_⟩
      repeat (first | exact hq0 | refine hq (by first | exact True.intro | rfl) ?_)
    · have h := if_f c22 h
      refine Run.exit ?_
      refine Run.seq ?_
      refine Run.region hL hT [] (by cbv) ?_ ?_
      · exact (hq trivial (hq trivial hq0))
      refine Run.ret ?_
      cases h
      refine ⟨_, _, by cbv, ?_, ?_⟩
      · exact LLe.r
      · exact (ALe.ag rfl LLe.r ALe.nil)

set_option maxRecDepth 8000 in
theorem spec_RowAt_ac {a0 : List Row} {a1 : Int} {r : Int} (h : spec_RowAt.f a0 a1 = some r) : AC Tryd.prog 83 [.v (.im false (rowsOf Row_i a0)), .v (.s (.int .i64 a1))] [.v (.jk), .v (.jk)] [.v (.s (.int .i64 r))] := by
  unfold spec_RowAt.f at h
  let ar := Ls.ar; let cm := Ls.cm; let bo := Ls.bo; let sc := Ls.sc; let sa := Ls.sa; let sx := Ls.sx; let ss := Ls.ss; let sl := Ls.sl; let bs := Ls.bs; let sb := Ls.sb; let ln := Ls.ln; let sr := Ls.sr; let ap := Ls.ap; let up := Ls.up; let rp := Ls.rp; let fr := Ls.fr; let ge := Ls.ge; let le := Ls.le; let lt := Ls.lt; let nz := Ls.nz; let mm := Ls.mm; let ma := Ls.ma; let sm := Ls.sm; let fl := Ls.fl; let al := Ls.al; let ci := Ls.ci
  let eInt_c := rowsOf Int_c
  let eRow_i := rowsOf Row_i
  let lenI_Row := @lenI Row
  have hL : (⟨ar, cm, bo, sc, sa, sx, ss, sl, bs, sb, ln, sr, ap, up, rp, fr, ge, le, lt, nz, mm, ma, sm, fl, al, ci⟩ : Lf) = Ls := rfl
  show AC Tryd.prog 83 [.v (.im false (eRow_i a0)), .v (.s (.int .i64 a1))] _ _
  refine AC.of_run2 tab_ok Tryd.func83 (by rfl) (by rfl) (by cbv) ⟨by decide, rfl⟩ fun F hP hA => ?_
  have hT : TabOk F.P tab := hP ▸ tab_ok
  have hM : F.P.follows .mixedOrders = true := hP ▸ mixed
  have hC : ∀ {f a o r}, AC Tryd.prog f a o r → AC F.P f a o r := fun h => hP ▸ h
  refine Run.seq ?_
  refine Run.region hL hT [] (by cbv) ?_ ?_
  · exact hq0
  refine Run.seq ?_
  refine Run.seq ?_
  refine Run.region hL hT [] (by cbv) ?_ ?_
  · exact hq0
  refine Run.block ?_
  refine Run.loop1 (fun (z4 : Int) => ⟨20, 100000, [(0, .t (.im false (eRow_i a0))), (1, .t (.s (.int .i64 a1))), (5, .t (.s (.int .i64 z4)))], []⟩) (x0 := 0) h (Weak.of _ [] hA (by cbv) ?_) (fun _ => rfl) ?_
  · repeat (first | exact hq0 | refine hq (by first | exact True.intro | rfl) ?_)
  · intro k z4 h
    rw [spec_RowAt.l0] at h
    refine Run.seq ?_
    refine Run.seq ?_
    refine Run.region hL hT [] (by cbv) ?_ ?_
    · exact (hq trivial hq0)
    rw [show ln (eRow_i a0) = lenI_Row a0 from ln_eq Row_i _]
    refine Run.cond (by cbv) (hq0) (fun c5 => ?_) (fun c5 => ?_)
    · have h := if_t c5 h
      refine Run.skip ?_
      refine Run.seq ?_
      refine Run.block ?_
      refine Run.seq ?_
      obtain ⟨⟨x6v_Id, x6v_Cells⟩, h_x6, h⟩ := bnd h
      refine Run.region hL hT [(2, .el [.s (.int .i64 x6v_Id), .im false (eInt_c x6v_Cells)])] (by cbv) ?_ ?_
      · exact (hq (get_le h_x6) (hq (get_lt (f := Row_i) h_x6) (hq (get_ge (f := Row_i) h_x6) (hq trivial hq0))))
      refine Run.cond (by cbv) (hq0) (fun c7 => ?_) (fun c7 => ?_)
      · have h := if_t c7 h
        refine Run.seq ?_
        refine Run.region hL hT [] (by cbv) ?_ ?_
        · exact hq0
        refine Run.ret ?_
        cases h
        refine ⟨_, _, by cbv, ?_, ?_⟩
        · exact LLe.r
        · exact (ALe.v LLe.r ALe.nil)
      · have h := if_f c7 h
        refine Run.skip ?_
        refine Run.region hL hT [] (by cbv) ?_ ?_
        · exact (hq trivial hq0)
        refine ⟨(ar .add .i64 z4 1), h, Weak.of _ [] hA (by cbv) ?_⟩
        repeat (first | exact hq0 | refine hq (by first | exact True.intro | rfl) ?_)
    · have h := if_f c5 h
      refine Run.exit ?_
      refine Run.seq ?_
      refine Run.region hL hT [] (by cbv) ?_ ?_
      · exact hq0
      refine Run.ret ?_
      cases h
      refine ⟨_, _, by cbv, ?_, ?_⟩
      · exact LLe.r
      · exact (ALe.v LLe.r ALe.nil)

set_option maxRecDepth 8000 in
theorem spec_l6Copy_ac {a0v_Id : Int} {a0v_Cells : List Int} {r : Row} (h : spec_l6Copy.f (Row.mk a0v_Id a0v_Cells) = some r) : AC Tryd.prog 84 [.ag [.s (.int .i64 a0v_Id), .im false (rowsOf Int_c a0v_Cells)]] [.ag [.jk, .jk]] [.ag [.s (.int .i64 r.Id), .ow 3 (rowsOf Int_c r.Cells)]] := by
  unfold spec_l6Copy.f at h
  let ar := Ls.ar; let cm := Ls.cm; let bo := Ls.bo; let sc := Ls.sc; let sa := Ls.sa; let sx := Ls.sx; let ss := Ls.ss; let sl := Ls.sl; let bs := Ls.bs; let sb := Ls.sb; let ln := Ls.ln; let sr := Ls.sr; let ap := Ls.ap; let up := Ls.up; let rp := Ls.rp; let fr := Ls.fr; let ge := Ls.ge; let le := Ls.le; let lt := Ls.lt; let nz := Ls.nz; let mm := Ls.mm; let ma := Ls.ma; let sm := Ls.sm; let fl := Ls.fl; let al := Ls.al; let ci := Ls.ci
  let eInt_c := rowsOf Int_c
  have hL : (⟨ar, cm, bo, sc, sa, sx, ss, sl, bs, sb, ln, sr, ap, up, rp, fr, ge, le, lt, nz, mm, ma, sm, fl, al, ci⟩ : Lf) = Ls := rfl
  show AC Tryd.prog 84 [.ag [.s (.int .i64 a0v_Id), .im false (eInt_c a0v_Cells)]] _ _
  refine AC.of_run2 tab_ok Tryd.func84 (by rfl) (by rfl) (by cbv) ⟨by decide, rfl⟩ fun F hP hA => ?_
  have hT : TabOk F.P tab := hP ▸ tab_ok
  have hM : F.P.follows .mixedOrders = true := hP ▸ mixed
  have hC : ∀ {f a o r}, AC Tryd.prog f a o r → AC F.P f a o r := fun h => hP ▸ h
  refine Run.seq ?_
  refine Run.region hL hT [] (by cbv) ?_ ?_
  · exact hq0
  refine Run.seq ?_
  obtain ⟨l1, h_l1, h⟩ := bnd h
  refine Run.draw hL hT hM [] (by cbv) (by cbv) (by cbv) (by cbv) (by cbv) ?_ ?_
  · exact (hq trivial (hq trivial (hq (fl_row Int_c_f _) (hq (app_mb (P := Tryd.prog) (f := Int_c) RLe.r RLe.r h_l1) (hq trivial hq0)))))
  refine Run.row (rows := (ap ([]) ((eInt_c a0v_Cells)))) 4101 (eInt_c l1) (by cbv) (app_le (f := Int_c) RLe.r RLe.r h_l1) ?_
  refine Run.ret ?_
  cases h
  refine ⟨_, _, by cbv, ?_, ?_⟩
  · exact LLe.r
  · exact (ALe.ag rfl LLe.r ALe.nil)

set_option maxRecDepth 8000 in
theorem spec_RowDrop_ac {a0 : List Row} {a1 : Int} {r : (List Row)} (h : spec_RowDrop.f a0 a1 = some r) : AC Tryd.prog 82 [.v (.im false (rowsOf Row_i a0)), .v (.s (.int .i64 a1))] [.v (.jk), .v (.jk)] [.v (.ow 41 (rowsOf Row_o r))] := by
  unfold spec_RowDrop.f at h
  let ar := Ls.ar; let cm := Ls.cm; let bo := Ls.bo; let sc := Ls.sc; let sa := Ls.sa; let sx := Ls.sx; let ss := Ls.ss; let sl := Ls.sl; let bs := Ls.bs; let sb := Ls.sb; let ln := Ls.ln; let sr := Ls.sr; let ap := Ls.ap; let up := Ls.up; let rp := Ls.rp; let fr := Ls.fr; let ge := Ls.ge; let le := Ls.le; let lt := Ls.lt; let nz := Ls.nz; let mm := Ls.mm; let ma := Ls.ma; let sm := Ls.sm; let fl := Ls.fl; let al := Ls.al; let ci := Ls.ci
  let eInt_c := rowsOf Int_c
  let eRow_i := rowsOf Row_i
  let eRow_o := rowsOf Row_o
  let lenI_Row := @lenI Row
  have hL : (⟨ar, cm, bo, sc, sa, sx, ss, sl, bs, sb, ln, sr, ap, up, rp, fr, ge, le, lt, nz, mm, ma, sm, fl, al, ci⟩ : Lf) = Ls := rfl
  show AC Tryd.prog 82 [.v (.im false (eRow_i a0)), .v (.s (.int .i64 a1))] _ _
  refine AC.of_run2 tab_ok Tryd.func82 (by rfl) (by rfl) (by cbv) ⟨by decide, rfl⟩ fun F hP hA => ?_
  have hT : TabOk F.P tab := hP ▸ tab_ok
  have hM : F.P.follows .mixedOrders = true := hP ▸ mixed
  have hC : ∀ {f a o r}, AC Tryd.prog f a o r → AC F.P f a o r := fun h => hP ▸ h
  refine Run.seq ?_
  refine Run.region hL hT [] (by cbv) ?_ ?_
  · exact hq0
  refine Run.seq ?_
  obtain ⟨r1, h_r1, h⟩ := bnd h
  refine Run.region hL hT [(2, .call [false, false] [.v (.jk), .v (.jk)] [.v (.s (.int .i64 r1))])] (by cbv) ?_ ?_
  · exact (hq (hC (spec_RowAt_ac h_r1)) hq0)
  refine Run.seq ?_
  refine Run.region hL hT [] (by cbv) ?_ ?_
  · exact hq0
  refine Run.seq ?_
  refine Run.seq ?_
  refine Run.region hL hT [] (by cbv) ?_ ?_
  · exact hq0
  refine Run.block ?_
  refine Run.loop2 (fun (z6 : List Row) (z7 : Int) => ⟨30, 100000, [(0, .t (.im false (eRow_i a0))), (5, .t (.s (.int .i64 r1))), (6, .rf 1), (7, .t (.s (.int .i64 z7)))], [(1, .row 0 41 2 (eRow_o z6))]⟩) (x0 := []) (x1 := 0) h (Weak.of _ [(1, 8192)] hA (by cbv) ?_) (fun _ _ => rfl) ?_
  · repeat (first | exact hq0 | refine hq (by first | exact True.intro | rfl) ?_)
  · intro k z6 z7 h
    rw [spec_RowDrop.l0] at h
    refine Run.seq ?_
    refine Run.seq ?_
    refine Run.region hL hT [] (by cbv) ?_ ?_
    · exact (hq trivial hq0)
    rw [show ln (eRow_i a0) = lenI_Row a0 from ln_eq Row_i _]
    refine Run.cond (by cbv) (hq0) (fun c8 => ?_) (fun c8 => ?_)
    · have h := if_t c8 h
      refine Run.skip ?_
      refine Run.seq ?_
      refine Run.block ?_
      refine Run.seq ?_
      refine Run.region hL hT [] (by cbv) ?_ ?_
      · exact (hq trivial hq0)
      refine Run.cond (by cbv) (hq0) (fun c9 => ?_) (fun c9 => ?_)
      · have h := if_t c9 h
        obtain ⟨⟨x10v_Id, x10v_Cells⟩, h_x10, h⟩ := bnd h
        obtain ⟨⟨r11v_Id, r11v_Cells⟩, h_r11, h⟩ := bnd h
        obtain ⟨l12, h_l12, h⟩ := bnd h
        obtain ⟨l13, h_l13, h⟩ := bnd h
        refine Run.region hL hT [(3, .el [.s (.int .i64 x10v_Id), .im false (eInt_c x10v_Cells)]), (5, .call [false] [.ag [.jk, .jk]] [.ag [.s (.int .i64 r11v_Id), .ow 3 (eInt_c r11v_Cells)]])] (by cbv) ?_ ?_
        · exact (hq (get_le h_x10) (hq (get_lt (f := Row_i) h_x10) (hq (get_ge (f := Row_i) h_x10) (hq (hC (spec_l6Copy_ac h_r11)) (hq (app_mb (P := Tryd.prog) (f := Row_o) RLe.r (some_le (f := Row_o) h_l12 (RLe.cons rfl LLe.r RLe.nil)) h_l13) hq0)))))
        refine Run.row (rows := (ap (eRow_o z6) ([[.s (.int .i64 r11v_Id), .ow 3 (eInt_c r11v_Cells)]]))) 108199 (eRow_o l13) (by cbv) (app_le (f := Row_o) RLe.r (some_le (f := Row_o) h_l12 (RLe.cons rfl LLe.r RLe.nil)) h_l13) ?_
        refine Run.region hL hT [] (by cbv) ?_ ?_
        · exact (hq trivial hq0)
        refine ⟨l13, (ar .add .i64 z7 1), h, Weak.of _ [(1, 108199)] hA (by cbv) ?_⟩
        repeat (first | exact hq0 | refine hq (by first | exact True.intro | rfl) ?_)
      · have h := if_f c9 h
        refine Run.skip ?_
        refine Run.region hL hT [] (by cbv) ?_ ?_
        · exact (hq trivial hq0)
        refine ⟨z6, (ar .add .i64 z7 1), h, Weak.of _ [(1, 1)] hA (by cbv) ?_⟩
        repeat (first | exact hq0 | refine hq (by first | exact True.intro | rfl) ?_)
    · have h := if_f c8 h
      refine Run.exit ?_
      refine Run.seq ?_
      refine Run.region hL hT [] (by cbv) ?_ ?_
      · exact hq0
      refine Run.ret ?_
      cases h
      refine ⟨_, _, by cbv, ?_, ?_⟩
      · exact LLe.r
      · exact (ALe.v LLe.r ALe.nil)

set_option maxRecDepth 8000 in
theorem spec_RowPut_ac {a0 : List Row} {a1v_Id : Int} {a1v_Cells : List Int} {r : (List Row)} (h : spec_RowPut.f a0 (Row.mk a1v_Id a1v_Cells) = some r) : AC Tryd.prog 54 [.v (.im false (rowsOf Row_i a0)), .ag [.s (.int .i64 a1v_Id), .im false (rowsOf Int_c a1v_Cells)]] [.v (.jk), .ag [.jk, .jk]] [.v (.ow 41 (rowsOf Row_o r))] := by
  unfold spec_RowPut.f at h
  let ar := Ls.ar; let cm := Ls.cm; let bo := Ls.bo; let sc := Ls.sc; let sa := Ls.sa; let sx := Ls.sx; let ss := Ls.ss; let sl := Ls.sl; let bs := Ls.bs; let sb := Ls.sb; let ln := Ls.ln; let sr := Ls.sr; let ap := Ls.ap; let up := Ls.up; let rp := Ls.rp; let fr := Ls.fr; let ge := Ls.ge; let le := Ls.le; let lt := Ls.lt; let nz := Ls.nz; let mm := Ls.mm; let ma := Ls.ma; let sm := Ls.sm; let fl := Ls.fl; let al := Ls.al; let ci := Ls.ci
  let eInt_c := rowsOf Int_c
  let eRow_i := rowsOf Row_i
  let eRow_o := rowsOf Row_o
  let lenI_Row := @lenI Row
  have hL : (⟨ar, cm, bo, sc, sa, sx, ss, sl, bs, sb, ln, sr, ap, up, rp, fr, ge, le, lt, nz, mm, ma, sm, fl, al, ci⟩ : Lf) = Ls := rfl
  show AC Tryd.prog 54 [.v (.im false (eRow_i a0)), .ag [.s (.int .i64 a1v_Id), .im false (eInt_c a1v_Cells)]] _ _
  refine AC.of_run2 tab_ok Tryd.func54 (by rfl) (by rfl) (by cbv) ⟨by decide, rfl⟩ fun F hP hA => ?_
  have hT : TabOk F.P tab := hP ▸ tab_ok
  have hM : F.P.follows .mixedOrders = true := hP ▸ mixed
  have hC : ∀ {f a o r}, AC Tryd.prog f a o r → AC F.P f a o r := fun h => hP ▸ h
  refine Run.seq ?_
  refine Run.region hL hT [] (by cbv) ?_ ?_
  · exact hq0
  refine Run.seq ?_
  obtain ⟨r1, h_r1, h⟩ := bnd h
  refine Run.region hL hT [(3, .call [false, false] [.v (.jk), .v (.jk)] [.v (.ow 41 (eRow_o r1))])] (by cbv) ?_ ?_
  · exact (hq trivial (hq (hC (spec_RowDrop_ac h_r1)) hq0))
  refine Run.seq ?_
  refine Run.region hL hT [] (by cbv) ?_ ?_
  · exact hq0
  rw [show ln (eRow_o r1) = lenI_Row r1 from ln_eq Row_o _]
  obtain ⟨K3, h_K3, h⟩ := joinE h
  refine Run.join1 K3 (r := r) (fun (y2 : Int) => ⟨55, 100000, [(3, .pt 1 0 0), (5, .rf 2), (6, .t (.s (.int .i64 y2)))], [(1, .box 41 [.t (.s (.int .i64 a1v_Id)), .t (.im false (eInt_c a1v_Cells))]), (2, .row 0 41 2 (eRow_o r1))]⟩) ?_ ?_
  · skip
    refine Run.seq ?_
    obtain ⟨r4, h_r4, h⟩ := bnd h
    refine Run.region hL hT [(3, .call [false, false] [.v (.jk), .v (.jk)] [.v (.s (.int .i64 r4))])] (by cbv) ?_ ?_
    · exact (hq trivial (hq (hC (spec_RowAt_ac h_r4)) (hq trivial hq0)))
    refine Run.cond (by cbv) (hq0) (fun c5 => ?_) (fun c5 => ?_)
    · have h := if_t c5 h
      obtain ⟨r6, h_r6, h⟩ := bnd h
      refine Run.region hL hT [(3, .call [false, false] [.v (.jk), .v (.jk)] [.v (.s (.int .i64 r6))])] (by cbv) ?_ ?_
      · exact (hq trivial (hq (hC (spec_RowAt_ac h_r6)) hq0))
      refine ⟨r6, h, Weak.of _ [(1, 0), (2, 4099)] hA (by cbv) ?_⟩
      repeat (first | exact hq0 | refine hq (by first | exact True.intro | rfl) ?_)
    · have h := if_f c5 h
      refine Run.seq ?_
      refine Run.region hL hT [] (by cbv) ?_ ?_
      · exact (hq trivial hq0)
      rw [show ln (eRow_o r1) = lenI_Row r1 from ln_eq Row_o _]
      refine Run.block ?_
      refine Run.loop2 (fun (z12 : Int) (z13 : Int) => ⟨55, 100000, [(3, .pt 1 0 0), (5, .rf 2), (6, .t (.s (.int .i64 z12))), (7, .t (.s (.int .i64 z13)))], [(1, .box 41 [.t (.s (.int .i64 a1v_Id)), .t (.im false (eInt_c a1v_Cells))]), (2, .row 0 41 2 (eRow_o r1))]⟩) (x0 := (lenI_Row r1)) (x1 := (ar .sub .i64 (lenI_Row r1) 1)) h (Weak.of _ [(1, 0), (2, 4099)] hA (by cbv) ?_) (fun _ _ => rfl) ?_
      · repeat (first | exact hq0 | refine hq (by first | exact True.intro | rfl) ?_)
      · intro k z12 z13 h
        rw [spec_RowPut.l0] at h
        refine Run.seq ?_
        refine Run.seq ?_
        refine Run.region hL hT [] (by cbv) ?_ ?_
        · exact (hq trivial hq0)
        refine Run.cond (by cbv) (hq0) (fun c14 => ?_) (fun c14 => ?_)
        · have h := if_t c14 h
          refine Run.skip ?_
          refine Run.seq ?_
          refine Run.block ?_
          refine Run.seq ?_
          obtain ⟨⟨x15v_Id, x15v_Cells⟩, h_x15, h⟩ := bnd h
          refine Run.draw hL hT hM [(4, .el [.s (.int .i64 x15v_Id), .ow 3 (eInt_c x15v_Cells)])] (by cbv) (by cbv) (by cbv) (by cbv) (by cbv) ?_ ?_
          · exact (hq (get_le h_x15) (hq (get_lt (f := Row_o) h_x15) (hq (get_le h_x15) (hq (get_lt (f := Row_o) h_x15) (hq (get_ge (f := Row_o) h_x15) (hq trivial (hq trivial hq0)))))))
          refine Run.cond (by cbv) (hq0) (fun c16 => ?_) (fun c16 => ?_)
          · have h := if_t c16 h
            refine Run.region hL hT [] (by cbv) ?_ ?_
            · exact hq0
            refine Run.region hL hT [] (by cbv) ?_ ?_
            · exact (hq trivial hq0)
            refine ⟨z13, (ar .sub .i64 z13 1), h, Weak.of _ [(1, 1), (2, 2)] hA (by cbv) ?_⟩
            repeat (first | exact hq0 | refine hq (by first | exact True.intro | rfl) ?_)
          · have h := if_f c16 h
            refine Run.skip ?_
            refine Run.region hL hT [] (by cbv) ?_ ?_
            · exact (hq trivial hq0)
            refine ⟨z12, (ar .sub .i64 z13 1), h, Weak.of _ [(1, 1), (2, 2)] hA (by cbv) ?_⟩
            repeat (first | exact hq0 | refine hq (by first | exact True.intro | rfl) ?_)
        · have h := if_f c14 h
          refine Run.exit ?_
          refine ⟨z12, h, Weak.of _ [(1, 1), (2, 2)] hA (by cbv) ?_⟩
          repeat (first | exact hq0 | refine hq (by first | exact True.intro | rfl) ?_)
  · intro y2 h
    rw [h_K3] at h
    refine Run.seq ?_
    obtain ⟨l17, h_l17, h⟩ := bnd h
    obtain ⟨l18, h_l18, h⟩ := bnd h
    refine Run.region hL hT [] (by cbv) ?_ ?_
    · exact (hq (cut_0 h_l17) (hq (cut_1 h_l17) (hq (cut_2 (f := Row_o) h_l17) (hq (cut_2 (f := Row_o) h_l17) (hq (app_mb (P := Tryd.prog) (f := Row_o) RLe.r (mv_le Row_o h_l17) h_l18) hq0)))))
    refine Run.row (rows := (ap ([]) ((sr (eRow_o r1) 0 y2)))) 100004 (eRow_o l18) (by cbv) (app_le (f := Row_o) RLe.r (mv_le Row_o h_l17) h_l18) ?_
    refine Run.seq ?_
    obtain ⟨⟨r19v_Id, r19v_Cells⟩, h_r19, h⟩ := bnd h
    obtain ⟨l20, h_l20, h⟩ := bnd h
    obtain ⟨l21, h_l21, h⟩ := bnd h
    refine Run.region hL hT [(2, .call [false] [.ag [.jk, .jk]] [.ag [.s (.int .i64 r19v_Id), .ow 3 (eInt_c r19v_Cells)]])] (by cbv) ?_ ?_
    · exact (hq trivial (hq (hC (spec_l6Copy_ac h_r19)) (hq (app_mb (P := Tryd.prog) (f := Row_o) RLe.r (some_le (f := Row_o) h_l20 (RLe.cons rfl LLe.r RLe.nil)) h_l21) hq0)))
    refine Run.row (rows := (ap (eRow_o l18) ([[.s (.int .i64 r19v_Id), .ow 3 (eInt_c r19v_Cells)]]))) 104100 (eRow_o l21) (by cbv) (app_le (f := Row_o) RLe.r (some_le (f := Row_o) h_l20 (RLe.cons rfl LLe.r RLe.nil)) h_l21) ?_
    refine Run.seq ?_
    obtain ⟨l22, h_l22, h⟩ := bnd h
    obtain ⟨l23, h_l23, h⟩ := bnd h
    refine Run.region hL hT [] (by cbv) ?_ ?_
    · exact (hq (cut_0 h_l22) (hq (jr_1 Row_o h_l17 h_l18 h_l22) (hq (Int.le_refl _) (hq (Int.le_refl _) (hq (app_mb (P := Tryd.prog) (f := Row_o) RLe.r (jr_sle Row_o h_l17 h_l18 h_l22) h_l23) hq0)))))
    refine Run.row (rows := (ap (eRow_o l21) ((sr (ap (ap (sr (eRow_o r1) 0 0) (rp (ar .sub .i64 y2 0) [.jk, .jk])) (sr (eRow_o r1) y2 (ln (eRow_o r1)))) y2 (ln (ap (ap (sr (eRow_o r1) 0 0) (rp (ar .sub .i64 y2 0) [.jk, .jk])) (sr (eRow_o r1) y2 (ln (eRow_o r1))))))))) 108196 (eRow_o l23) (by cbv) (app_le (f := Row_o) RLe.r (jr_sle Row_o h_l17 h_l18 h_l22) h_l23) ?_
    refine Run.ret ?_
    cases h
    refine ⟨_, _, by cbv, ?_, ?_⟩
    · exact LLe.r
    · exact (ALe.v LLe.r ALe.nil)

set_option maxRecDepth 8000 in
theorem spec_l6DrawRows_ac {a0v_b : List Int} {a0v_i : Int} {a0v_h : Int} {a1 : Int} {r : l1Cur × (List Row)} (h : spec_l6DrawRows.f (l1Cur.mk a0v_b a0v_i a0v_h) a1 = some r) : AC Tryd.prog 24 [.v (.bx 85 [.im true (rowsOf u8_c a0v_b), .s (.int .i64 a0v_i), .s (.int .i64 a0v_h)]), .v (.s (.int .i64 a1))] [.v (.bx 85 [.im true (rowsOf u8_c a0v_b), .s (.int .i64 r.1.i), .s (.int .i64 r.1.h)]), .v (.jk)] [.v (.ow 41 (rowsOf Row_o r.2))] := by
  unfold spec_l6DrawRows.f at h
  let ar := Ls.ar; let cm := Ls.cm; let bo := Ls.bo; let sc := Ls.sc; let sa := Ls.sa; let sx := Ls.sx; let ss := Ls.ss; let sl := Ls.sl; let bs := Ls.bs; let sb := Ls.sb; let ln := Ls.ln; let sr := Ls.sr; let ap := Ls.ap; let up := Ls.up; let rp := Ls.rp; let fr := Ls.fr; let ge := Ls.ge; let le := Ls.le; let lt := Ls.lt; let nz := Ls.nz; let mm := Ls.mm; let ma := Ls.ma; let sm := Ls.sm; let fl := Ls.fl; let al := Ls.al; let ci := Ls.ci
  let eInt_c := rowsOf Int_c
  let eRow_o := rowsOf Row_o
  let eu8_c := rowsOf u8_c
  have hL : (⟨ar, cm, bo, sc, sa, sx, ss, sl, bs, sb, ln, sr, ap, up, rp, fr, ge, le, lt, nz, mm, ma, sm, fl, al, ci⟩ : Lf) = Ls := rfl
  show AC Tryd.prog 24 [.v (.bx 85 [.im true (eu8_c a0v_b), .s (.int .i64 a0v_i), .s (.int .i64 a0v_h)]), .v (.s (.int .i64 a1))] _ _
  refine AC.of_run2 tab_ok Tryd.func24 (by rfl) (by rfl) (by cbv) ⟨by decide, rfl⟩ fun F hP hA => ?_
  have hT : TabOk F.P tab := hP ▸ tab_ok
  have hM : F.P.follows .mixedOrders = true := hP ▸ mixed
  have hC : ∀ {f a o r}, AC Tryd.prog f a o r → AC F.P f a o r := fun h => hP ▸ h
  refine Run.seq ?_
  refine Run.region hL hT [] (by cbv) ?_ ?_
  · exact hq0
  refine Run.seq ?_
  refine Run.region hL hT [] (by cbv) ?_ ?_
  · exact hq0
  refine Run.seq ?_
  refine Run.seq ?_
  refine Run.region hL hT [] (by cbv) ?_ ?_
  · exact hq0
  refine Run.block ?_
  refine Run.loop4 (fun (z7 : Int) (z8 : Int) (z9 : List Row) (z10 : Int) => ⟨20, 100000, [(0, .pt 0 0 0), (1, .t (.s (.int .i64 a1))), (5, .rf 1), (6, .t (.s (.int .i64 z10)))], [(0, .box 85 [.t (.im true (eu8_c a0v_b)), .t (.s (.int .i64 z7)), .t (.s (.int .i64 z8))]), (1, .row 0 41 2 (eRow_o z9))]⟩) (x0 := a0v_i) (x1 := a0v_h) (x2 := []) (x3 := 0) h (Weak.of _ [(0, 0), (1, 4097)] hA (by cbv) ?_) (fun _ _ _ _ => rfl) ?_
  · repeat (first | exact hq0 | refine hq (by first | exact True.intro | rfl) ?_)
  · intro k z7 z8 z9 z10 h
    rw [spec_l6DrawRows.l0] at h
    refine Run.seq ?_
    refine Run.seq ?_
    obtain ⟨⟨⟨r11v_1v_b, r11v_1v_i, r11v_1v_h⟩, r11v_2⟩, h_r11, h⟩ := bnd h
    refine Run.region hL hT [(2, .call [true, false] [.v (.bx 85 [.im true (eu8_c a0v_b), .s (.int .i64 r11v_1v_i), .s (.int .i64 r11v_1v_h)]), .v (.jk)] [.v (.s (.int .i64 r11v_2))])] (by cbv) ?_ ?_
    · exact (hq (hC (spec_l1Below_ac h_r11)) (hq trivial hq0))
    refine Run.cond (by cbv) (hq0) (fun c12 => ?_) (fun c12 => ?_)
    · have h := if_t c12 h
      refine Run.skip ?_
      refine Run.seq ?_
      refine Run.block ?_
      obtain ⟨⟨⟨r13v_1v_b, r13v_1v_i, r13v_1v_h⟩, ⟨r13v_2v_Id, r13v_2v_Cells⟩⟩, h_r13, h⟩ := bnd h
      obtain ⟨r14, h_r14, h⟩ := bnd h
      refine Run.region hL hT [(3, .call [true, false] [.v (.bx 85 [.im true (eu8_c a0v_b), .s (.int .i64 r13v_1v_i), .s (.int .i64 r13v_1v_h)]), .v (.jk)] [.ag [.s (.int .i64 r13v_2v_Id), .ow 3 (eInt_c r13v_2v_Cells)]]), (4, .call [false, false] [.v (.jk), .ag [.jk, .jk]] [.v (.ow 41 (eRow_o r14))])] (by cbv) ?_ ?_
      · exact (hq (hC (spec_l6DrawRow_ac h_r13)) (hq (hC (AC.args (spec_RowPut_ac h_r14) (ALe.v (LLe.im (RLe.eq (fr_row Row_o_z _))) (ALe.ag rfl (LLe.c (LLe.cons (LLe.im (RLe.eq (fr_row Int_c_z _))) LLe.nil)) ALe.nil)))) hq0))
      refine Run.region hL hT [] (by cbv) ?_ ?_
      · exact (hq trivial hq0)
      refine ⟨r13v_1v_i, r13v_1v_h, r14, (ar .add .i64 z10 1), h, Weak.of _ [(0, 0), (1, 104100)] hA (by cbv) ?_⟩
      repeat (first | exact hq0 | refine hq (by first | exact True.intro | rfl) ?_)
    · have h := if_f c12 h
      refine Run.exit ?_
      refine Run.seq ?_
      refine Run.region hL hT [] (by cbv) ?_ ?_
      · exact hq0
      refine Run.ret ?_
      cases h
      refine ⟨_, _, by cbv, ?_, ?_⟩
      · exact LLe.r
      · exact (ALe.v LLe.r ALe.nil)

set_option maxRecDepth 8000 in
theorem spec_DrawDocOf_ac {a0 : List Int} {r : Query × (List Row) × (List Int)} (h : spec_DrawDocOf.f a0 = some r) : AC Tryd.prog 6 [.v (.im true (rowsOf u8_c a0))] [.v (.jk)] [.ag [.s (.int .i64 r.1.Table), .ow 83 (rowsOf Cond_c r.1.Where), .s (.int .i64 r.1.Order), .s (.bool r.1.Down), .s (.int .i64 r.1.First), .ow 3 (rowsOf Int_c r.1.Show), .s (.bool r.1.Kids), .s (.int .i64 r.1.KidTable), .s (.int .i64 r.1.KidCol)], .v (.ow 41 (rowsOf Row_o r.2.1)), .v (.ow 3 (rowsOf Int_c r.2.2))] := by
  unfold spec_DrawDocOf.f at h
  let ar := Ls.ar; let cm := Ls.cm; let bo := Ls.bo; let sc := Ls.sc; let sa := Ls.sa; let sx := Ls.sx; let ss := Ls.ss; let sl := Ls.sl; let bs := Ls.bs; let sb := Ls.sb; let ln := Ls.ln; let sr := Ls.sr; let ap := Ls.ap; let up := Ls.up; let rp := Ls.rp; let fr := Ls.fr; let ge := Ls.ge; let le := Ls.le; let lt := Ls.lt; let nz := Ls.nz; let mm := Ls.mm; let ma := Ls.ma; let sm := Ls.sm; let fl := Ls.fl; let al := Ls.al; let ci := Ls.ci
  let eCond_c := rowsOf Cond_c
  let eInt_c := rowsOf Int_c
  let eRow_o := rowsOf Row_o
  let eu8_c := rowsOf u8_c
  let lenI_Row := @lenI Row
  have hL : (⟨ar, cm, bo, sc, sa, sx, ss, sl, bs, sb, ln, sr, ap, up, rp, fr, ge, le, lt, nz, mm, ma, sm, fl, al, ci⟩ : Lf) = Ls := rfl
  show AC Tryd.prog 6 [.v (.im true (eu8_c a0))] _ _
  refine AC.of_run2 tab_ok Tryd.func6 (by rfl) (by rfl) (by cbv) ⟨by decide, rfl⟩ fun F hP hA => ?_
  have hT : TabOk F.P tab := hP ▸ tab_ok
  have hM : F.P.follows .mixedOrders = true := hP ▸ mixed
  have hC : ∀ {f a o r}, AC Tryd.prog f a o r → AC F.P f a o r := fun h => hP ▸ h
  refine Run.seq ?_
  refine Run.region hL hT [] (by cbv) ?_ ?_
  · exact hq0
  refine Run.seq ?_
  obtain ⟨⟨r1v_b, r1v_i, r1v_h⟩, h_r1, h⟩ := bnd h
  refine Run.region hL hT [(1, .call [true] [.v (.jk)] [.v (.bx 85 [.im true (eu8_c r1v_b), .s (.int .i64 r1v_i), .s (.int .i64 r1v_h)])])] (by cbv) ?_ ?_
  · exact (hq (hC (spec_l1New_ac h_r1)) hq0)
  refine Run.seq ?_
  obtain ⟨⟨⟨r2v_1v_b, r2v_1v_i, r2v_1v_h⟩, ⟨r2v_2v_Cols⟩⟩, h_r2, h⟩ := bnd h
  refine Run.region hL hT [(1, .call [true] [.v (.bx 85 [.im true (eu8_c r1v_b), .s (.int .i64 r2v_1v_i), .s (.int .i64 r2v_1v_h)])] [.ag [.ow 3 (eInt_c r2v_2v_Cols)]])] (by cbv) ?_ ?_
  · exact (hq (hC (spec_l6DrawSchema_ac h_r2)) (hq trivial hq0))
  refine Run.seq ?_
  obtain ⟨⟨⟨r3v_1v_b, r3v_1v_i, r3v_1v_h⟩, ⟨r3v_2v_Table, r3v_2v_Where, r3v_2v_Order, r3v_2v_Down, r3v_2v_First, r3v_2v_Show, r3v_2v_Kids, r3v_2v_KidTable, r3v_2v_KidCol⟩⟩, h_r3, h⟩ := bnd h
  refine Run.region hL hT [(2, .call [true, false] [.v (.bx 85 [.im true (eu8_c r1v_b), .s (.int .i64 r3v_1v_i), .s (.int .i64 r3v_1v_h)]), .ag [.jk]] [.ag [.s (.int .i64 r3v_2v_Table), .ow 83 (eCond_c r3v_2v_Where), .s (.int .i64 r3v_2v_Order), .s (.bool r3v_2v_Down), .s (.int .i64 r3v_2v_First), .ow 3 (eInt_c r3v_2v_Show), .s (.bool r3v_2v_Kids), .s (.int .i64 r3v_2v_KidTable), .s (.int .i64 r3v_2v_KidCol)]])] (by cbv) ?_ ?_
  · exact (hq trivial (hq (hC (AC.args (spec_l9Draw_ac h_r3) (ALe.v LLe.r (ALe.ag rfl (LLe.cons (LLe.im (RLe.eq (fr_row Int_c_z _))) LLe.nil) ALe.nil)))) (hq trivial hq0)))
  refine Run.seq ?_
  obtain ⟨⟨⟨r4v_1v_b, r4v_1v_i, r4v_1v_h⟩, r4v_2⟩, h_r4, h⟩ := bnd h
  refine Run.region hL hT [(1, .call [true, false] [.v (.bx 85 [.im true (eu8_c r1v_b), .s (.int .i64 r4v_1v_i), .s (.int .i64 r4v_1v_h)]), .v (.jk)] [.v (.ow 41 (eRow_o r4v_2))])] (by cbv) ?_ ?_
  · exact (hq (hC (spec_l6DrawRows_ac h_r4)) hq0)
  refine Run.seq ?_
  refine Run.region hL hT [] (by cbv) ?_ ?_
  · exact hq0
  obtain ⟨K8, h_K8, h⟩ := joinE h
  refine Run.join3 K8 (r := r) (fun (y5 : Int) (y6 : Int) (y7 : List Int) => ⟨49, 100000, [(2, .pt 1 0 0), (5, .pt 2 0 0), (7, .pt 3 0 0), (8, .rf 6), (9, .rf 7)], [(1, .box 27 [.t (.s (.int .i64 0)), .t (.s (.slice none 0 0)), .t (.s (.int .i64 0)), .t (.s (.bool false)), .t (.s (.int .i64 0)), .t (.s (.slice none 0 0)), .t (.s (.bool false)), .t (.s (.int .i64 0)), .t (.s (.int .i64 0))]), (2, .box 85 [.t (.im true (eu8_c r1v_b)), .t (.s (.int .i64 y5)), .t (.s (.int .i64 y6))]), (3, .box 27 [.t (.s (.int .i64 r3v_2v_Table)), .rf 4, .t (.s (.int .i64 r3v_2v_Order)), .t (.s (.bool r3v_2v_Down)), .t (.s (.int .i64 r3v_2v_First)), .rf 5, .t (.s (.bool r3v_2v_Kids)), .t (.s (.int .i64 r3v_2v_KidTable)), .t (.s (.int .i64 r3v_2v_KidCol))]), (4, .row 0 83 3 (eCond_c r3v_2v_Where)), (5, .row 0 3 1 (eInt_c r3v_2v_Show)), (6, .row 0 41 2 (eRow_o r4v_2)), (7, .row 0 3 1 (eInt_c y7))]⟩) ?_ ?_
  · skip
    refine Run.seq ?_
    refine Run.region hL hT [] (by cbv) ?_ ?_
    · exact hq0
    refine Run.block ?_
    refine Run.loop4 (fun (z31 : Int) (z32 : Int) (z33 : List Int) (z34 : Int) => ⟨49, 100000, [(2, .pt 1 0 0), (5, .pt 2 0 0), (7, .pt 3 0 0), (8, .rf 6), (9, .rf 7), (10, .t (.s (.int .i64 z34)))], [(1, .box 27 [.t (.s (.int .i64 0)), .t (.s (.slice none 0 0)), .t (.s (.int .i64 0)), .t (.s (.bool false)), .t (.s (.int .i64 0)), .t (.s (.slice none 0 0)), .t (.s (.bool false)), .t (.s (.int .i64 0)), .t (.s (.int .i64 0))]), (2, .box 85 [.t (.im true (eu8_c r1v_b)), .t (.s (.int .i64 z31)), .t (.s (.int .i64 z32))]), (3, .box 27 [.t (.s (.int .i64 r3v_2v_Table)), .rf 4, .t (.s (.int .i64 r3v_2v_Order)), .t (.s (.bool r3v_2v_Down)), .t (.s (.int .i64 r3v_2v_First)), .rf 5, .t (.s (.bool r3v_2v_Kids)), .t (.s (.int .i64 r3v_2v_KidTable)), .t (.s (.int .i64 r3v_2v_KidCol))]), (4, .row 0 83 3 (eCond_c r3v_2v_Where)), (5, .row 0 3 1 (eInt_c r3v_2v_Show)), (6, .row 0 41 2 (eRow_o r4v_2)), (7, .row 0 3 1 (eInt_c z33))]⟩) (x0 := r4v_1v_i) (x1 := r4v_1v_h) (x2 := []) (x3 := 0) h (Weak.of _ [(1, 0), (2, 4097), (3, 12291), (4, 12290), (5, 12546), (6, 16385), (7, 20480)] hA (by cbv) ?_) (fun _ _ _ _ => rfl) ?_
    · repeat (first | exact hq0 | refine hq (by first | exact True.intro | rfl) ?_)
    · intro k z31 z32 z33 z34 h
      rw [spec_DrawDocOf.l0] at h
      refine Run.seq ?_
      refine Run.seq ?_
      obtain ⟨⟨⟨r35v_1v_b, r35v_1v_i, r35v_1v_h⟩, r35v_2⟩, h_r35, h⟩ := bnd h
      refine Run.region hL hT [(4, .call [true, false] [.v (.bx 85 [.im true (eu8_c r1v_b), .s (.int .i64 r35v_1v_i), .s (.int .i64 r35v_1v_h)]), .v (.jk)] [.v (.s (.int .i64 r35v_2))])] (by cbv) ?_ ?_
      · exact (hq (hC (spec_l1Below_ac h_r35)) (hq trivial (hq trivial (hq trivial hq0))))
      rw [show ln (eRow_o r4v_2) = lenI_Row r4v_2 from ln_eq Row_o _]
      refine Run.cond (by cbv) (hq0) (fun c36 => ?_) (fun c36 => ?_)
      · have h := if_t c36 h
        refine Run.skip ?_
        refine Run.seq ?_
        refine Run.block ?_
        obtain ⟨⟨⟨r37v_1v_b, r37v_1v_i, r37v_1v_h⟩, r37v_2⟩, h_r37, h⟩ := bnd h
        obtain ⟨l38, h_l38, h⟩ := bnd h
        obtain ⟨l39, h_l39, h⟩ := bnd h
        refine Run.region hL hT [(2, .call [true, false] [.v (.bx 85 [.im true (eu8_c r1v_b), .s (.int .i64 r37v_1v_i), .s (.int .i64 r37v_1v_h)]), .v (.jk)] [.v (.s (.int .i64 r37v_2))])] (by cbv) ?_ ?_
        · exact (hq (hC (spec_l1Below_ac h_r37)) (hq (app_mb (P := Tryd.prog) (f := Int_c) RLe.r (some_le (f := Int_c) h_l38 (RLe.cons rfl LLe.r RLe.nil)) h_l39) hq0))
        refine Run.row (rows := (ap (eInt_c z33) ([[.s (.int .i64 r37v_2)]]))) 104100 (eInt_c l39) (by cbv) (app_le (f := Int_c) RLe.r (some_le (f := Int_c) h_l38 (RLe.cons rfl LLe.r RLe.nil)) h_l39) ?_
        refine Run.region hL hT [] (by cbv) ?_ ?_
        · exact (hq trivial hq0)
        refine ⟨r37v_1v_i, r37v_1v_h, l39, (ar .add .i64 z34 1), h, Weak.of _ [(1, 1), (2, 2), (3, 3), (4, 4), (5, 5), (6, 6), (7, 104100)] hA (by cbv) ?_⟩
        repeat (first | exact hq0 | refine hq (by first | exact True.intro | rfl) ?_)
      · have h := if_f c36 h
        refine Run.exit ?_
        refine ⟨r35v_1v_i, r35v_1v_h, z33, h, Weak.of _ [(1, 1), (2, 2), (3, 3), (4, 4), (5, 5), (6, 6), (7, 7)] hA (by cbv) ?_⟩
        repeat (first | exact hq0 | refine hq (by first | exact True.intro | rfl) ?_)
  · intro y5 y6 y7 h
    rw [h_K8] at h
    refine Run.seq ?_
    refine Run.seq ?_
    obtain ⟨⟨⟨r40v_1v_b, r40v_1v_i, r40v_1v_h⟩, r40v_2⟩, h_r40, h⟩ := bnd h
    refine Run.region hL hT [(1, .call [true, false] [.v (.bx 85 [.im true (eu8_c r1v_b), .s (.int .i64 r40v_1v_i), .s (.int .i64 r40v_1v_h)]), .v (.jk)] [.v (.s (.bool r40v_2))])] (by cbv) ?_ ?_
    · exact (hq (hC (spec_l1Once_ac h_r40)) hq0)
    refine Run.cond (by cbv) (hq0) (fun c41 => ?_) (fun c41 => ?_)
    · have h := if_t c41 h
      refine Run.block ?_
      refine Run.loop3 (fun (z63 : Int) (z64 : Int) (z65 : List Row) => ⟨49, 100000, [(2, .pt 1 0 0), (5, .pt 2 0 0), (7, .pt 3 0 0), (8, .rf 6), (9, .rf 7)], [(1, .box 27 [.t (.s (.int .i64 0)), .t (.s (.slice none 0 0)), .t (.s (.int .i64 0)), .t (.s (.bool false)), .t (.s (.int .i64 0)), .t (.s (.slice none 0 0)), .t (.s (.bool false)), .t (.s (.int .i64 0)), .t (.s (.int .i64 0))]), (2, .box 85 [.t (.im true (eu8_c r1v_b)), .t (.s (.int .i64 z63)), .t (.s (.int .i64 z64))]), (3, .box 27 [.t (.s (.int .i64 r3v_2v_Table)), .rf 4, .t (.s (.int .i64 r3v_2v_Order)), .t (.s (.bool r3v_2v_Down)), .t (.s (.int .i64 r3v_2v_First)), .rf 5, .t (.s (.bool r3v_2v_Kids)), .t (.s (.int .i64 r3v_2v_KidTable)), .t (.s (.int .i64 r3v_2v_KidCol))]), (4, .row 0 83 3 (eCond_c r3v_2v_Where)), (5, .row 0 3 1 (eInt_c r3v_2v_Show)), (6, .row 0 41 2 (eRow_o z65)), (7, .row 0 3 1 (eInt_c y7))]⟩) (x0 := r40v_1v_i) (x1 := r40v_1v_h) (x2 := r4v_2) h (Weak.of _ [(1, 1), (2, 2), (3, 3), (4, 4), (5, 5), (6, 6), (7, 7)] hA (by cbv) ?_) (fun _ _ _ => rfl) ?_
      · repeat (first | exact hq0 | refine hq (by first | exact True.intro | rfl) ?_)
      · intro k z63 z64 z65 h
        rw [spec_DrawDocOf.l1] at h
        refine Run.seq ?_
        refine Run.seq ?_
        refine Run.region hL hT [] (by cbv) ?_ ?_
        · exact (hq trivial hq0)
        rw [show ln (eRow_o z65) = lenI_Row z65 from ln_eq Row_o _]
        refine Run.cond (by cbv) (hq0) (fun c66 => ?_) (fun c66 => ?_)
        · have h := if_t c66 h
          refine Run.skip ?_
          refine Run.block ?_
          obtain ⟨⟨⟨r67v_1v_b, r67v_1v_i, r67v_1v_h⟩, ⟨r67v_2v_Id, r67v_2v_Cells⟩⟩, h_r67, h⟩ := bnd h
          obtain ⟨l68, h_l68, h⟩ := bnd h
          obtain ⟨l69, h_l69, h⟩ := bnd h
          refine Run.region hL hT [(2, .call [true, false] [.v (.bx 85 [.im true (eu8_c r1v_b), .s (.int .i64 r67v_1v_i), .s (.int .i64 r67v_1v_h)]), .v (.jk)] [.ag [.s (.int .i64 r67v_2v_Id), .ow 3 (eInt_c r67v_2v_Cells)]])] (by cbv) ?_ ?_
          · exact (hq (hC (spec_l6DrawRow_ac h_r67)) (hq (app_mb (P := Tryd.prog) (f := Row_o) RLe.r (some_le (f := Row_o) h_l68 (RLe.cons rfl LLe.r RLe.nil)) h_l69) hq0))
          refine ⟨r67v_1v_i, r67v_1v_h, l69, h, (Weak.row (rows := (ap (eRow_o z65) ([[.s (.int .i64 r67v_2v_Id), .ow 3 (eInt_c r67v_2v_Cells)]]))) 104100 (eRow_o l69) (by cbv) (app_le (f := Row_o) RLe.r (some_le (f := Row_o) h_l68 (RLe.cons rfl LLe.r RLe.nil)) h_l69)).trans (Weak.of _ [(1, 1), (2, 2), (3, 3), (4, 4), (5, 5), (6, 104100), (7, 7)] hA (by cbv) ?_)⟩
          repeat (first | exact hq0 | refine hq (by first | exact True.intro | rfl) ?_)
        · have h := if_f c66 h
          refine Run.exit ?_
          refine Run.seq ?_
          refine Run.region hL hT [] (by cbv) ?_ ?_
          · exact (hq trivial (hq trivial hq0))
          refine Run.ret ?_
          cases h
          refine ⟨_, _, by cbv, ?_, ?_⟩
          · exact LLe.r
          · exact (ALe.ag rfl LLe.r (ALe.v LLe.r (ALe.v LLe.r ALe.nil)))
    · have h := if_f c41 h
      refine Run.skip ?_
      refine Run.seq ?_
      refine Run.region hL hT [] (by cbv) ?_ ?_
      · exact (hq trivial (hq trivial hq0))
      refine Run.ret ?_
      cases h
      refine ⟨_, _, by cbv, ?_, ?_⟩
      · exact LLe.r
      · exact (ALe.ag rfl LLe.r (ALe.v LLe.r (ALe.v LLe.r ALe.nil)))

set_option maxRecDepth 8000 in
theorem impl_firstOf_ac {a0v_Table : Int} {a0v_Where : List Cond} {a0v_Order : Int} {a0v_Down : Bool} {a0v_First : Int} {a0v_Show : List Int} {a0v_Kids : Bool} {a0v_KidTable : Int} {a0v_KidCol : Int} {a1 : Int} {r : Int} (h : impl_firstOf.f (Query.mk a0v_Table a0v_Where a0v_Order a0v_Down a0v_First a0v_Show a0v_Kids a0v_KidTable a0v_KidCol) a1 = some r) : AC Tryd.prog 56 [.ag [.s (.int .i64 a0v_Table), .im false (rowsOf Cond_c a0v_Where), .s (.int .i64 a0v_Order), .s (.bool a0v_Down), .s (.int .i64 a0v_First), .im false (rowsOf Int_c a0v_Show), .s (.bool a0v_Kids), .s (.int .i64 a0v_KidTable), .s (.int .i64 a0v_KidCol)], .v (.s (.int .i64 a1))] [.ag [.jk, .jk, .jk, .jk, .jk, .jk, .jk, .jk, .jk], .v (.jk)] [.v (.s (.int .i64 r))] := by
  unfold impl_firstOf.f at h
  let ar := Ls.ar; let cm := Ls.cm; let bo := Ls.bo; let sc := Ls.sc; let sa := Ls.sa; let sx := Ls.sx; let ss := Ls.ss; let sl := Ls.sl; let bs := Ls.bs; let sb := Ls.sb; let ln := Ls.ln; let sr := Ls.sr; let ap := Ls.ap; let up := Ls.up; let rp := Ls.rp; let fr := Ls.fr; let ge := Ls.ge; let le := Ls.le; let lt := Ls.lt; let nz := Ls.nz; let mm := Ls.mm; let ma := Ls.ma; let sm := Ls.sm; let fl := Ls.fl; let al := Ls.al; let ci := Ls.ci
  let eCond_c := rowsOf Cond_c
  let eInt_c := rowsOf Int_c
  have hL : (⟨ar, cm, bo, sc, sa, sx, ss, sl, bs, sb, ln, sr, ap, up, rp, fr, ge, le, lt, nz, mm, ma, sm, fl, al, ci⟩ : Lf) = Ls := rfl
  show AC Tryd.prog 56 [.ag [.s (.int .i64 a0v_Table), .im false (eCond_c a0v_Where), .s (.int .i64 a0v_Order), .s (.bool a0v_Down), .s (.int .i64 a0v_First), .im false (eInt_c a0v_Show), .s (.bool a0v_Kids), .s (.int .i64 a0v_KidTable), .s (.int .i64 a0v_KidCol)], .v (.s (.int .i64 a1))] _ _
  refine AC.of_run2 tab_ok Tryd.func56 (by rfl) (by rfl) (by cbv) ⟨by decide, rfl⟩ fun F hP hA => ?_
  have hT : TabOk F.P tab := hP ▸ tab_ok
  have hM : F.P.follows .mixedOrders = true := hP ▸ mixed
  have hC : ∀ {f a o r}, AC Tryd.prog f a o r → AC F.P f a o r := fun h => hP ▸ h
  refine Run.seq ?_
  refine Run.region hL hT [] (by cbv) ?_ ?_
  · exact hq0
  refine Run.seq ?_
  refine Run.seq ?_
  refine Run.region hL hT [] (by cbv) ?_ ?_
  · exact (hq trivial (hq trivial hq0))
  refine Run.cond (by cbv) (hq0) (fun c1 => ?_) (fun c1 => ?_)
  · have h := if_t c1 h
    refine Run.seq ?_
    refine Run.region hL hT [] (by cbv) ?_ ?_
    · exact hq0
    refine Run.ret ?_
    cases h
    refine ⟨_, _, by cbv, ?_, ?_⟩
    · exact LLe.r
    · exact (ALe.v LLe.r ALe.nil)
  · have h := if_f c1 h
    refine Run.skip ?_
    refine Run.seq ?_
    obtain ⟨m2, h_m2, h⟩ := bnd h
    obtain ⟨m3, h_m3, h⟩ := bnd h
    refine Run.region hL hT [(2, .hd [] (.t (.s (.int .i64 m2))) []), (4, .hd [] (.t (.s (.int .i64 m3))) [])] (by cbv) ?_ ?_
    · exact (hq trivial (hq (hand_max h_m2) (hq (hand_min h_m3) hq0)))
    refine Run.ret ?_
    cases h
    refine ⟨_, _, by cbv, ?_, ?_⟩
    · exact LLe.r
    · exact (ALe.v LLe.r ALe.nil)

set_option maxRecDepth 8000 in
theorem impl_rowDocs_ac {a0v_Table : Int} {a0v_Where : List Cond} {a0v_Order : Int} {a0v_Down : Bool} {a0v_First : Int} {a0v_Show : List Int} {a0v_Kids : Bool} {a0v_KidTable : Int} {a0v_KidCol : Int} {a1 : List Row} {a2 : List Int} {r : (List Json)} (h : impl_rowDocs.f (Query.mk a0v_Table a0v_Where a0v_Order a0v_Down a0v_First a0v_Show a0v_Kids a0v_KidTable a0v_KidCol) a1 a2 = some r) : AC Tryd.prog 28 [.ag [.s (.int .i64 a0v_Table), .im false (rowsOf Cond_c a0v_Where), .s (.int .i64 a0v_Order), .s (.bool a0v_Down), .s (.int .i64 a0v_First), .im false (rowsOf Int_c a0v_Show), .s (.bool a0v_Kids), .s (.int .i64 a0v_KidTable), .s (.int .i64 a0v_KidCol)], .v (.im false (rowsOf Row_i a1)), .v (.im false (rowsOf Int_c a2))] [.ag [.jk, .jk, .jk, .jk, .jk, .jk, .jk, .jk, .jk], .v (.jk), .v (.jk)] [.v (.ow 34 (rowsOf Json_o r))] := by
  unfold impl_rowDocs.f at h
  let ar := Ls.ar; let cm := Ls.cm; let bo := Ls.bo; let sc := Ls.sc; let sa := Ls.sa; let sx := Ls.sx; let ss := Ls.ss; let sl := Ls.sl; let bs := Ls.bs; let sb := Ls.sb; let ln := Ls.ln; let sr := Ls.sr; let ap := Ls.ap; let up := Ls.up; let rp := Ls.rp; let fr := Ls.fr; let ge := Ls.ge; let le := Ls.le; let lt := Ls.lt; let nz := Ls.nz; let mm := Ls.mm; let ma := Ls.ma; let sm := Ls.sm; let fl := Ls.fl; let al := Ls.al; let ci := Ls.ci
  let eCond_c := rowsOf Cond_c
  let eInt_c := rowsOf Int_c
  let eJson_o := rowsOf Json_o
  let eRow_i := rowsOf Row_i
  let eStr_c := rowsOf Str_c
  let lenI_Int := @lenI Int
  let lenI_Row := @lenI Row
  have hL : (⟨ar, cm, bo, sc, sa, sx, ss, sl, bs, sb, ln, sr, ap, up, rp, fr, ge, le, lt, nz, mm, ma, sm, fl, al, ci⟩ : Lf) = Ls := rfl
  show AC Tryd.prog 28 [.ag [.s (.int .i64 a0v_Table), .im false (eCond_c a0v_Where), .s (.int .i64 a0v_Order), .s (.bool a0v_Down), .s (.int .i64 a0v_First), .im false (eInt_c a0v_Show), .s (.bool a0v_Kids), .s (.int .i64 a0v_KidTable), .s (.int .i64 a0v_KidCol)], .v (.im false (eRow_i a1)), .v (.im false (eInt_c a2))] _ _
  refine AC.of_run2 tab_ok Tryd.func28 (by rfl) (by rfl) (by cbv) ⟨by decide, rfl⟩ fun F hP hA => ?_
  have hT : TabOk F.P tab := hP ▸ tab_ok
  have hM : F.P.follows .mixedOrders = true := hP ▸ mixed
  have hC : ∀ {f a o r}, AC Tryd.prog f a o r → AC F.P f a o r := fun h => hP ▸ h
  refine Run.seq ?_
  refine Run.region hL hT [] (by cbv) ?_ ?_
  · exact hq0
  refine Run.seq ?_
  refine Run.region hL hT [] (by cbv) ?_ ?_
  · exact hq0
  refine Run.seq ?_
  refine Run.seq ?_
  obtain ⟨r1, h_r1, h⟩ := bnd h
  obtain ⟨l2, h_l2, h⟩ := bnd h
  refine Run.region hL hT [(4, .call [false, false] [.ag [.jk, .jk, .jk, .jk, .jk, .jk, .jk, .jk, .jk], .v (.jk)] [.v (.s (.int .i64 r1))])] (by cbv) ?_ ?_
  · exact (hq trivial (hq (by rw [show ln (eRow_i a1) = lenI_Row a1 from ln_eq Row_i _]; exact (hC (impl_firstOf_ac h_r1))) (hq (cut_0 h_l2) (hq (cut_1 h_l2) (hq (cut_2 (f := Row_i) h_l2) (hq (al_row Row_i_n _) hq0))))))
  rw [show sr (eRow_i a1) 0 r1 = eRow_i l2 from cut_sr Row_i h_l2]
  rw [show ln (eRow_i a1) = lenI_Row a1 from ln_eq Row_i _]
  rw [show ln (eRow_i l2) = lenI_Row l2 from ln_eq Row_i _]
  refine Run.block ?_
  refine Run.loop2 (fun (z17 : List Json) (z18 : Int) => ⟨41, 100000, [(2, .t (.im false (eInt_c a2))), (3, .pt 1 0 0), (7, .rf 2), (17, .t (.im false (eRow_i l2))), (18, .t (.s (.int .i64 (lenI_Row l2)))), (19, .t (.s (.int .i64 z18)))], [(1, .box 27 [.t (.s (.int .i64 a0v_Table)), .t (.im false (eCond_c a0v_Where)), .t (.s (.int .i64 a0v_Order)), .t (.s (.bool a0v_Down)), .t (.s (.int .i64 a0v_First)), .t (.im false (eInt_c a0v_Show)), .t (.s (.bool a0v_Kids)), .t (.s (.int .i64 a0v_KidTable)), .t (.s (.int .i64 a0v_KidCol))]), (2, .row 0 34 5 (eJson_o z17))]⟩) (x0 := []) (x1 := 0) h (Weak.of _ [(1, 0), (2, 4096)] hA (by cbv) ?_) (fun _ _ => rfl) ?_
  · repeat (first | exact hq0 | refine hq (by first | exact True.intro | rfl) ?_)
  · intro k z17 z18 h
    rw [impl_rowDocs.l0] at h
    refine Run.seq ?_
    refine Run.region hL hT [] (by cbv) ?_ ?_
    · exact (hq trivial hq0)
    refine Run.seq ?_
    refine Run.cond (by cbv) (hq0) (fun c19 => ?_) (fun c19 => ?_)
    · have h := if_t c19 h
      refine Run.skip ?_
      refine Run.seq ?_
      refine Run.block ?_
      refine Run.seq ?_
      obtain ⟨⟨x20v_Id, x20v_Cells⟩, h_x20, h⟩ := bnd h
      refine Run.region hL hT [(1, .el [.s (.int .i64 x20v_Id), .im false (eInt_c x20v_Cells)])] (by cbv) ?_ ?_
      · exact (hq (get_le h_x20) (hq (get_lt (f := Row_i) h_x20) (hq (get_ge (f := Row_i) h_x20) (hq trivial hq0))))
      refine Run.seq ?_
      refine Run.region hL hT [] (by cbv) ?_ ?_
      · exact hq0
      obtain ⟨K22, h_K22, h⟩ := joinE h
      refine Run.join1 K22 (r := r) (fun (y21 : Int) => ⟨41, 100000, [(2, .t (.im false (eInt_c a2))), (3, .pt 1 0 0), (7, .rf 2), (9, .pt 3 0 0), (10, .t (.s (.int .i64 y21))), (17, .t (.im false (eRow_i l2))), (18, .t (.s (.int .i64 (lenI_Row l2)))), (19, .t (.s (.int .i64 z18)))], [(1, .box 27 [.t (.s (.int .i64 a0v_Table)), .t (.im false (eCond_c a0v_Where)), .t (.s (.int .i64 a0v_Order)), .t (.s (.bool a0v_Down)), .t (.s (.int .i64 a0v_First)), .t (.im false (eInt_c a0v_Show)), .t (.s (.bool a0v_Kids)), .t (.s (.int .i64 a0v_KidTable)), .t (.s (.int .i64 a0v_KidCol))]), (2, .row 0 34 5 (eJson_o z17)), (3, .box 41 [.t (.s (.int .i64 x20v_Id)), .t (.im false (eInt_c x20v_Cells))])]⟩) ?_ ?_
      · skip
        refine Run.seq ?_
        refine Run.region hL hT [] (by cbv) ?_ ?_
        · exact (hq trivial hq0)
        rw [show ln (eInt_c a2) = lenI_Int a2 from ln_eq Int_c _]
        refine Run.cond (by cbv) (hq0) (fun c23 => ?_) (fun c23 => ?_)
        · have h := if_t c23 h
          obtain ⟨x24, h_x24, h⟩ := bnd h
          refine Run.region hL hT [(2, .el [.s (.int .i64 x24)])] (by cbv) ?_ ?_
          · exact (hq (get_le h_x24) (hq (get_lt (f := Int_c) h_x24) (hq (get_ge (f := Int_c) h_x24) hq0)))
          refine ⟨x24, h, Weak.of _ [(1, 1), (2, 2), (3, 104099)] hA (by cbv) ?_⟩
          repeat (first | exact hq0 | refine hq (by first | exact True.intro | rfl) ?_)
        · have h := if_f c23 h
          refine Run.skip ?_
          refine ⟨0, h, Weak.of _ [(1, 1), (2, 2), (3, 104099)] hA (by cbv) ?_⟩
          repeat (first | exact hq0 | refine hq (by first | exact True.intro | rfl) ?_)
      · intro y21 h
        rw [h_K22] at h
        obtain ⟨⟨r25v_Kind, r25v_N, r25v_S, r25v_List_, r25v_Names⟩, h_r25, h⟩ := bnd h
        obtain ⟨l26, h_l26, h⟩ := bnd h
        obtain ⟨l27, h_l27, h⟩ := bnd h
        refine Run.region hL hT [(4, .call [false, false, false] [.ag [.jk, .jk, .jk, .jk, .jk, .jk, .jk, .jk, .jk], .ag [.jk, .jk], .v (.jk)] [.ag [.s (.int .i64 r25v_Kind), .s (.int .i64 r25v_N), .s (.string r25v_S), .ow 34 (eJson_o r25v_List_), .ow 9 (eStr_c r25v_Names)]])] (by cbv) ?_ ?_
        · exact (hq trivial (hq trivial (hq (hC (impl_RowDoc_ac h_r25)) (hq (app_mb (P := Tryd.prog) (f := Json_o) RLe.r (some_leU Json_o_u h_l26 (RLe.cons rfl LLe.r RLe.nil)) h_l27) hq0))))
        refine Run.row (rows := (ap (eJson_o z17) ([[.s (.int .i64 r25v_Kind), .s (.int .i64 r25v_N), .s (.string r25v_S), .ow 34 (eJson_o r25v_List_), .ow 9 (eStr_c r25v_Names)]]))) 100006 (eJson_o l27) (by cbv) (app_le (f := Json_o) RLe.r (some_leU Json_o_u h_l26 (RLe.cons rfl LLe.r RLe.nil)) h_l27) ?_
        refine Run.region hL hT [] (by cbv) ?_ ?_
        · exact (hq trivial hq0)
        refine ⟨l27, (ar .add .i64 z18 1), h, Weak.of _ [(1, 1), (2, 100006)] hA (by cbv) ?_⟩
        repeat (first | exact hq0 | refine hq (by first | exact True.intro | rfl) ?_)
    · have h := if_f c19 h
      refine Run.exit ?_
      refine Run.seq ?_
      refine Run.region hL hT [] (by cbv) ?_ ?_
      · exact hq0
      refine Run.ret ?_
      cases h
      refine ⟨_, _, by cbv, ?_, ?_⟩
      · exact LLe.r
      · exact (ALe.v LLe.r ALe.nil)

set_option maxRecDepth 8000 in
theorem impl_DocOf_1_ac {a0v_Kind : Int} {a0v_N : Int} {a0v_S : ByteArray} {a0v_List_ : List Json} {a0v_Names : List ByteArray} {r : Bool} (h : impl_DocOf_1.f (Json.mk a0v_Kind a0v_N a0v_S a0v_List_ a0v_Names) = some r) : AC Tryd.prog 30 [.ag [.s (.int .i64 a0v_Kind), .s (.int .i64 a0v_N), .s (.string a0v_S), .im false (rowsOf Json_i a0v_List_), .im false (rowsOf Str_c a0v_Names)]] [.ag [.jk, .jk, .jk, .jk, .jk]] [.v (.s (.bool r))] := by
  unfold impl_DocOf_1.f at h
  let ar := Ls.ar; let cm := Ls.cm; let bo := Ls.bo; let sc := Ls.sc; let sa := Ls.sa; let sx := Ls.sx; let ss := Ls.ss; let sl := Ls.sl; let bs := Ls.bs; let sb := Ls.sb; let ln := Ls.ln; let sr := Ls.sr; let ap := Ls.ap; let up := Ls.up; let rp := Ls.rp; let fr := Ls.fr; let ge := Ls.ge; let le := Ls.le; let lt := Ls.lt; let nz := Ls.nz; let mm := Ls.mm; let ma := Ls.ma; let sm := Ls.sm; let fl := Ls.fl; let al := Ls.al; let ci := Ls.ci
  let eJson_i := rowsOf Json_i
  let eStr_c := rowsOf Str_c
  have hL : (⟨ar, cm, bo, sc, sa, sx, ss, sl, bs, sb, ln, sr, ap, up, rp, fr, ge, le, lt, nz, mm, ma, sm, fl, al, ci⟩ : Lf) = Ls := rfl
  show AC Tryd.prog 30 [.ag [.s (.int .i64 a0v_Kind), .s (.int .i64 a0v_N), .s (.string a0v_S), .im false (eJson_i a0v_List_), .im false (eStr_c a0v_Names)]] _ _
  refine AC.of_run2 tab_ok Tryd.func30 (by rfl) (by rfl) (by cbv) ⟨by decide, rfl⟩ fun F hP hA => ?_
  have hT : TabOk F.P tab := hP ▸ tab_ok
  have hM : F.P.follows .mixedOrders = true := hP ▸ mixed
  have hC : ∀ {f a o r}, AC Tryd.prog f a o r → AC F.P f a o r := fun h => hP ▸ h
  refine Run.seq ?_
  refine Run.region hL hT [] (by cbv) ?_ ?_
  · exact hq0
  refine Run.seq ?_
  refine Run.region hL hT [] (by cbv) ?_ ?_
  · exact (hq trivial (hq trivial hq0))
  refine Run.ret ?_
  cases h
  refine ⟨_, _, by cbv, ?_, ?_⟩
  · exact LLe.r
  · exact (ALe.v LLe.r ALe.nil)

set_option maxRecDepth 8000 in
theorem slices_IndexFunc_impl_Json__impl_DocOf_1_ac {a0 : List Json} {r : Int} (h : slices_IndexFunc_impl_Json__impl_DocOf_1.f a0 = some r) : AC Tryd.prog 57 [.v (.im false (rowsOf Json_i a0)), .v (.fn 30 [])] [.v (.jk), .v (.jk)] [.v (.s (.int .i64 r))] := by
  unfold slices_IndexFunc_impl_Json__impl_DocOf_1.f at h
  let ar := Ls.ar; let cm := Ls.cm; let bo := Ls.bo; let sc := Ls.sc; let sa := Ls.sa; let sx := Ls.sx; let ss := Ls.ss; let sl := Ls.sl; let bs := Ls.bs; let sb := Ls.sb; let ln := Ls.ln; let sr := Ls.sr; let ap := Ls.ap; let up := Ls.up; let rp := Ls.rp; let fr := Ls.fr; let ge := Ls.ge; let le := Ls.le; let lt := Ls.lt; let nz := Ls.nz; let mm := Ls.mm; let ma := Ls.ma; let sm := Ls.sm; let fl := Ls.fl; let al := Ls.al; let ci := Ls.ci
  let eJson_i := rowsOf Json_i
  let eStr_c := rowsOf Str_c
  let lenI_Json := @lenI Json
  have hL : (⟨ar, cm, bo, sc, sa, sx, ss, sl, bs, sb, ln, sr, ap, up, rp, fr, ge, le, lt, nz, mm, ma, sm, fl, al, ci⟩ : Lf) = Ls := rfl
  show AC Tryd.prog 57 [.v (.im false (eJson_i a0)), .v (.fn 30 [])] _ _
  refine AC.of_run2 tab_ok Tryd.func57 (by rfl) (by rfl) (by cbv) ⟨by decide, rfl⟩ fun F hP hA => ?_
  have hT : TabOk F.P tab := hP ▸ tab_ok
  have hM : F.P.follows .mixedOrders = true := hP ▸ mixed
  have hC : ∀ {f a o r}, AC Tryd.prog f a o r → AC F.P f a o r := fun h => hP ▸ h
  refine Run.weak ?_ (Weak.fnT 1 (by cbv))
  refine Run.seq ?_
  refine Run.region hL hT [] (by cbv) ?_ ?_
  · exact hq0
  refine Run.seq ?_
  refine Run.seq ?_
  refine Run.region hL hT [] (by cbv) ?_ ?_
  · exact hq0
  rw [show ln (eJson_i a0) = lenI_Json a0 from ln_eq Json_i _]
  refine Run.block ?_
  refine Run.loop1 (fun (z4 : Int) => ⟨19, 100000, [(0, .t (.im false (eJson_i a0))), (1, .fn 30 []), (7, .t (.s (.int .i64 (lenI_Json a0)))), (8, .t (.s (.int .i64 z4)))], []⟩) (x0 := 0) h (Weak.of _ [] hA (by cbv) ?_) (fun _ => rfl) ?_
  · repeat (first | exact hq0 | refine hq (by first | exact True.intro | rfl) ?_)
  · intro k z4 h
    rw [slices_IndexFunc_impl_Json__impl_DocOf_1.l0] at h
    refine Run.seq ?_
    refine Run.region hL hT [] (by cbv) ?_ ?_
    · exact (hq trivial hq0)
    refine Run.seq ?_
    refine Run.cond (by cbv) (hq0) (fun c5 => ?_) (fun c5 => ?_)
    · have h := if_t c5 h
      refine Run.skip ?_
      refine Run.seq ?_
      refine Run.block ?_
      refine Run.seq ?_
      refine Run.region hL hT [] (by cbv) ?_ ?_
      · exact hq0
      refine Run.seq ?_
      obtain ⟨⟨x6v_Kind, x6v_N, x6v_S, x6v_List_, x6v_Names⟩, h_x6, h⟩ := bnd h
      obtain ⟨r7, h_r7, h⟩ := bnd h
      refine Run.region hL hT [(3, .el [.s (.int .i64 x6v_Kind), .s (.int .i64 x6v_N), .s (.string x6v_S), .im false (eJson_i x6v_List_), .im false (eStr_c x6v_Names)]), (5, .call [false] [.ag [.jk, .jk, .jk, .jk, .jk]] [.v (.s (.bool r7))])] (by cbv) ?_ ?_
      · exact (hq (get_le h_x6) (hq (get_lt (f := Json_i) h_x6) (hq (get_geU Json_i_u h_x6) (hq (hC (impl_DocOf_1_ac h_r7)) hq0))))
      refine Run.cond (by cbv) (hq0) (fun c8 => ?_) (fun c8 => ?_)
      · have h := if_t c8 h
        refine Run.seq ?_
        refine Run.region hL hT [] (by cbv) ?_ ?_
        · exact hq0
        refine Run.ret ?_
        cases h
        refine ⟨_, _, by cbv, ?_, ?_⟩
        · exact LLe.r
        · exact (ALe.v LLe.r ALe.nil)
      · have h := if_f c8 h
        refine Run.skip ?_
        refine Run.region hL hT [] (by cbv) ?_ ?_
        · exact (hq trivial hq0)
        refine ⟨(ar .add .i64 z4 1), h, Weak.of _ [] hA (by cbv) ?_⟩
        repeat (first | exact hq0 | refine hq (by first | exact True.intro | rfl) ?_)
    · have h := if_f c5 h
      refine Run.exit ?_
      refine Run.seq ?_
      refine Run.region hL hT [] (by cbv) ?_ ?_
      · exact hq0
      refine Run.ret ?_
      cases h
      refine ⟨_, _, by cbv, ?_, ?_⟩
      · exact LLe.r
      · exact (ALe.v LLe.r ALe.nil)


end Go.Proofs.YtnhnehckapldeaaDoor.L
