/- The contracts of the program's functions. -/
import Derived.Test.YtnhnehckapldeaaDoorProg
import Derived.Test.YtnhnehckapldeaaDoorFnDocC0
import Derived.KernelRfl
namespace Go.Proofs.YtnhnehckapldeaaDoor.L
open Go Go.Proofs
set_option linter.unusedVariables false
set_option linter.unusedSimpArgs false
set_option maxRecDepth 8000 in
theorem slices_ContainsFunc_impl_Json__impl_DocOf_1_ac {a0 : List Json} {r : Bool} (h : slices_ContainsFunc_impl_Json__impl_DocOf_1.f a0 = some r) : AC Tryd.prog 29 [.v (.im false (rowsOf Json_i a0)), .v (.fn 30 [])] [.v (.jk), .v (.jk)] [.v (.s (.bool r))] := by
  unfold slices_ContainsFunc_impl_Json__impl_DocOf_1.f at h
  let ar := Ls.ar; let cm := Ls.cm; let bo := Ls.bo; let sc := Ls.sc; let sa := Ls.sa; let sx := Ls.sx; let ss := Ls.ss; let sl := Ls.sl; let bs := Ls.bs; let sb := Ls.sb; let ln := Ls.ln; let sr := Ls.sr; let ap := Ls.ap; let up := Ls.up; let rp := Ls.rp; let fr := Ls.fr; let ge := Ls.ge; let le := Ls.le; let lt := Ls.lt; let nz := Ls.nz; let mm := Ls.mm; let ma := Ls.ma; let sm := Ls.sm; let fl := Ls.fl; let al := Ls.al; let ci := Ls.ci
  let eJson_i := rowsOf Json_i
  have hL : (⟨ar, cm, bo, sc, sa, sx, ss, sl, bs, sb, ln, sr, ap, up, rp, fr, ge, le, lt, nz, mm, ma, sm, fl, al, ci⟩ : Lf) = Ls := rfl
  show AC Tryd.prog 29 [.v (.im false (eJson_i a0)), .v (.fn 30 [])] _ _
  refine AC.of_run2 tab_ok Tryd.func29 (by rfl) (by rfl) (by cbv) ⟨by decide, rfl⟩ fun F hP hA => ?_
  have hT : TabOk F.P tab := hP ▸ tab_ok
  have hM : F.P.follows .mixedOrders = true := hP ▸ mixed
  have hC : ∀ {f a o r}, AC Tryd.prog f a o r → AC F.P f a o r := fun h => hP ▸ h
  refine Run.weak ?_ (Weak.fnT 1 (by cbv))
  refine Run.seq ?_
  refine Run.region hL hT [] (by cbv) ?_ ?_
  · exact hq0
  refine Run.seq ?_
  obtain ⟨r1, h_r1, h⟩ := bnd h
  refine Run.region hL hT [(2, .call [false, false] [.v (.jk), .v (.jk)] [.v (.s (.int .i64 r1))])] (by cbv) ?_ ?_
  · exact (hq (hC (slices_IndexFunc_impl_Json__impl_DocOf_1_ac h_r1)) (hq trivial hq0))
  refine Run.ret ?_
  cases h
  refine ⟨_, _, by cbv, ?_, ?_⟩
  · exact LLe.r
  · exact (ALe.v LLe.r ALe.nil)

set_option maxRecDepth 8000 in
theorem impl_DocOf_ac {a0v_Table : Int} {a0v_Where : List Cond} {a0v_Order : Int} {a0v_Down : Bool} {a0v_First : Int} {a0v_Show : List Int} {a0v_Kids : Bool} {a0v_KidTable : Int} {a0v_KidCol : Int} {a1 : List Row} {a2 : List Int} {r : Json} (h : impl_DocOf.f (Query.mk a0v_Table a0v_Where a0v_Order a0v_Down a0v_First a0v_Show a0v_Kids a0v_KidTable a0v_KidCol) a1 a2 = some r) : AC Tryd.prog 7 [.ag [.s (.int .i64 a0v_Table), .im false (rowsOf Cond_c a0v_Where), .s (.int .i64 a0v_Order), .s (.bool a0v_Down), .s (.int .i64 a0v_First), .im false (rowsOf Int_c a0v_Show), .s (.bool a0v_Kids), .s (.int .i64 a0v_KidTable), .s (.int .i64 a0v_KidCol)], .v (.im false (rowsOf Row_i a1)), .v (.im false (rowsOf Int_c a2))] [.ag [.jk, .jk, .jk, .jk, .jk, .jk, .jk, .jk, .jk], .v (.jk), .v (.jk)] [.ag [.s (.int .i64 r.Kind), .s (.int .i64 r.N), .s (.string r.S), .ow 34 (rowsOf Json_o r.List_), .ow 9 (rowsOf Str_c r.Names)]] := by
  unfold impl_DocOf.f at h
  let ar := Ls.ar; let cm := Ls.cm; let bo := Ls.bo; let sc := Ls.sc; let sa := Ls.sa; let sx := Ls.sx; let ss := Ls.ss; let sl := Ls.sl; let bs := Ls.bs; let sb := Ls.sb; let ln := Ls.ln; let sr := Ls.sr; let ap := Ls.ap; let up := Ls.up; let rp := Ls.rp; let fr := Ls.fr; let ge := Ls.ge; let le := Ls.le; let lt := Ls.lt; let nz := Ls.nz; let mm := Ls.mm; let ma := Ls.ma; let sm := Ls.sm; let fl := Ls.fl; let al := Ls.al; let ci := Ls.ci
  let eCond_c := rowsOf Cond_c
  let eInt_c := rowsOf Int_c
  let eJson_o := rowsOf Json_o
  let eRow_i := rowsOf Row_i
  let eStr_c := rowsOf Str_c
  let lenI_Row := @lenI Row
  have hL : (⟨ar, cm, bo, sc, sa, sx, ss, sl, bs, sb, ln, sr, ap, up, rp, fr, ge, le, lt, nz, mm, ma, sm, fl, al, ci⟩ : Lf) = Ls := rfl
  show AC Tryd.prog 7 [.ag [.s (.int .i64 a0v_Table), .im false (eCond_c a0v_Where), .s (.int .i64 a0v_Order), .s (.bool a0v_Down), .s (.int .i64 a0v_First), .im false (eInt_c a0v_Show), .s (.bool a0v_Kids), .s (.int .i64 a0v_KidTable), .s (.int .i64 a0v_KidCol)], .v (.im false (eRow_i a1)), .v (.im false (eInt_c a2))] _ _
  refine AC.of_run2 tab_ok Tryd.func7 (by rfl) (by rfl) (by cbv) ⟨by decide, rfl⟩ fun F hP hA => ?_
  have hT : TabOk F.P tab := hP ▸ tab_ok
  have hM : F.P.follows .mixedOrders = true := hP ▸ mixed
  have hC : ∀ {f a o r}, AC Tryd.prog f a o r → AC F.P f a o r := fun h => hP ▸ h
  refine Run.seq ?_
  refine Run.region hL hT [] (by cbv) ?_ ?_
  · exact hq0
  refine Run.seq ?_
  obtain ⟨r1, h_r1, h⟩ := bnd h
  refine Run.region hL hT [(3, .call [false, false, false] [.ag [.jk, .jk, .jk, .jk, .jk, .jk, .jk, .jk, .jk], .v (.jk), .v (.jk)] [.v (.ow 34 (eJson_o r1))])] (by cbv) ?_ ?_
  · exact (hq trivial (hq (hC (impl_rowDocs_ac h_r1)) hq0))
  refine Run.seq ?_
  refine Run.seq ?_
  obtain ⟨r2, h_r2, h⟩ := bnd h
  refine Run.region hL hT [(1, .call [false, false] [.v (.jk), .v (.jk)] [.v (.s (.bool r2))])] (by cbv) ?_ ?_
  · exact (hq (hC (AC.args (slices_ContainsFunc_impl_Json__impl_DocOf_1_ac h_r2) (ALe.v (LLe.im (RLe.eq (fr_row Json_o_z _))) (ALe.v LLe.r ALe.nil)))) hq0)
  refine Run.cond (by cbv) (hq0) (fun c3 => ?_) (fun c3 => ?_)
  · have h := if_t c3 h
    refine Run.seq ?_
    refine Run.region hL hT [] (by cbv) ?_ ?_
    · exact (hq trivial hq0)
    refine Run.ret ?_
    cases h
    refine ⟨_, _, by cbv, ?_, ?_⟩
    · exact LLe.r
    · exact (ALe.ag rfl (LLe.c (LLe.c (LLe.c (LLe.cons LLe.nilO (LLe.cons LLe.nilO LLe.nil))))) ALe.nil)
  · have h := if_f c3 h
    refine Run.skip ?_
    refine Run.seq ?_
    refine Run.region hL hT [] (by cbv) ?_ ?_
    · exact (hq trivial hq0)
    refine Run.seq ?_
    obtain ⟨l4, h_l4, h⟩ := bnd h
    obtain ⟨l5, h_l5, h⟩ := bnd h
    obtain ⟨⟨r6v_Kind, r6v_N, r6v_S, r6v_List_, r6v_Names⟩, h_r6, h⟩ := bnd h
    refine Run.region hL hT [(7, .call [true] [.ag [.jk, .jk, .jk, .jk, .jk]] [.ag [.s (.int .i64 r6v_Kind), .s (.int .i64 r6v_N), .s (.string r6v_S), .ow 34 (eJson_o r6v_List_), .ow 9 (eStr_c r6v_Names)]])] (by cbv) ?_ ?_
    · exact (hq trivial (hq (hC (AC.args (impl_orNull_ac h_r6) (ALe.ag rfl (LLe.c (LLe.c (LLe.c (LLe.cons (LLe.ow (some_leU Json_o_u h_l5 (RLe.cons rfl (LLe.c (LLe.cons (LLe.eq (congrArg (fun z => [T.s (Value.int .i64 z)]) (ln_eq Row_i _))) (LLe.c (LLe.cons LLe.nilO (LLe.cons LLe.nilO LLe.nil))))) (RLe.cons rfl (LLe.c (LLe.c (LLe.c (LLe.c (LLe.cons LLe.nilO LLe.nil))))) RLe.nil)))) (LLe.cons (LLe.ow (some_le (f := Str_c) h_l4 (RLe.cons rfl LLe.r (RLe.cons rfl LLe.r RLe.nil)))) LLe.nil))))) ALe.nil))) (hq trivial hq0)))
    rw [show ln (eRow_i a1) = lenI_Row a1 from ln_eq Row_i _]
    refine Run.ret ?_
    cases h
    refine ⟨_, _, by cbv, ?_, ?_⟩
    · exact LLe.r
    · exact (ALe.ag rfl LLe.r ALe.nil)

set_option maxRecDepth 8000 in
theorem laws_sameTexts_ac {a0 : List ByteArray} {a1 : List ByteArray} {r : Bool} (h : laws_sameTexts.f a0 a1 = some r) : AC Tryd.prog 32 [.v (.im false (rowsOf Str_c a0)), .v (.im false (rowsOf Str_c a1))] [.v (.jk), .v (.jk)] [.v (.s (.bool r))] := by
  unfold laws_sameTexts.f at h
  let ar := Ls.ar; let cm := Ls.cm; let bo := Ls.bo; let sc := Ls.sc; let sa := Ls.sa; let sx := Ls.sx; let ss := Ls.ss; let sl := Ls.sl; let bs := Ls.bs; let sb := Ls.sb; let ln := Ls.ln; let sr := Ls.sr; let ap := Ls.ap; let up := Ls.up; let rp := Ls.rp; let fr := Ls.fr; let ge := Ls.ge; let le := Ls.le; let lt := Ls.lt; let nz := Ls.nz; let mm := Ls.mm; let ma := Ls.ma; let sm := Ls.sm; let fl := Ls.fl; let al := Ls.al; let ci := Ls.ci
  let eStr_c := rowsOf Str_c
  let lenI_Str := @lenI ByteArray
  have hL : (⟨ar, cm, bo, sc, sa, sx, ss, sl, bs, sb, ln, sr, ap, up, rp, fr, ge, le, lt, nz, mm, ma, sm, fl, al, ci⟩ : Lf) = Ls := rfl
  show AC Tryd.prog 32 [.v (.im false (eStr_c a0)), .v (.im false (eStr_c a1))] _ _
  refine AC.of_run2 tab_ok Tryd.func32 (by rfl) (by rfl) (by cbv) ⟨by decide, rfl⟩ fun F hP hA => ?_
  have hT : TabOk F.P tab := hP ▸ tab_ok
  have hM : F.P.follows .mixedOrders = true := hP ▸ mixed
  have hC : ∀ {f a o r}, AC Tryd.prog f a o r → AC F.P f a o r := fun h => hP ▸ h
  refine Run.seq ?_
  refine Run.region hL hT [] (by cbv) ?_ ?_
  · exact hq0
  refine Run.seq ?_
  refine Run.seq ?_
  refine Run.region hL hT [] (by cbv) ?_ ?_
  · exact (hq trivial hq0)
  rw [show ln (eStr_c a0) = lenI_Str a0 from ln_eq Str_c _]
  rw [show ln (eStr_c a1) = lenI_Str a1 from ln_eq Str_c _]
  refine Run.cond (by cbv) (hq0) (fun c1 => ?_) (fun c1 => ?_)
  · have h := if_t c1 h
    refine Run.seq ?_
    refine Run.region hL hT [] (by cbv) ?_ ?_
    · exact hq0
    refine Run.ret ?_
    cases h
    refine ⟨_, _, by cbv, ?_, ?_⟩
    · exact LLe.r
    · exact (ALe.v LLe.r ALe.nil)
  · have h := if_f c1 h
    refine Run.skip ?_
    refine Run.seq ?_
    refine Run.seq ?_
    refine Run.region hL hT [] (by cbv) ?_ ?_
    · exact hq0
    refine Run.block ?_
    refine Run.loop1 (fun (z5 : Int) => ⟨26, 100000, [(0, .t (.im false (eStr_c a0))), (1, .t (.im false (eStr_c a1))), (5, .t (.s (.int .i64 z5)))], []⟩) (x0 := 0) h (Weak.of _ [] hA (by cbv) ?_) (fun _ => rfl) ?_
    · repeat (first | exact hq0 | refine hq (by first | exact True.intro | rfl) ?_)
    · intro k z5 h
      rw [laws_sameTexts.l0] at h
      refine Run.seq ?_
      refine Run.seq ?_
      refine Run.region hL hT [] (by cbv) ?_ ?_
      · exact (hq trivial hq0)
      rw [show ln (eStr_c a0) = lenI_Str a0 from ln_eq Str_c _]
      refine Run.cond (by cbv) (hq0) (fun c6 => ?_) (fun c6 => ?_)
      · have h := if_t c6 h
        refine Run.skip ?_
        refine Run.seq ?_
        refine Run.block ?_
        refine Run.seq ?_
        obtain ⟨x7, h_x7, h⟩ := bnd h
        obtain ⟨x8, h_x8, h⟩ := bnd h
        refine Run.draw hL hT hM [(2, .el [.s (.string x7)]), (6, .el [.s (.string x8)])] (by cbv) (by cbv) (by cbv) (by cbv) (by cbv) ?_ ?_
        · exact (hq (get_le h_x7) (hq (get_lt (f := Str_c) h_x7) (hq (get_ge (f := Str_c) h_x7) (hq (get_le h_x8) (hq (get_lt (f := Str_c) h_x8) (hq (get_ge (f := Str_c) h_x8) hq0))))))
        refine Run.cond (by cbv) (hq0) (fun c9 => ?_) (fun c9 => ?_)
        · have h := if_t c9 h
          refine Run.seq ?_
          refine Run.region hL hT [] (by cbv) ?_ ?_
          · exact hq0
          refine Run.ret ?_
          cases h
          refine ⟨_, _, by cbv, ?_, ?_⟩
          · exact LLe.r
          · exact (ALe.v LLe.r ALe.nil)
        · have h := if_f c9 h
          refine Run.skip ?_
          refine Run.region hL hT [] (by cbv) ?_ ?_
          · exact (hq trivial hq0)
          refine ⟨(ar .add .i64 z5 1), h, Weak.of _ [] hA (by cbv) ?_⟩
          repeat (first | exact hq0 | refine hq (by first | exact True.intro | rfl) ?_)
      · have h := if_f c6 h
        refine Run.exit ?_
        refine Run.seq ?_
        refine Run.region hL hT [] (by cbv) ?_ ?_
        · exact hq0
        refine Run.ret ?_
        cases h
        refine ⟨_, _, by cbv, ?_, ?_⟩
        · exact LLe.r
        · exact (ALe.v LLe.r ALe.nil)

set_option maxRecDepth 8000 in
theorem laws_sameJson_acs (self : Json → Json → Option Bool) (hself : ∀ {a0v_Kind : Int} {a0v_N : Int} {a0v_S : ByteArray} {a0v_List_ : List Json} {a0v_Names : List ByteArray} {a1v_Kind : Int} {a1v_N : Int} {a1v_S : ByteArray} {a1v_List_ : List Json} {a1v_Names : List ByteArray} {r : Bool} (h : self (Json.mk a0v_Kind a0v_N a0v_S a0v_List_ a0v_Names) (Json.mk a1v_Kind a1v_N a1v_S a1v_List_ a1v_Names) = some r), AC Tryd.prog 8 [.ag [.s (.int .i64 a0v_Kind), .s (.int .i64 a0v_N), .s (.string a0v_S), .im false (rowsOf Json_i a0v_List_), .im false (rowsOf Str_c a0v_Names)], .ag [.s (.int .i64 a1v_Kind), .s (.int .i64 a1v_N), .s (.string a1v_S), .im false (rowsOf Json_i a1v_List_), .im false (rowsOf Str_c a1v_Names)]] [.ag [.jk, .jk, .jk, .jk, .jk], .ag [.jk, .jk, .jk, .jk, .jk]] [.v (.s (.bool r))]) {a0v_Kind : Int} {a0v_N : Int} {a0v_S : ByteArray} {a0v_List_ : List Json} {a0v_Names : List ByteArray} {a1v_Kind : Int} {a1v_N : Int} {a1v_S : ByteArray} {a1v_List_ : List Json} {a1v_Names : List ByteArray} {r : Bool} (h : laws_sameJson.b self (Json.mk a0v_Kind a0v_N a0v_S a0v_List_ a0v_Names) (Json.mk a1v_Kind a1v_N a1v_S a1v_List_ a1v_Names) = some r) : AC Tryd.prog 8 [.ag [.s (.int .i64 a0v_Kind), .s (.int .i64 a0v_N), .s (.string a0v_S), .im false (rowsOf Json_i a0v_List_), .im false (rowsOf Str_c a0v_Names)], .ag [.s (.int .i64 a1v_Kind), .s (.int .i64 a1v_N), .s (.string a1v_S), .im false (rowsOf Json_i a1v_List_), .im false (rowsOf Str_c a1v_Names)]] [.ag [.jk, .jk, .jk, .jk, .jk], .ag [.jk, .jk, .jk, .jk, .jk]] [.v (.s (.bool r))] := by
  unfold laws_sameJson.b at h
  let ar := Ls.ar; let cm := Ls.cm; let bo := Ls.bo; let sc := Ls.sc; let sa := Ls.sa; let sx := Ls.sx; let ss := Ls.ss; let sl := Ls.sl; let bs := Ls.bs; let sb := Ls.sb; let ln := Ls.ln; let sr := Ls.sr; let ap := Ls.ap; let up := Ls.up; let rp := Ls.rp; let fr := Ls.fr; let ge := Ls.ge; let le := Ls.le; let lt := Ls.lt; let nz := Ls.nz; let mm := Ls.mm; let ma := Ls.ma; let sm := Ls.sm; let fl := Ls.fl; let al := Ls.al; let ci := Ls.ci
  let eJson_i := rowsOf Json_i
  let eStr_c := rowsOf Str_c
  let lenI_Json := @lenI Json
  have hL : (⟨ar, cm, bo, sc, sa, sx, ss, sl, bs, sb, ln, sr, ap, up, rp, fr, ge, le, lt, nz, mm, ma, sm, fl, al, ci⟩ : Lf) = Ls := rfl
  show AC Tryd.prog 8 [.ag [.s (.int .i64 a0v_Kind), .s (.int .i64 a0v_N), .s (.string a0v_S), .im false (eJson_i a0v_List_), .im false (eStr_c a0v_Names)], .ag [.s (.int .i64 a1v_Kind), .s (.int .i64 a1v_N), .s (.string a1v_S), .im false (eJson_i a1v_List_), .im false (eStr_c a1v_Names)]] _ _
  refine AC.of_run2 tab_ok Tryd.func8 (by rfl) (by rfl) (by cbv) ⟨by decide, rfl⟩ fun F hP hA => ?_
  have hT : TabOk F.P tab := hP ▸ tab_ok
  have hM : F.P.follows .mixedOrders = true := hP ▸ mixed
  have hC : ∀ {f a o r}, AC Tryd.prog f a o r → AC F.P f a o r := fun h => hP ▸ h
  refine Run.seq ?_
  refine Run.region hL hT [] (by cbv) ?_ ?_
  · exact hq0
  refine Run.seq ?_
  refine Run.seq ?_
  obtain ⟨r1, h_r1, h⟩ := bnd h
  refine Run.region hL hT [(33, .call [false, false] [.v (.jk), .v (.jk)] [.v (.s (.bool r1))])] (by cbv) ?_ ?_
  · exact (hq trivial (hq trivial (hq trivial (hq (fun _ => hq0) (hq (fun g3 => (hq g3 (hq trivial hq0))) (hq (fun _ => hq0) (hq (fun g5 => (hq g5 (hq trivial hq0))) (hq (fun g6 => (hq g6 (hq g6 (hq trivial hq0)))) (hq (fun _ => hq0) (hq (fun q8 => (hq (bo_m q8) hq0)) (hq (fun _ => hq0) (hq (fun g10 => (hq g10 (hq trivial hq0))) (hq (fun _ => hq0) (hq (fun g12 => (hq g12 (hq trivial hq0))) (hq (fun g13 => (hq g13 (hq g13 hq0))) (hq (fun _ => hq0) (hq (fun q15 => (hq (bo_m q15) hq0)) (hq (fun _ => hq0) (hq (fun g17 => (hq g17 (hq trivial hq0))) (hq (fun g18 => (hq g18 hq0)) (hq (fun _ => hq0) (hq (fun g20 => (hq g20 (hq trivial hq0))) (hq (fun g21 => (hq g21 hq0)) (hq (fun g22 => (hq g22 (hq g22 (hq trivial hq0)))) (hq (fun _ => hq0) (hq (fun q24 => (hq (bo_m q24) hq0)) (hq (fun _ => hq0) (hq (fun g26 => (by have g26C := g26; rw [show ln (eJson_i a0v_List_) = lenI_Json a0v_List_ from ln_eq Json_i _, show ln (eJson_i a1v_List_) = lenI_Json a1v_List_ from ln_eq Json_i _] at g26C; exact (hq g26 (hq trivial hq0)))) (hq (fun _ => hq0) (hq (fun g28 => (by have g28C := g28; rw [show ln (eJson_i a0v_List_) = lenI_Json a0v_List_ from ln_eq Json_i _, show ln (eJson_i a1v_List_) = lenI_Json a1v_List_ from ln_eq Json_i _] at g28C; exact (hq g28 (hq trivial hq0)))) (hq (fun g29 => (by have g29C := g29; rw [show ln (eJson_i a0v_List_) = lenI_Json a0v_List_ from ln_eq Json_i _, show ln (eJson_i a1v_List_) = lenI_Json a1v_List_ from ln_eq Json_i _] at g29C; exact (hq g29 (hq g29 (hq (hC (laws_sameTexts_ac (gd_t h_r1 g29C))) hq0))))) (hq (fun g30 => (by have g30C := g30; rw [show ln (eJson_i a0v_List_) = lenI_Json a0v_List_ from ln_eq Json_i _, show ln (eJson_i a1v_List_) = lenI_Json a1v_List_ from ln_eq Json_i _] at g30C; exact (hq g30 hq0))) (hq (fun _ => hq0) (hq (fun q32 => (by have q32C := q32; rw [show ln (eJson_i a0v_List_) = lenI_Json a0v_List_ from ln_eq Json_i _, show ln (eJson_i a1v_List_) = lenI_Json a1v_List_ from ln_eq Json_i _] at q32C; exact (hq (bo_m q32) hq0))) hq0))))))))))))))))))))))))))))))))))
  rw [show ln (eJson_i a0v_List_) = lenI_Json a0v_List_ from ln_eq Json_i _]
  rw [show ln (eJson_i a1v_List_) = lenI_Json a1v_List_ from ln_eq Json_i _]
  refine Run.cond (by cbv) (hq0) (fun c33 => ?_) (fun c33 => ?_)
  · have h := if_t c33 h
    refine Run.seq ?_
    refine Run.region hL hT [] (by cbv) ?_ ?_
    · exact hq0
    refine Run.ret ?_
    cases h
    refine ⟨_, _, by cbv, ?_, ?_⟩
    · exact LLe.r
    · exact (ALe.v LLe.r ALe.nil)
  · have h := if_f c33 h
    refine Run.skip ?_
    refine Run.seq ?_
    refine Run.seq ?_
    refine Run.region hL hT [] (by cbv) ?_ ?_
    · exact hq0
    refine Run.block ?_
    refine Run.loop1 (fun (z45 : Int) => ⟨61, 100000, [(2, .pt 1 0 0), (3, .pt 2 0 0), (5, .t (.s (.int .i64 z45)))], [(1, .box 34 [.t (.s (.int .i64 a0v_Kind)), .t (.s (.int .i64 a0v_N)), .t (.s (.string a0v_S)), .t (.im false (eJson_i a0v_List_)), .t (.im false (eStr_c a0v_Names))]), (2, .box 34 [.t (.s (.int .i64 a1v_Kind)), .t (.s (.int .i64 a1v_N)), .t (.s (.string a1v_S)), .t (.im false (eJson_i a1v_List_)), .t (.im false (eStr_c a1v_Names))])]⟩) (x0 := 0) h (Weak.of _ [(1, 0), (2, 1)] hA (by cbv) ?_) (fun _ => rfl) ?_
    · repeat (first | exact hq0 | refine hq (by first | exact True.intro | rfl) ?_)
    · intro k z45 h
      rw [laws_sameJson.l0] at h
      refine Run.seq ?_
      refine Run.seq ?_
      refine Run.region hL hT [] (by cbv) ?_ ?_
      · exact (hq trivial (hq trivial hq0))
      rw [show ln (eJson_i a0v_List_) = lenI_Json a0v_List_ from ln_eq Json_i _]
      refine Run.cond (by cbv) (hq0) (fun c46 => ?_) (fun c46 => ?_)
      · have h := if_t c46 h
        refine Run.skip ?_
        refine Run.seq ?_
        refine Run.block ?_
        refine Run.seq ?_
        obtain ⟨⟨x47v_Kind, x47v_N, x47v_S, x47v_List_, x47v_Names⟩, h_x47, h⟩ := bnd h
        obtain ⟨⟨x48v_Kind, x48v_N, x48v_S, x48v_List_, x48v_Names⟩, h_x48, h⟩ := bnd h
        obtain ⟨r49, h_r49, h⟩ := bnd h
        refine Run.draw hL hT hM [(3, .el [.s (.int .i64 x47v_Kind), .s (.int .i64 x47v_N), .s (.string x47v_S), .im false (eJson_i x47v_List_), .im false (eStr_c x47v_Names)]), (8, .el [.s (.int .i64 x48v_Kind), .s (.int .i64 x48v_N), .s (.string x48v_S), .im false (eJson_i x48v_List_), .im false (eStr_c x48v_Names)]), (10, .call [false, false] [.ag [.jk, .jk, .jk, .jk, .jk], .ag [.jk, .jk, .jk, .jk, .jk]] [.v (.s (.bool r49))])] (by cbv) (by cbv) (by cbv) (by cbv) (by cbv) ?_ ?_
        · exact (hq trivial (hq (get_le h_x47) (hq (get_lt (f := Json_i) h_x47) (hq (get_geU Json_i_u h_x47) (hq trivial (hq (get_le h_x48) (hq (get_lt (f := Json_i) h_x48) (hq (get_geU Json_i_u h_x48) (hq (hC (hself h_r49)) hq0)))))))))
        refine Run.cond (by cbv) (hq0) (fun c50 => ?_) (fun c50 => ?_)
        · have h := if_t c50 h
          refine Run.seq ?_
          refine Run.region hL hT [] (by cbv) ?_ ?_
          · exact hq0
          refine Run.ret ?_
          cases h
          refine ⟨_, _, by cbv, ?_, ?_⟩
          · exact LLe.r
          · exact (ALe.v LLe.r ALe.nil)
        · have h := if_f c50 h
          refine Run.skip ?_
          refine Run.region hL hT [] (by cbv) ?_ ?_
          · exact (hq trivial hq0)
          refine ⟨(ar .add .i64 z45 1), h, Weak.of _ [(1, 1), (2, 2)] hA (by cbv) ?_⟩
          repeat (first | exact hq0 | refine hq (by first | exact True.intro | rfl) ?_)
      · have h := if_f c46 h
        refine Run.exit ?_
        refine Run.seq ?_
        refine Run.region hL hT [] (by cbv) ?_ ?_
        · exact hq0
        refine Run.ret ?_
        cases h
        refine ⟨_, _, by cbv, ?_, ?_⟩
        · exact LLe.r
        · exact (ALe.v LLe.r ALe.nil)
theorem laws_sameJson_acg : ∀ (k : Nat) {a0v_Kind : Int} {a0v_N : Int} {a0v_S : ByteArray} {a0v_List_ : List Json} {a0v_Names : List ByteArray} {a1v_Kind : Int} {a1v_N : Int} {a1v_S : ByteArray} {a1v_List_ : List Json} {a1v_Names : List ByteArray} {r : Bool} (h : laws_sameJson.g k (Json.mk a0v_Kind a0v_N a0v_S a0v_List_ a0v_Names) (Json.mk a1v_Kind a1v_N a1v_S a1v_List_ a1v_Names) = some r), AC Tryd.prog 8 [.ag [.s (.int .i64 a0v_Kind), .s (.int .i64 a0v_N), .s (.string a0v_S), .im false (rowsOf Json_i a0v_List_), .im false (rowsOf Str_c a0v_Names)], .ag [.s (.int .i64 a1v_Kind), .s (.int .i64 a1v_N), .s (.string a1v_S), .im false (rowsOf Json_i a1v_List_), .im false (rowsOf Str_c a1v_Names)]] [.ag [.jk, .jk, .jk, .jk, .jk], .ag [.jk, .jk, .jk, .jk, .jk]] [.v (.s (.bool r))]
  | 0 => fun h => by cases h
  | k + 1 => fun h => laws_sameJson_acs (laws_sameJson.g k) (laws_sameJson_acg k) h
theorem laws_sameJson_ac {a0v_Kind : Int} {a0v_N : Int} {a0v_S : ByteArray} {a0v_List_ : List Json} {a0v_Names : List ByteArray} {a1v_Kind : Int} {a1v_N : Int} {a1v_S : ByteArray} {a1v_List_ : List Json} {a1v_Names : List ByteArray} {r : Bool} (h : laws_sameJson.f (Json.mk a0v_Kind a0v_N a0v_S a0v_List_ a0v_Names) (Json.mk a1v_Kind a1v_N a1v_S a1v_List_ a1v_Names) = some r) : AC Tryd.prog 8 [.ag [.s (.int .i64 a0v_Kind), .s (.int .i64 a0v_N), .s (.string a0v_S), .im false (rowsOf Json_i a0v_List_), .im false (rowsOf Str_c a0v_Names)], .ag [.s (.int .i64 a1v_Kind), .s (.int .i64 a1v_N), .s (.string a1v_S), .im false (rowsOf Json_i a1v_List_), .im false (rowsOf Str_c a1v_Names)]] [.ag [.jk, .jk, .jk, .jk, .jk], .ag [.jk, .jk, .jk, .jk, .jk]] [.v (.s (.bool r))] := laws_sameJson_acg 20 h

set_option maxRecDepth 8000 in
theorem spec_l1Min_ac {a0 : Int} {a1 : Int} {r : Int} (h : spec_l1Min.f a0 a1 = some r) : AC Tryd.prog 59 [.v (.s (.int .i64 a0)), .v (.s (.int .i64 a1))] [.v (.jk), .v (.jk)] [.v (.s (.int .i64 r))] := by
  unfold spec_l1Min.f at h
  let ar := Ls.ar; let cm := Ls.cm; let bo := Ls.bo; let sc := Ls.sc; let sa := Ls.sa; let sx := Ls.sx; let ss := Ls.ss; let sl := Ls.sl; let bs := Ls.bs; let sb := Ls.sb; let ln := Ls.ln; let sr := Ls.sr; let ap := Ls.ap; let up := Ls.up; let rp := Ls.rp; let fr := Ls.fr; let ge := Ls.ge; let le := Ls.le; let lt := Ls.lt; let nz := Ls.nz; let mm := Ls.mm; let ma := Ls.ma; let sm := Ls.sm; let fl := Ls.fl; let al := Ls.al; let ci := Ls.ci
  have hL : (⟨ar, cm, bo, sc, sa, sx, ss, sl, bs, sb, ln, sr, ap, up, rp, fr, ge, le, lt, nz, mm, ma, sm, fl, al, ci⟩ : Lf) = Ls := rfl
  show AC Tryd.prog 59 [.v (.s (.int .i64 a0)), .v (.s (.int .i64 a1))] _ _
  refine AC.of_run2 tab_ok Tryd.func59 (by rfl) (by rfl) (by cbv) ⟨by decide, rfl⟩ fun F hP hA => ?_
  have hT : TabOk F.P tab := hP ▸ tab_ok
  have hM : F.P.follows .mixedOrders = true := hP ▸ mixed
  have hC : ∀ {f a o r}, AC Tryd.prog f a o r → AC F.P f a o r := fun h => hP ▸ h
  refine Run.seq ?_
  refine Run.region hL hT [] (by cbv) ?_ ?_
  · exact hq0
  refine Run.seq ?_
  refine Run.seq ?_
  refine Run.region hL hT [] (by cbv) ?_ ?_
  · exact (hq trivial hq0)
  refine Run.cond (by cbv) (hq0) (fun c1 => ?_) (fun c1 => ?_)
  · have h := if_t c1 h
    refine Run.seq ?_
    refine Run.region hL hT [] (by cbv) ?_ ?_
    · exact hq0
    refine Run.ret ?_
    cases h
    refine ⟨_, _, by cbv, ?_, ?_⟩
    · exact LLe.r
    · exact (ALe.v LLe.r ALe.nil)
  · have h := if_f c1 h
    refine Run.skip ?_
    refine Run.seq ?_
    refine Run.region hL hT [] (by cbv) ?_ ?_
    · exact hq0
    refine Run.ret ?_
    cases h
    refine ⟨_, _, by cbv, ?_, ?_⟩
    · exact LLe.r
    · exact (ALe.v LLe.r ALe.nil)

set_option maxRecDepth 8000 in
theorem spec_l11First_ac {a0v_Table : Int} {a0v_Where : List Cond} {a0v_Order : Int} {a0v_Down : Bool} {a0v_First : Int} {a0v_Show : List Int} {a0v_Kids : Bool} {a0v_KidTable : Int} {a0v_KidCol : Int} {a1 : Int} {r : Int} (h : spec_l11First.f (Query.mk a0v_Table a0v_Where a0v_Order a0v_Down a0v_First a0v_Show a0v_Kids a0v_KidTable a0v_KidCol) a1 = some r) : AC Tryd.prog 33 [.ag [.s (.int .i64 a0v_Table), .im false (rowsOf Cond_c a0v_Where), .s (.int .i64 a0v_Order), .s (.bool a0v_Down), .s (.int .i64 a0v_First), .im false (rowsOf Int_c a0v_Show), .s (.bool a0v_Kids), .s (.int .i64 a0v_KidTable), .s (.int .i64 a0v_KidCol)], .v (.s (.int .i64 a1))] [.ag [.jk, .jk, .jk, .jk, .jk, .jk, .jk, .jk, .jk], .v (.jk)] [.v (.s (.int .i64 r))] := by
  unfold spec_l11First.f at h
  let ar := Ls.ar; let cm := Ls.cm; let bo := Ls.bo; let sc := Ls.sc; let sa := Ls.sa; let sx := Ls.sx; let ss := Ls.ss; let sl := Ls.sl; let bs := Ls.bs; let sb := Ls.sb; let ln := Ls.ln; let sr := Ls.sr; let ap := Ls.ap; let up := Ls.up; let rp := Ls.rp; let fr := Ls.fr; let ge := Ls.ge; let le := Ls.le; let lt := Ls.lt; let nz := Ls.nz; let mm := Ls.mm; let ma := Ls.ma; let sm := Ls.sm; let fl := Ls.fl; let al := Ls.al; let ci := Ls.ci
  let eCond_c := rowsOf Cond_c
  let eInt_c := rowsOf Int_c
  have hL : (⟨ar, cm, bo, sc, sa, sx, ss, sl, bs, sb, ln, sr, ap, up, rp, fr, ge, le, lt, nz, mm, ma, sm, fl, al, ci⟩ : Lf) = Ls := rfl
  show AC Tryd.prog 33 [.ag [.s (.int .i64 a0v_Table), .im false (eCond_c a0v_Where), .s (.int .i64 a0v_Order), .s (.bool a0v_Down), .s (.int .i64 a0v_First), .im false (eInt_c a0v_Show), .s (.bool a0v_Kids), .s (.int .i64 a0v_KidTable), .s (.int .i64 a0v_KidCol)], .v (.s (.int .i64 a1))] _ _
  refine AC.of_run2 tab_ok Tryd.func33 (by rfl) (by rfl) (by cbv) ⟨by decide, rfl⟩ fun F hP hA => ?_
  have hT : TabOk F.P tab := hP ▸ tab_ok
  have hM : F.P.follows .mixedOrders = true := hP ▸ mixed
  have hC : ∀ {f a o r}, AC Tryd.prog f a o r → AC F.P f a o r := fun h => hP ▸ h
  refine Run.seq ?_
  refine Run.region hL hT [] (by cbv) ?_ ?_
  · exact hq0
  refine Run.seq ?_
  refine Run.seq ?_
  refine Run.region hL hT [] (by cbv) ?_ ?_
  · exact (hq trivial (hq trivial hq0))
  refine Run.cond (by cbv) (hq0) (fun c1 => ?_) (fun c1 => ?_)
  · have h := if_t c1 h
    refine Run.seq ?_
    refine Run.region hL hT [] (by cbv) ?_ ?_
    · exact hq0
    refine Run.ret ?_
    cases h
    refine ⟨_, _, by cbv, ?_, ?_⟩
    · exact LLe.r
    · exact (ALe.v LLe.r ALe.nil)
  · have h := if_f c1 h
    refine Run.skip ?_
    refine Run.seq ?_
    obtain ⟨r2, h_r2, h⟩ := bnd h
    obtain ⟨r3, h_r3, h⟩ := bnd h
    refine Run.region hL hT [(3, .call [false, false] [.v (.jk), .v (.jk)] [.v (.s (.int .i64 r2))]), (4, .call [false, false] [.v (.jk), .v (.jk)] [.v (.s (.int .i64 r3))])] (by cbv) ?_ ?_
    · exact (hq trivial (hq (hC (spec_l1Min_ac h_r2)) (hq (hC (spec_l1Max_ac h_r3)) hq0)))
    refine Run.ret ?_
    cases h
    refine ⟨_, _, by cbv, ?_, ?_⟩
    · exact LLe.r
    · exact (ALe.v LLe.r ALe.nil)

set_option maxRecDepth 8000 in
theorem spec_l11Num_ac {a0 : Int} {r : Json} (h : spec_l11Num.f a0 = some r) : AC Tryd.prog 36 [.v (.s (.int .i64 a0))] [.v (.jk)] [.ag [.s (.int .i64 r.Kind), .s (.int .i64 r.N), .s (.string r.S), .im true (rowsOf Json_k r.List_), .im true (rowsOf Str_c r.Names)]] := by
  unfold spec_l11Num.f at h
  let ar := Ls.ar; let cm := Ls.cm; let bo := Ls.bo; let sc := Ls.sc; let sa := Ls.sa; let sx := Ls.sx; let ss := Ls.ss; let sl := Ls.sl; let bs := Ls.bs; let sb := Ls.sb; let ln := Ls.ln; let sr := Ls.sr; let ap := Ls.ap; let up := Ls.up; let rp := Ls.rp; let fr := Ls.fr; let ge := Ls.ge; let le := Ls.le; let lt := Ls.lt; let nz := Ls.nz; let mm := Ls.mm; let ma := Ls.ma; let sm := Ls.sm; let fl := Ls.fl; let al := Ls.al; let ci := Ls.ci
  have hL : (⟨ar, cm, bo, sc, sa, sx, ss, sl, bs, sb, ln, sr, ap, up, rp, fr, ge, le, lt, nz, mm, ma, sm, fl, al, ci⟩ : Lf) = Ls := rfl
  show AC Tryd.prog 36 [.v (.s (.int .i64 a0))] _ _
  refine AC.of_run2 tab_ok Tryd.func36 (by rfl) (by rfl) (by cbv) ⟨by decide, rfl⟩ fun F hP hA => ?_
  have hT : TabOk F.P tab := hP ▸ tab_ok
  have hM : F.P.follows .mixedOrders = true := hP ▸ mixed
  have hC : ∀ {f a o r}, AC Tryd.prog f a o r → AC F.P f a o r := fun h => hP ▸ h
  refine Run.seq ?_
  refine Run.region hL hT [] (by cbv) ?_ ?_
  · exact hq0
  refine Run.seq ?_
  refine Run.region hL hT [] (by cbv) ?_ ?_
  · exact (hq trivial hq0)
  refine Run.ret ?_
  cases h
  refine ⟨_, _, by cbv, ?_, ?_⟩
  · exact LLe.r
  · exact (ALe.ag rfl (LLe.c (LLe.c (LLe.c (LLe.cons LLe.nilI (LLe.cons LLe.nilI LLe.nil))))) ALe.nil)

set_option maxRecDepth 8000 in
theorem spec_l1Put_ac {a0v_Kind : Int} {a0v_N : Int} {a0v_S : ByteArray} {a0v_List_ : List Json} {a0v_Names : List ByteArray} {a1 : ByteArray} {a2v_Kind : Int} {a2v_N : Int} {a2v_S : ByteArray} {a2v_List_ : List Json} {a2v_Names : List ByteArray} {r : Json} (h : spec_l1Put.f (Json.mk a0v_Kind a0v_N a0v_S a0v_List_ a0v_Names) a1 (Json.mk a2v_Kind a2v_N a2v_S a2v_List_ a2v_Names) = some r) : AC Tryd.prog 60 [.ag [.s (.int .i64 a0v_Kind), .s (.int .i64 a0v_N), .s (.string a0v_S), .im true (rowsOf Json_k a0v_List_), .im true (rowsOf Str_c a0v_Names)], .v (.s (.string a1)), .ag [.s (.int .i64 a2v_Kind), .s (.int .i64 a2v_N), .s (.string a2v_S), .im true (rowsOf Json_k a2v_List_), .im true (rowsOf Str_c a2v_Names)]] [.ag [.jk, .jk, .jk, .jk, .jk], .v (.jk), .ag [.jk, .jk, .jk, .jk, .jk]] [.ag [.s (.int .i64 r.Kind), .s (.int .i64 r.N), .s (.string r.S), .im true (rowsOf Json_k r.List_), .im true (rowsOf Str_c r.Names)]] := by
  unfold spec_l1Put.f at h
  let ar := Ls.ar; let cm := Ls.cm; let bo := Ls.bo; let sc := Ls.sc; let sa := Ls.sa; let sx := Ls.sx; let ss := Ls.ss; let sl := Ls.sl; let bs := Ls.bs; let sb := Ls.sb; let ln := Ls.ln; let sr := Ls.sr; let ap := Ls.ap; let up := Ls.up; let rp := Ls.rp; let fr := Ls.fr; let ge := Ls.ge; let le := Ls.le; let lt := Ls.lt; let nz := Ls.nz; let mm := Ls.mm; let ma := Ls.ma; let sm := Ls.sm; let fl := Ls.fl; let al := Ls.al; let ci := Ls.ci
  let eJson_k := rowsOf Json_k
  let eJson_o := rowsOf Json_o
  let eStr_c := rowsOf Str_c
  let lenI_Str := @lenI ByteArray
  have hL : (⟨ar, cm, bo, sc, sa, sx, ss, sl, bs, sb, ln, sr, ap, up, rp, fr, ge, le, lt, nz, mm, ma, sm, fl, al, ci⟩ : Lf) = Ls := rfl
  show AC Tryd.prog 60 [.ag [.s (.int .i64 a0v_Kind), .s (.int .i64 a0v_N), .s (.string a0v_S), .im true (eJson_k a0v_List_), .im true (eStr_c a0v_Names)], .v (.s (.string a1)), .ag [.s (.int .i64 a2v_Kind), .s (.int .i64 a2v_N), .s (.string a2v_S), .im true (eJson_k a2v_List_), .im true (eStr_c a2v_Names)]] _ _
  refine AC.of_run2 tab_ok Tryd.func60 (by rfl) (by rfl) (by cbv) ⟨by decide, rfl⟩ fun F hP hA => ?_
  have hT : TabOk F.P tab := hP ▸ tab_ok
  have hM : F.P.follows .mixedOrders = true := hP ▸ mixed
  have hC : ∀ {f a o r}, AC Tryd.prog f a o r → AC F.P f a o r := fun h => hP ▸ h
  refine Run.seq ?_
  refine Run.region hL hT [] (by cbv) ?_ ?_
  · exact hq0
  refine Run.seq ?_
  refine Run.region hL hT [] (by cbv) ?_ ?_
  · exact (hq trivial hq0)
  refine Run.seq ?_
  refine Run.region hL hT [] (by cbv) ?_ ?_
  · exact hq0
  obtain ⟨K4, h_K4, h⟩ := joinE h
  refine Run.join3 K4 (r := r) (fun (y1 : List Json) (y2 : List ByteArray) (y3 : Bool) => ⟨83, 100000, [(1, .t (.s (.string a1))), (5, .pt 1 0 0), (6, .pt 2 0 0), (7, .pt 3 0 0), (8, .t (.s (.bool y3)))], [(1, .box 34 [.t (.s (.int .i64 a2v_Kind)), .t (.s (.int .i64 a2v_N)), .t (.s (.string a2v_S)), .t (.im true (eJson_k a2v_List_)), .t (.im true (eStr_c a2v_Names))]), (2, .box 34 [.t (.s (.int .i64 0)), .t (.s (.int .i64 0)), .t (.s (.string ByteArray.empty)), .t (.s (.slice none 0 0)), .t (.s (.slice none 0 0))]), (3, .box 34 [.t (.s (.int .i64 5)), .t (.s (.int .i64 0)), .t (.s (.string ByteArray.empty)), .rf 4, .rf 5]), (4, .row 0 34 5 (eJson_k y1)), (5, .row 0 9 1 (eStr_c y2))]⟩) ?_ ?_
  · skip
    refine Run.seq ?_
    refine Run.region hL hT [] (by cbv) ?_ ?_
    · exact hq0
    refine Run.block ?_
    refine Run.loop4 (fun (z45 : List Json) (z46 : List ByteArray) (z47 : Bool) (z48 : Int) => ⟨83, 100000, [(1, .t (.s (.string a1))), (3, .pt 1 0 0), (5, .pt 2 0 0), (6, .pt 3 0 0), (7, .pt 4 0 0), (8, .t (.s (.bool z47))), (9, .t (.s (.int .i64 z48)))], [(1, .box 34 [.t (.s (.int .i64 a0v_Kind)), .t (.s (.int .i64 a0v_N)), .t (.s (.string a0v_S)), .t (.im true (eJson_k a0v_List_)), .t (.im true (eStr_c a0v_Names))]), (2, .box 34 [.t (.s (.int .i64 a2v_Kind)), .t (.s (.int .i64 a2v_N)), .t (.s (.string a2v_S)), .t (.im true (eJson_k a2v_List_)), .t (.im true (eStr_c a2v_Names))]), (3, .box 34 [.t (.s (.int .i64 0)), .t (.s (.int .i64 0)), .t (.s (.string ByteArray.empty)), .t (.s (.slice none 0 0)), .t (.s (.slice none 0 0))]), (4, .box 34 [.t (.s (.int .i64 5)), .t (.s (.int .i64 0)), .t (.s (.string ByteArray.empty)), .rf 5, .rf 6]), (5, .row 0 34 5 (eJson_k z45)), (6, .row 0 9 1 (eStr_c z46))]⟩) (x0 := []) (x1 := []) (x2 := false) (x3 := 0) h ((Weak.nilB (l := [.t (.s (.int .i64 5)), .t (.s (.int .i64 0)), .t (.s (.string ByteArray.empty))]) hT 4097 3 17384 34 rfl (by cbv) (by cbv) (by cbv)).trans ((Weak.nilB (l := [.t (.s (.int .i64 5)), .t (.s (.int .i64 0)), .t (.s (.string ByteArray.empty)), .rf 17384]) hT 4097 4 17385 9 rfl (by cbv) (by cbv) (by cbv)).trans (Weak.of _ [(1, 0), (2, 1), (3, 2), (4, 4097), (5, 17384), (6, 17385)] hA (by cbv) ?_))) (fun _ _ _ _ => rfl) ?_
    · repeat (first | exact hq0 | refine hq (by first | exact True.intro | rfl) ?_)
    · intro k z45 z46 z47 z48 h
      rw [spec_l1Put.l0] at h
      refine Run.seq ?_
      refine Run.seq ?_
      refine Run.region hL hT [] (by cbv) ?_ ?_
      · exact (hq trivial (hq trivial hq0))
      rw [show ln (eStr_c a0v_Names) = lenI_Str a0v_Names from ln_eq Str_c _]
      refine Run.cond (by cbv) (hq0) (fun c49 => ?_) (fun c49 => ?_)
      · have h := if_t c49 h
        refine Run.skip ?_
        refine Run.seq ?_
        refine Run.block ?_
        obtain ⟨K53, h_K53, h⟩ := joinE h
        refine Run.join3 K53 (r := r) (fun (y50 : List Json) (y51 : List ByteArray) (y52 : Bool) => ⟨83, 100000, [(1, .t (.s (.string a1))), (3, .pt 1 0 0), (5, .pt 2 0 0), (6, .pt 3 0 0), (7, .pt 4 0 0), (8, .t (.s (.bool y52))), (9, .t (.s (.int .i64 z48)))], [(1, .box 34 [.t (.s (.int .i64 a0v_Kind)), .t (.s (.int .i64 a0v_N)), .t (.s (.string a0v_S)), .t (.im true (eJson_k a0v_List_)), .t (.im true (eStr_c a0v_Names))]), (2, .box 34 [.t (.s (.int .i64 a2v_Kind)), .t (.s (.int .i64 a2v_N)), .t (.s (.string a2v_S)), .t (.im true (eJson_k a2v_List_)), .t (.im true (eStr_c a2v_Names))]), (3, .box 34 [.t (.s (.int .i64 0)), .t (.s (.int .i64 0)), .t (.s (.string ByteArray.empty)), .t (.s (.slice none 0 0)), .t (.s (.slice none 0 0))]), (4, .box 34 [.t (.s (.int .i64 5)), .t (.s (.int .i64 0)), .t (.s (.string ByteArray.empty)), .rf 5, .rf 6]), (5, .row 0 34 5 (eJson_k y50)), (6, .row 0 9 1 (eStr_c y51))]⟩) ?_ ?_
        · skip
          refine Run.seq ?_
          obtain ⟨x54, h_x54, h⟩ := bnd h
          refine Run.region hL hT [(6, .el [.s (.string x54)])] (by cbv) ?_ ?_
          · exact (hq (fun _ => hq0) (hq (fun g56 => (hq g56 (hq trivial hq0))) (hq (fun _ => hq0) (hq (fun g58 => (hq g58 (hq g58 (hq (get_le (gd_t h_x54 g58)) (hq (get_lt (f := Str_c) (gd_t h_x54 g58)) (hq (get_ge (f := Str_c) (gd_t h_x54 g58)) hq0)))))) (hq (fun g59 => (hq g59 hq0)) (hq (fun _ => hq0) (hq (fun g61 => (hq g61 (hq g61 hq0))) (hq (fun q62 => (hq q62 hq0)) (hq (fun _ => hq0) hq0)))))))))
          refine Run.cond (by cbv) (hq0) (fun c64 => ?_) (fun c64 => ?_)
          · have h := if_t c64 h
            refine Run.seq ?_
            obtain ⟨l65, h_l65, h⟩ := bnd h
            obtain ⟨l66, h_l66, h⟩ := bnd h
            refine Run.region hL hT [] (by cbv) ?_ ?_
            · exact (hq trivial (hq (app_mb (P := Tryd.prog) (f := Str_c) RLe.r (some_le (f := Str_c) h_l65 (RLe.cons rfl LLe.r RLe.nil)) h_l66) (hq trivial hq0)))
            refine Run.row (rows := (ap (eStr_c z46) ([[.s (.string a1)]]))) 108196 (eStr_c l66) (by cbv) (app_le (f := Str_c) RLe.r (some_le (f := Str_c) h_l65 (RLe.cons rfl LLe.r RLe.nil)) h_l66) ?_
            refine Run.seq ?_
            obtain ⟨l67, h_l67, h⟩ := bnd h
            obtain ⟨l68, h_l68, h⟩ := bnd h
            refine Run.region hL hT [] (by cbv) ?_ ?_
            · exact (hq trivial (hq trivial (hq (app_mb (P := Tryd.prog) (f := Json_k) RLe.r (some_leU Json_k_u h_l67 (RLe.cons rfl LLe.r RLe.nil)) h_l68) (hq trivial hq0))))
            refine Run.row (rows := (ap (eJson_k z45) ([[.s (.int .i64 a2v_Kind), .s (.int .i64 a2v_N), .s (.string a2v_S), .im true (eJson_k a2v_List_), .im true (eStr_c a2v_Names)]]))) 112292 (eJson_k l68) (by cbv) (app_le (f := Json_k) RLe.r (some_leU Json_k_u h_l67 (RLe.cons rfl LLe.r RLe.nil)) h_l68) ?_
            refine Run.region hL hT [] (by cbv) ?_ ?_
            · exact hq0
            refine ⟨l68, l66, true, h, Weak.of _ [(1, 1), (2, 2), (3, 3), (4, 4), (5, 112292), (6, 108196)] hA (by cbv) ?_⟩
            repeat (first | exact hq0 | refine hq (by first | exact True.intro | rfl) ?_)
          · have h := if_f c64 h
            refine Run.skip ?_
            refine ⟨z45, z46, z47, h, Weak.of _ [(1, 1), (2, 2), (3, 3), (4, 4), (5, 5), (6, 6)] hA (by cbv) ?_⟩
            repeat (first | exact hq0 | refine hq (by first | exact True.intro | rfl) ?_)
        · intro y50 y51 y52 h
          rw [h_K53] at h
          refine Run.seq ?_
          obtain ⟨x69, h_x69, h⟩ := bnd h
          refine Run.region hL hT [(3, .el [.s (.string x69)])] (by cbv) ?_ ?_
          · exact (hq trivial (hq (get_le h_x69) (hq (get_lt (f := Str_c) h_x69) (hq (get_ge (f := Str_c) h_x69) hq0))))
          refine Run.cond (by cbv) (hq0) (fun c70 => ?_) (fun c70 => ?_)
          · have h := if_t c70 h
            refine Run.seq ?_
            obtain ⟨l71, h_l71, h⟩ := bnd h
            obtain ⟨l72, h_l72, h⟩ := bnd h
            refine Run.draw hL hT hM [(5, .el [.s (.string x69)])] (by cbv) (by cbv) (by cbv) (by cbv) (by cbv) ?_ ?_
            · exact (hq trivial (hq trivial (hq (get_le h_x69) (hq (get_lt (f := Str_c) h_x69) (hq (get_ge (f := Str_c) h_x69) (hq (app_mb (P := Tryd.prog) (f := Str_c) RLe.r (some_le (f := Str_c) h_l71 (RLe.cons rfl LLe.r RLe.nil)) h_l72) (hq trivial hq0)))))))
            refine Run.row (rows := (ap (eStr_c y51) ([[.s (.string x69)]]))) 104104 (eStr_c l72) (by cbv) (app_le (f := Str_c) RLe.r (some_le (f := Str_c) h_l71 (RLe.cons rfl LLe.r RLe.nil)) h_l72) ?_
            obtain ⟨⟨x73v_Kind, x73v_N, x73v_S, x73v_List_, x73v_Names⟩, h_x73, h⟩ := bnd h
            obtain ⟨l74, h_l74, h⟩ := bnd h
            obtain ⟨l75, h_l75, h⟩ := bnd h
            refine Run.draw hL hT hM [(5, .el [.s (.int .i64 x73v_Kind), .s (.int .i64 x73v_N), .s (.string x73v_S), .im true (eJson_k x73v_List_), .im true (eStr_c x73v_Names)])] (by cbv) (by cbv) (by cbv) (by cbv) (by cbv) ?_ ?_
            · exact (hq trivial (hq trivial (hq (get_le h_x73) (hq (get_lt (f := Json_k) h_x73) (hq (get_geU Json_k_u h_x73) (hq (app_mb (P := Tryd.prog) (f := Json_k) RLe.r (some_leU Json_k_u h_l74 (RLe.cons rfl LLe.r RLe.nil)) h_l75) (hq trivial hq0)))))))
            refine Run.row (rows := (ap (eJson_k y50) ([[.s (.int .i64 x73v_Kind), .s (.int .i64 x73v_N), .s (.string x73v_S), .im true (eJson_k x73v_List_), .im true (eStr_c x73v_Names)]]))) 108200 (eJson_k l75) (by cbv) (app_le (f := Json_k) RLe.r (some_leU Json_k_u h_l74 (RLe.cons rfl LLe.r RLe.nil)) h_l75) ?_
            refine Run.region hL hT [] (by cbv) ?_ ?_
            · exact (hq trivial hq0)
            refine ⟨l75, l72, y52, (ar .add .i64 z48 1), h, Weak.of _ [(1, 1), (2, 2), (3, 3), (4, 4), (5, 108200), (6, 104104)] hA (by cbv) ?_⟩
            repeat (first | exact hq0 | refine hq (by first | exact True.intro | rfl) ?_)
          · have h := if_f c70 h
            refine Run.skip ?_
            refine Run.region hL hT [] (by cbv) ?_ ?_
            · exact (hq trivial hq0)
            refine ⟨y50, y51, y52, (ar .add .i64 z48 1), h, Weak.of _ [(1, 1), (2, 2), (3, 3), (4, 4), (5, 5), (6, 6)] hA (by cbv) ?_⟩
            repeat (first | exact hq0 | refine hq (by first | exact True.intro | rfl) ?_)
      · have h := if_f c49 h
        refine Run.exit ?_
        refine ⟨z45, z46, z47, h, Weak.of _ [(1, 2), (2, 3), (3, 4), (4, 5), (5, 6)] hA (by cbv) ?_⟩
        repeat (first | exact hq0 | refine hq (by first | exact True.intro | rfl) ?_)
  · intro y1 y2 y3 h
    rw [h_K4] at h
    refine Run.seq ?_
    refine Run.seq ?_
    refine Run.region hL hT [] (by cbv) ?_ ?_
    · exact hq0
    refine Run.cond (by cbv) (hq0) (fun c76 => ?_) (fun c76 => ?_)
    · have h := if_t c76 h
      refine Run.seq ?_
      obtain ⟨l77, h_l77, h⟩ := bnd h
      obtain ⟨l78, h_l78, h⟩ := bnd h
      refine Run.region hL hT [] (by cbv) ?_ ?_
      · exact (hq trivial (hq (app_mb (P := Tryd.prog) (f := Str_c) RLe.r (some_le (f := Str_c) h_l77 (RLe.cons rfl LLe.r RLe.nil)) h_l78) (hq trivial hq0)))
      refine Run.row (rows := (ap (eStr_c y2) ([[.s (.string a1)]]))) 104100 (eStr_c l78) (by cbv) (app_le (f := Str_c) RLe.r (some_le (f := Str_c) h_l77 (RLe.cons rfl LLe.r RLe.nil)) h_l78) ?_
      obtain ⟨l79, h_l79, h⟩ := bnd h
      obtain ⟨l80, h_l80, h⟩ := bnd h
      refine Run.region hL hT [] (by cbv) ?_ ?_
      · exact (hq trivial (hq trivial (hq (app_mb (P := Tryd.prog) (f := Json_k) RLe.r (some_leU Json_k_u h_l79 (RLe.cons rfl LLe.r RLe.nil)) h_l80) (hq trivial hq0))))
      refine Run.row (rows := (ap (eJson_k y1) ([[.s (.int .i64 a2v_Kind), .s (.int .i64 a2v_N), .s (.string a2v_S), .im true (eJson_k a2v_List_), .im true (eStr_c a2v_Names)]]))) 108196 (eJson_k l80) (by cbv) (app_le (f := Json_k) RLe.r (some_leU Json_k_u h_l79 (RLe.cons rfl LLe.r RLe.nil)) h_l80) ?_
      refine Run.seq ?_
      refine Run.region hL hT [] (by cbv) ?_ ?_
      · exact (hq trivial (hq trivial hq0))
      refine Run.weak ?_ (Weak.keepL (rows := eJson_k l80) 108196 (by cbv) (eJson_k l80) (Json_k_kv _))
      refine Run.weak ?_ (Weak.keep (rows := eStr_c l78) 104100 (by cbv) (eStr_c l78) (fr_row Str_c_z _))
      refine Run.ret ?_
      cases h
      refine ⟨_, _, by cbv, ?_, ?_⟩
      · exact LLe.r
      · exact (ALe.ag rfl LLe.r ALe.nil)
    · have h := if_f c76 h
      refine Run.skip ?_
      refine Run.seq ?_
      refine Run.region hL hT [] (by cbv) ?_ ?_
      · exact (hq trivial (hq trivial hq0))
      refine Run.weak ?_ (Weak.keepL (rows := eJson_k y1) 4 (by cbv) (eJson_k y1) (Json_k_kv _))
      refine Run.weak ?_ (Weak.keep (rows := eStr_c y2) 5 (by cbv) (eStr_c y2) (fr_row Str_c_z _))
      refine Run.ret ?_
      cases h
      refine ⟨_, _, by cbv, ?_, ?_⟩
      · exact LLe.r
      · exact (ALe.ag rfl LLe.r ALe.nil)

set_option maxRecDepth 8000 in
theorem spec_l2Digits_ac {a0 : Int} {r : ByteArray} (h : spec_l2Digits.f a0 = some r) : AC Tryd.prog 61 [.v (.s (.int .i64 a0))] [.v (.jk)] [.v (.s (.string r))] := by
  unfold spec_l2Digits.f at h
  let ar := Ls.ar; let cm := Ls.cm; let bo := Ls.bo; let sc := Ls.sc; let sa := Ls.sa; let sx := Ls.sx; let ss := Ls.ss; let sl := Ls.sl; let bs := Ls.bs; let sb := Ls.sb; let ln := Ls.ln; let sr := Ls.sr; let ap := Ls.ap; let up := Ls.up; let rp := Ls.rp; let fr := Ls.fr; let ge := Ls.ge; let le := Ls.le; let lt := Ls.lt; let nz := Ls.nz; let mm := Ls.mm; let ma := Ls.ma; let sm := Ls.sm; let fl := Ls.fl; let al := Ls.al; let ci := Ls.ci
  let eu8_c := rowsOf u8_c
  have hL : (⟨ar, cm, bo, sc, sa, sx, ss, sl, bs, sb, ln, sr, ap, up, rp, fr, ge, le, lt, nz, mm, ma, sm, fl, al, ci⟩ : Lf) = Ls := rfl
  show AC Tryd.prog 61 [.v (.s (.int .i64 a0))] _ _
  refine AC.of_run2 tab_ok Tryd.func61 (by rfl) (by rfl) (by cbv) ⟨by decide, rfl⟩ fun F hP hA => ?_
  have hT : TabOk F.P tab := hP ▸ tab_ok
  have hM : F.P.follows .mixedOrders = true := hP ▸ mixed
  have hC : ∀ {f a o r}, AC Tryd.prog f a o r → AC F.P f a o r := fun h => hP ▸ h
  refine Run.seq ?_
  refine Run.region hL hT [] (by cbv) ?_ ?_
  · exact hq0
  refine Run.seq ?_
  refine Run.seq ?_
  refine Run.region hL hT [] (by cbv) ?_ ?_
  · exact (hq trivial hq0)
  refine Run.cond (by cbv) (hq0) (fun c1 => ?_) (fun c1 => ?_)
  · have h := if_t c1 h
    refine Run.seq ?_
    refine Run.region hL hT [] (by cbv) ?_ ?_
    · exact hq0
    refine Run.ret ?_
    cases h
    refine ⟨_, _, by cbv, ?_, ?_⟩
    · exact LLe.r
    · exact (ALe.v LLe.r ALe.nil)
  · have h := if_f c1 h
    refine Run.skip ?_
    refine Run.seq ?_
    refine Run.region hL hT [] (by cbv) ?_ ?_
    · exact (hq trivial hq0)
    refine Run.seq ?_
    refine Run.region hL hT [] (by cbv) ?_ ?_
    · exact hq0
    obtain ⟨K4, h_K4, h⟩ := joinE h
    refine Run.join2 K4 (r := r) (fun (y2 : Bool) (y3 : ByteArray) => ⟨31, 100000, [(3, .t (.s (.bool y2))), (4, .t (.s (.string y3)))], []⟩) ?_ ?_
    · skip
      refine Run.block ?_
      refine Run.loop3 (fun (z8 : Int) (z9 : Bool) (z10 : ByteArray) => ⟨31, 100000, [(0, .t (.s (.int .i64 z8))), (3, .t (.s (.bool z9))), (4, .t (.s (.string z10)))], []⟩) (x0 := a0) (x1 := (cm .lss a0 0)) (x2 := (ByteArray.mk #[])) h (Weak.of _ [] hA (by cbv) ?_) (fun _ _ _ => rfl) ?_
      · repeat (first | exact hq0 | refine hq (by first | exact True.intro | rfl) ?_)
      · intro k z8 z9 z10 h
        rw [spec_l2Digits.l0] at h
        refine Run.seq ?_
        refine Run.seq ?_
        refine Run.region hL hT [] (by cbv) ?_ ?_
        · exact (hq trivial hq0)
        refine Run.cond (by cbv) (hq0) (fun c11 => ?_) (fun c11 => ?_)
        · have h := if_t c11 h
          refine Run.skip ?_
          refine Run.block ?_
          refine Run.seq ?_
          refine Run.region hL hT [] (by cbv) ?_ ?_
          · exact (hq trivial (hq (show Ls.nz 10 from (by decide : (10 : Int) ≠ 0)) hq0))
          refine Run.seq ?_
          refine Run.seq ?_
          refine Run.region hL hT [] (by cbv) ?_ ?_
          · exact (hq trivial hq0)
          refine Run.cond (by cbv) (hq0) (fun c12 => ?_) (fun c12 => ?_)
          · have h := if_t c12 h
            refine Run.region hL hT [] (by cbv) ?_ ?_
            · exact (hq trivial hq0)
            refine Run.seq ?_
            obtain ⟨l13, h_l13, h⟩ := bnd h
            obtain ⟨s14, h_s14, h⟩ := bnd h
            obtain ⟨u15, h_u15, h⟩ := bnd h
            refine Run.region hL hT [(4, .hd [116387] (.t (.s (.string s14))) [])] (by cbv) ?_ ?_
            · exact (hq trivial (hq (hand_conv (ns := [(IntKind.wrap .u8 (w64 (48 + (w64 (0 - (Int.tmod z8 10))))))]) hT (by rfl) (by rfl) (by rfl) (by rfl) (by rfl) (by rfl) (by rfl) (conv_lit h_l13 h_s14)) (hq (sm_t h_u15) hq0)))
            refine Run.row (rows := [[.s (.int .u8 (ar .or .u8 (ar .add .i64 48 (ar .sub .i64 0 (ar .rem .i64 z8 10))) 0))]]) 116387 (eu8_c l13) (by cbv) (some_le (f := u8_c) h_l13 (RLe.cons rfl LLe.r RLe.nil)) ?_
            refine Run.region hL hT [] (by cbv) ?_ ?_
            · exact (hq trivial (hq (show Ls.nz 10 from (by decide : (10 : Int) ≠ 0)) hq0))
            refine ⟨(ar .quo .i64 z8 10), z9, (sa s14 z10), h, Weak.of _ [] hA (by cbv) ?_⟩
            repeat (first | exact hq0 | refine hq (by first | exact True.intro | rfl) ?_)
          · have h := if_f c12 h
            refine Run.skip ?_
            refine Run.seq ?_
            obtain ⟨l16, h_l16, h⟩ := bnd h
            obtain ⟨s17, h_s17, h⟩ := bnd h
            obtain ⟨u18, h_u18, h⟩ := bnd h
            refine Run.region hL hT [(4, .hd [112291] (.t (.s (.string s17))) [])] (by cbv) ?_ ?_
            · exact (hq trivial (hq (hand_conv (ns := [(IntKind.wrap .u8 (w64 (48 + (Int.tmod z8 10))))]) hT (by rfl) (by rfl) (by rfl) (by rfl) (by rfl) (by rfl) (by rfl) (conv_lit h_l16 h_s17)) (hq (sm_t h_u18) hq0)))
            refine Run.row (rows := [[.s (.int .u8 (ar .or .u8 (ar .add .i64 48 (ar .rem .i64 z8 10)) 0))]]) 112291 (eu8_c l16) (by cbv) (some_le (f := u8_c) h_l16 (RLe.cons rfl LLe.r RLe.nil)) ?_
            refine Run.region hL hT [] (by cbv) ?_ ?_
            · exact (hq trivial (hq (show Ls.nz 10 from (by decide : (10 : Int) ≠ 0)) hq0))
            refine ⟨(ar .quo .i64 z8 10), z9, (sa s17 z10), h, Weak.of _ [] hA (by cbv) ?_⟩
            repeat (first | exact hq0 | refine hq (by first | exact True.intro | rfl) ?_)
        · have h := if_f c11 h
          refine Run.exit ?_
          refine ⟨z9, z10, h, Weak.of _ [] hA (by cbv) ?_⟩
          repeat (first | exact hq0 | refine hq (by first | exact True.intro | rfl) ?_)
    · intro y2 y3 h
      rw [h_K4] at h
      refine Run.seq ?_
      refine Run.seq ?_
      refine Run.region hL hT [] (by cbv) ?_ ?_
      · exact hq0
      refine Run.cond (by cbv) (hq0) (fun c19 => ?_) (fun c19 => ?_)
      · have h := if_t c19 h
        refine Run.seq ?_
        obtain ⟨u20, h_u20, h⟩ := bnd h
        refine Run.region hL hT [] (by cbv) ?_ ?_
        · exact (hq (sm_t h_u20) hq0)
        refine Run.ret ?_
        cases h
        refine ⟨_, _, by cbv, ?_, ?_⟩
        · exact LLe.r
        · exact (ALe.v LLe.r ALe.nil)
      · have h := if_f c19 h
        refine Run.skip ?_
        refine Run.seq ?_
        refine Run.region hL hT [] (by cbv) ?_ ?_
        · exact hq0
        refine Run.ret ?_
        cases h
        refine ⟨_, _, by cbv, ?_, ?_⟩
        · exact LLe.r
        · exact (ALe.v LLe.r ALe.nil)

set_option maxRecDepth 8000 in
theorem spec_l1In_ac {a0 : Int} {a1 : Int} {a2 : Int} {r : Bool} (h : spec_l1In.f a0 a1 a2 = some r) : AC Tryd.prog 51 [.v (.s (.int .i64 a0)), .v (.s (.int .i64 a1)), .v (.s (.int .i64 a2))] [.v (.jk), .v (.jk), .v (.jk)] [.v (.s (.bool r))] := by
  unfold spec_l1In.f at h
  let ar := Ls.ar; let cm := Ls.cm; let bo := Ls.bo; let sc := Ls.sc; let sa := Ls.sa; let sx := Ls.sx; let ss := Ls.ss; let sl := Ls.sl; let bs := Ls.bs; let sb := Ls.sb; let ln := Ls.ln; let sr := Ls.sr; let ap := Ls.ap; let up := Ls.up; let rp := Ls.rp; let fr := Ls.fr; let ge := Ls.ge; let le := Ls.le; let lt := Ls.lt; let nz := Ls.nz; let mm := Ls.mm; let ma := Ls.ma; let sm := Ls.sm; let fl := Ls.fl; let al := Ls.al; let ci := Ls.ci
  have hL : (⟨ar, cm, bo, sc, sa, sx, ss, sl, bs, sb, ln, sr, ap, up, rp, fr, ge, le, lt, nz, mm, ma, sm, fl, al, ci⟩ : Lf) = Ls := rfl
  show AC Tryd.prog 51 [.v (.s (.int .i64 a0)), .v (.s (.int .i64 a1)), .v (.s (.int .i64 a2))] _ _
  refine AC.of_run2 tab_ok Tryd.func51 (by rfl) (by rfl) (by cbv) ⟨by decide, rfl⟩ fun F hP hA => ?_
  have hT : TabOk F.P tab := hP ▸ tab_ok
  have hM : F.P.follows .mixedOrders = true := hP ▸ mixed
  have hC : ∀ {f a o r}, AC Tryd.prog f a o r → AC F.P f a o r := fun h => hP ▸ h
  refine Run.seq ?_
  refine Run.region hL hT [] (by cbv) ?_ ?_
  · exact hq0
  refine Run.seq ?_
  refine Run.region hL hT [] (by cbv) ?_ ?_
  · exact (hq trivial (hq (fun _ => hq0) (hq (fun _ => hq0) (hq (fun g3 => (hq g3 (hq g3 (hq trivial hq0)))) (hq (fun q4 => (hq q4 hq0)) (hq (fun _ => hq0) hq0))))))
  refine Run.ret ?_
  cases h
  refine ⟨_, _, by cbv, ?_, ?_⟩
  · exact LLe.r
  · exact (ALe.v LLe.r ALe.nil)

set_option maxRecDepth 8000 in
theorem spec_l9Cell_ac {a0v_Id : Int} {a0v_Cells : List Int} {a1 : Int} {r : Int} (h : spec_l9Cell.f (Row.mk a0v_Id a0v_Cells) a1 = some r) : AC Tryd.prog 62 [.ag [.s (.int .i64 a0v_Id), .im false (rowsOf Int_c a0v_Cells)], .v (.s (.int .i64 a1))] [.ag [.jk, .jk], .v (.jk)] [.v (.s (.int .i64 r))] := by
  unfold spec_l9Cell.f at h
  let ar := Ls.ar; let cm := Ls.cm; let bo := Ls.bo; let sc := Ls.sc; let sa := Ls.sa; let sx := Ls.sx; let ss := Ls.ss; let sl := Ls.sl; let bs := Ls.bs; let sb := Ls.sb; let ln := Ls.ln; let sr := Ls.sr; let ap := Ls.ap; let up := Ls.up; let rp := Ls.rp; let fr := Ls.fr; let ge := Ls.ge; let le := Ls.le; let lt := Ls.lt; let nz := Ls.nz; let mm := Ls.mm; let ma := Ls.ma; let sm := Ls.sm; let fl := Ls.fl; let al := Ls.al; let ci := Ls.ci
  let eInt_c := rowsOf Int_c
  let lenI_Int := @lenI Int
  have hL : (⟨ar, cm, bo, sc, sa, sx, ss, sl, bs, sb, ln, sr, ap, up, rp, fr, ge, le, lt, nz, mm, ma, sm, fl, al, ci⟩ : Lf) = Ls := rfl
  show AC Tryd.prog 62 [.ag [.s (.int .i64 a0v_Id), .im false (eInt_c a0v_Cells)], .v (.s (.int .i64 a1))] _ _
  refine AC.of_run2 tab_ok Tryd.func62 (by rfl) (by rfl) (by cbv) ⟨by decide, rfl⟩ fun F hP hA => ?_
  have hT : TabOk F.P tab := hP ▸ tab_ok
  have hM : F.P.follows .mixedOrders = true := hP ▸ mixed
  have hC : ∀ {f a o r}, AC Tryd.prog f a o r → AC F.P f a o r := fun h => hP ▸ h
  refine Run.seq ?_
  refine Run.region hL hT [] (by cbv) ?_ ?_
  · exact hq0
  refine Run.seq ?_
  refine Run.seq ?_
  obtain ⟨r1, h_r1, h⟩ := bnd h
  refine Run.region hL hT [(5, .call [false, false, false] [.v (.jk), .v (.jk), .v (.jk)] [.v (.s (.bool r1))])] (by cbv) ?_ ?_
  · exact (hq trivial (hq trivial (hq (by rw [show ln (eInt_c a0v_Cells) = lenI_Int a0v_Cells from ln_eq Int_c _]; exact (hC (spec_l1In_ac h_r1))) hq0)))
  rw [show ln (eInt_c a0v_Cells) = lenI_Int a0v_Cells from ln_eq Int_c _]
  refine Run.cond (by cbv) (hq0) (fun c2 => ?_) (fun c2 => ?_)
  · have h := if_t c2 h
    refine Run.seq ?_
    refine Run.region hL hT [] (by cbv) ?_ ?_
    · exact hq0
    refine Run.ret ?_
    cases h
    refine ⟨_, _, by cbv, ?_, ?_⟩
    · exact LLe.r
    · exact (ALe.v LLe.r ALe.nil)
  · have h := if_f c2 h
    refine Run.skip ?_
    refine Run.seq ?_
    obtain ⟨x3, h_x3, h⟩ := bnd h
    refine Run.region hL hT [(3, .el [.s (.int .i64 x3)])] (by cbv) ?_ ?_
    · exact (hq trivial (hq (get_le h_x3) (hq (get_lt (f := Int_c) h_x3) (hq (get_ge (f := Int_c) h_x3) hq0))))
    refine Run.ret ?_
    cases h
    refine ⟨_, _, by cbv, ?_, ?_⟩
    · exact LLe.r
    · exact (ALe.v LLe.r ALe.nil)

set_option maxRecDepth 8000 in
theorem spec_l11Row_ac {a0v_Table : Int} {a0v_Where : List Cond} {a0v_Order : Int} {a0v_Down : Bool} {a0v_First : Int} {a0v_Show : List Int} {a0v_Kids : Bool} {a0v_KidTable : Int} {a0v_KidCol : Int} {a1v_Id : Int} {a1v_Cells : List Int} {a2 : Int} {r : Json} (h : spec_l11Row.f (Query.mk a0v_Table a0v_Where a0v_Order a0v_Down a0v_First a0v_Show a0v_Kids a0v_KidTable a0v_KidCol) (Row.mk a1v_Id a1v_Cells) a2 = some r) : AC Tryd.prog 34 [.ag [.s (.int .i64 a0v_Table), .im false (rowsOf Cond_c a0v_Where), .s (.int .i64 a0v_Order), .s (.bool a0v_Down), .s (.int .i64 a0v_First), .im false (rowsOf Int_c a0v_Show), .s (.bool a0v_Kids), .s (.int .i64 a0v_KidTable), .s (.int .i64 a0v_KidCol)], .ag [.s (.int .i64 a1v_Id), .im false (rowsOf Int_c a1v_Cells)], .v (.s (.int .i64 a2))] [.ag [.jk, .jk, .jk, .jk, .jk, .jk, .jk, .jk, .jk], .ag [.jk, .jk], .v (.jk)] [.ag [.s (.int .i64 r.Kind), .s (.int .i64 r.N), .s (.string r.S), .im true (rowsOf Json_k r.List_), .im true (rowsOf Str_c r.Names)]] := by
  unfold spec_l11Row.f at h
  let ar := Ls.ar; let cm := Ls.cm; let bo := Ls.bo; let sc := Ls.sc; let sa := Ls.sa; let sx := Ls.sx; let ss := Ls.ss; let sl := Ls.sl; let bs := Ls.bs; let sb := Ls.sb; let ln := Ls.ln; let sr := Ls.sr; let ap := Ls.ap; let up := Ls.up; let rp := Ls.rp; let fr := Ls.fr; let ge := Ls.ge; let le := Ls.le; let lt := Ls.lt; let nz := Ls.nz; let mm := Ls.mm; let ma := Ls.ma; let sm := Ls.sm; let fl := Ls.fl; let al := Ls.al; let ci := Ls.ci
  let eCond_c := rowsOf Cond_c
  let eInt_c := rowsOf Int_c
  let eJson_k := rowsOf Json_k
  let eStr_c := rowsOf Str_c
  let lenI_Int := @lenI Int
  have hL : (⟨ar, cm, bo, sc, sa, sx, ss, sl, bs, sb, ln, sr, ap, up, rp, fr, ge, le, lt, nz, mm, ma, sm, fl, al, ci⟩ : Lf) = Ls := rfl
  show AC Tryd.prog 34 [.ag [.s (.int .i64 a0v_Table), .im false (eCond_c a0v_Where), .s (.int .i64 a0v_Order), .s (.bool a0v_Down), .s (.int .i64 a0v_First), .im false (eInt_c a0v_Show), .s (.bool a0v_Kids), .s (.int .i64 a0v_KidTable), .s (.int .i64 a0v_KidCol)], .ag [.s (.int .i64 a1v_Id), .im false (eInt_c a1v_Cells)], .v (.s (.int .i64 a2))] _ _
  refine AC.of_run2 tab_ok Tryd.func34 (by rfl) (by rfl) (by cbv) ⟨by decide, rfl⟩ fun F hP hA => ?_
  have hT : TabOk F.P tab := hP ▸ tab_ok
  have hM : F.P.follows .mixedOrders = true := hP ▸ mixed
  have hC : ∀ {f a o r}, AC Tryd.prog f a o r → AC F.P f a o r := fun h => hP ▸ h
  refine Run.seq ?_
  refine Run.region hL hT [] (by cbv) ?_ ?_
  · exact hq0
  refine Run.seq ?_
  refine Run.region hL hT [] (by cbv) ?_ ?_
  · exact (hq trivial hq0)
  obtain ⟨K6, h_K6, h⟩ := joinE h
  refine Run.join5 K6 (r := r) (fun (y1 : Int) (y2 : Int) (y3 : ByteArray) (y4 : List Json) (y5 : List ByteArray) => ⟨46, 100000, [(2, .t (.s (.int .i64 a2))), (3, .pt 1 0 0), (4, .pt 2 0 0), (6, .pt 3 0 0), (7, .pt 4 0 0)], [(1, .box 27 [.t (.s (.int .i64 a0v_Table)), .t (.im false (eCond_c a0v_Where)), .t (.s (.int .i64 a0v_Order)), .t (.s (.bool a0v_Down)), .t (.s (.int .i64 a0v_First)), .t (.im false (eInt_c a0v_Show)), .t (.s (.bool a0v_Kids)), .t (.s (.int .i64 a0v_KidTable)), .t (.s (.int .i64 a0v_KidCol))]), (2, .box 41 [.t (.s (.int .i64 a1v_Id)), .t (.im false (eInt_c a1v_Cells))]), (3, .box 34 [.t (.s (.int .i64 0)), .t (.s (.int .i64 0)), .t (.s (.string ByteArray.empty)), .t (.s (.slice none 0 0)), .t (.s (.slice none 0 0))]), (4, .box 34 [.t (.s (.int .i64 y1)), .t (.s (.int .i64 y2)), .t (.s (.string y3)), .t (.im true (eJson_k y4)), .t (.im true (eStr_c y5))])]⟩) ?_ ?_
  · skip
    refine Run.seq ?_
    refine Run.region hL hT [] (by cbv) ?_ ?_
    · exact hq0
    refine Run.block ?_
    refine Run.loop6 (fun (z47 : Int) (z48 : Int) (z49 : ByteArray) (z50 : List Json) (z51 : List ByteArray) (z52 : Int) => ⟨46, 100000, [(2, .t (.s (.int .i64 a2))), (3, .pt 1 0 0), (4, .pt 2 0 0), (6, .pt 3 0 0), (7, .pt 4 0 0), (8, .t (.s (.int .i64 z52)))], [(1, .box 27 [.t (.s (.int .i64 a0v_Table)), .t (.im false (eCond_c a0v_Where)), .t (.s (.int .i64 a0v_Order)), .t (.s (.bool a0v_Down)), .t (.s (.int .i64 a0v_First)), .t (.im false (eInt_c a0v_Show)), .t (.s (.bool a0v_Kids)), .t (.s (.int .i64 a0v_KidTable)), .t (.s (.int .i64 a0v_KidCol))]), (2, .box 41 [.t (.s (.int .i64 a1v_Id)), .t (.im false (eInt_c a1v_Cells))]), (3, .box 34 [.t (.s (.int .i64 0)), .t (.s (.int .i64 0)), .t (.s (.string ByteArray.empty)), .t (.s (.slice none 0 0)), .t (.s (.slice none 0 0))]), (4, .box 34 [.t (.s (.int .i64 z47)), .t (.s (.int .i64 z48)), .t (.s (.string z49)), .t (.im true (eJson_k z50)), .t (.im true (eStr_c z51))])]⟩) (x0 := 5) (x1 := 0) (x2 := ByteArray.empty) (x3 := []) (x4 := []) (x5 := 0) h ((Weak.cellB (l := [.t (.s (.int .i64 5)), .t (.s (.int .i64 0)), .t (.s (.string ByteArray.empty))]) (y := .im true (eJson_k [])) 4097 (by cbv) LLe.nilI).trans ((Weak.cellB (l := [.t (.s (.int .i64 5)), .t (.s (.int .i64 0)), .t (.s (.string ByteArray.empty)), .t (.im true (eJson_k []))]) (y := .im true (eStr_c [])) 4097 (by cbv) LLe.nilI).trans (Weak.of _ [(1, 0), (2, 1), (3, 2), (4, 4097)] hA (by cbv) ?_))) (fun _ _ _ _ _ _ => rfl) ?_
    · repeat (first | exact hq0 | refine hq (by first | exact True.intro | rfl) ?_)
    · intro k z47 z48 z49 z50 z51 z52 h
      rw [spec_l11Row.l0] at h
      refine Run.seq ?_
      refine Run.seq ?_
      refine Run.region hL hT [] (by cbv) ?_ ?_
      · exact (hq trivial (hq trivial hq0))
      rw [show ln (eInt_c a0v_Show) = lenI_Int a0v_Show from ln_eq Int_c _]
      refine Run.cond (by cbv) (hq0) (fun c53 => ?_) (fun c53 => ?_)
      · have h := if_t c53 h
        refine Run.skip ?_
        refine Run.seq ?_
        refine Run.block ?_
        obtain ⟨x54, h_x54, h⟩ := bnd h
        obtain ⟨r55, h_r55, h⟩ := bnd h
        obtain ⟨u56, h_u56, h⟩ := bnd h
        obtain ⟨r57, h_r57, h⟩ := bnd h
        obtain ⟨⟨r58v_Kind, r58v_N, r58v_S, r58v_List_, r58v_Names⟩, h_r58, h⟩ := bnd h
        obtain ⟨⟨r59v_Kind, r59v_N, r59v_S, r59v_List_, r59v_Names⟩, h_r59, h⟩ := bnd h
        refine Run.draw hL hT hM [(4, .el [.s (.int .i64 x54)]), (6, .call [false] [.v (.jk)] [.v (.s (.string r55))]), (12, .el [.s (.int .i64 x54)]), (14, .call [false, false] [.ag [.jk, .jk], .v (.jk)] [.v (.s (.int .i64 r57))]), (15, .call [false] [.v (.jk)] [.ag [.s (.int .i64 r58v_Kind), .s (.int .i64 r58v_N), .s (.string r58v_S), .im true (eJson_k r58v_List_), .im true (eStr_c r58v_Names)]]), (16, .call [true, false, true] [.ag [.jk, .jk, .jk, .jk, .jk], .v (.jk), .ag [.jk, .jk, .jk, .jk, .jk]] [.ag [.s (.int .i64 r59v_Kind), .s (.int .i64 r59v_N), .s (.string r59v_S), .im true (eJson_k r59v_List_), .im true (eStr_c r59v_Names)]])] (by cbv) (by cbv) (by cbv) (by cbv) (by cbv) ?_ ?_
        · exact (hq trivial (hq trivial (hq (get_le h_x54) (hq (get_lt (f := Int_c) h_x54) (hq (get_ge (f := Int_c) h_x54) (hq (hC (spec_l2Digits_ac h_r55)) (hq (sm_t h_u56) (hq trivial (hq trivial (hq (get_le h_x54) (hq (get_lt (f := Int_c) h_x54) (hq (get_ge (f := Int_c) h_x54) (hq (hC (spec_l9Cell_ac h_r57)) (hq (hC (spec_l11Num_ac h_r58)) (hq (hC (spec_l1Put_ac h_r59)) (hq trivial hq0))))))))))))))))
        refine Run.region hL hT [] (by cbv) ?_ ?_
        · exact (hq trivial hq0)
        refine ⟨r59v_Kind, r59v_N, r59v_S, r59v_List_, r59v_Names, (ar .add .i64 z52 1), h, Weak.of _ [(1, 1), (2, 2), (3, 3), (4, 4)] hA (by cbv) ?_⟩
        repeat (first | exact hq0 | refine hq (by first | exact True.intro | rfl) ?_)
      · have h := if_f c53 h
        refine Run.exit ?_
        refine ⟨z47, z48, z49, z50, z51, h, Weak.of _ [(1, 1), (2, 2), (3, 3), (4, 4)] hA (by cbv) ?_⟩
        repeat (first | exact hq0 | refine hq (by first | exact True.intro | rfl) ?_)
  · intro y1 y2 y3 y4 y5 h
    rw [h_K6] at h
    refine Run.seq ?_
    obtain ⟨⟨r60v_Kind, r60v_N, r60v_S, r60v_List_, r60v_Names⟩, h_r60, h⟩ := bnd h
    obtain ⟨⟨r61v_Kind, r61v_N, r61v_S, r61v_List_, r61v_Names⟩, h_r61, h⟩ := bnd h
    refine Run.draw hL hT hM [(3, .call [false] [.v (.jk)] [.ag [.s (.int .i64 r60v_Kind), .s (.int .i64 r60v_N), .s (.string r60v_S), .im true (eJson_k r60v_List_), .im true (eStr_c r60v_Names)]]), (4, .call [true, false, true] [.ag [.jk, .jk, .jk, .jk, .jk], .v (.jk), .ag [.jk, .jk, .jk, .jk, .jk]] [.ag [.s (.int .i64 r61v_Kind), .s (.int .i64 r61v_N), .s (.string r61v_S), .im true (eJson_k r61v_List_), .im true (eStr_c r61v_Names)]])] (by cbv) (by cbv) (by cbv) (by cbv) (by cbv) ?_ ?_
    · exact (hq trivial (hq trivial (hq (hC (spec_l11Num_ac h_r60)) (hq (hC (spec_l1Put_ac h_r61)) (hq trivial hq0)))))
    refine Run.seq ?_
    refine Run.seq ?_
    refine Run.region hL hT [] (by cbv) ?_ ?_
    · exact (hq trivial hq0)
    refine Run.cond (by cbv) (hq0) (fun c62 => ?_) (fun c62 => ?_)
    · have h := if_t c62 h
      obtain ⟨⟨r63v_Kind, r63v_N, r63v_S, r63v_List_, r63v_Names⟩, h_r63, h⟩ := bnd h
      obtain ⟨⟨r64v_Kind, r64v_N, r64v_S, r64v_List_, r64v_Names⟩, h_r64, h⟩ := bnd h
      refine Run.draw hL hT hM [(2, .call [false] [.v (.jk)] [.ag [.s (.int .i64 r63v_Kind), .s (.int .i64 r63v_N), .s (.string r63v_S), .im true (eJson_k r63v_List_), .im true (eStr_c r63v_Names)]]), (3, .call [true, false, true] [.ag [.jk, .jk, .jk, .jk, .jk], .v (.jk), .ag [.jk, .jk, .jk, .jk, .jk]] [.ag [.s (.int .i64 r64v_Kind), .s (.int .i64 r64v_N), .s (.string r64v_S), .im true (eJson_k r64v_List_), .im true (eStr_c r64v_Names)]])] (by cbv) (by cbv) (by cbv) (by cbv) (by cbv) ?_ ?_
      · exact (hq trivial (hq (hC (spec_l11Num_ac h_r63)) (hq (hC (spec_l1Put_ac h_r64)) (hq trivial hq0))))
      refine Run.seq ?_
      refine Run.region hL hT [] (by cbv) ?_ ?_
      · exact (hq trivial (hq trivial hq0))
      refine Run.ret ?_
      cases h
      refine ⟨_, _, by cbv, ?_, ?_⟩
      · exact LLe.r
      · exact (ALe.ag rfl LLe.r ALe.nil)
    · have h := if_f c62 h
      refine Run.skip ?_
      refine Run.seq ?_
      refine Run.region hL hT [] (by cbv) ?_ ?_
      · exact (hq trivial (hq trivial hq0))
      refine Run.ret ?_
      cases h
      refine ⟨_, _, by cbv, ?_, ?_⟩
      · exact LLe.r
      · exact (ALe.ag rfl LLe.r ALe.nil)

set_option maxRecDepth 8000 in
theorem spec_l1Text_ac {a0 : ByteArray} {r : Bool} (h : spec_l1Text.f a0 = some r) : AC Tryd.prog 97 [.v (.s (.string a0))] [.v (.jk)] [.v (.s (.bool r))] := by
  unfold spec_l1Text.f at h
  let ar := Ls.ar; let cm := Ls.cm; let bo := Ls.bo; let sc := Ls.sc; let sa := Ls.sa; let sx := Ls.sx; let ss := Ls.ss; let sl := Ls.sl; let bs := Ls.bs; let sb := Ls.sb; let ln := Ls.ln; let sr := Ls.sr; let ap := Ls.ap; let up := Ls.up; let rp := Ls.rp; let fr := Ls.fr; let ge := Ls.ge; let le := Ls.le; let lt := Ls.lt; let nz := Ls.nz; let mm := Ls.mm; let ma := Ls.ma; let sm := Ls.sm; let fl := Ls.fl; let al := Ls.al; let ci := Ls.ci
  have hL : (⟨ar, cm, bo, sc, sa, sx, ss, sl, bs, sb, ln, sr, ap, up, rp, fr, ge, le, lt, nz, mm, ma, sm, fl, al, ci⟩ : Lf) = Ls := rfl
  show AC Tryd.prog 97 [.v (.s (.string a0))] _ _
  refine AC.of_run2 tab_ok Tryd.func97 (by rfl) (by rfl) (by cbv) ⟨by decide, rfl⟩ fun F hP hA => ?_
  have hT : TabOk F.P tab := hP ▸ tab_ok
  have hM : F.P.follows .mixedOrders = true := hP ▸ mixed
  have hC : ∀ {f a o r}, AC Tryd.prog f a o r → AC F.P f a o r := fun h => hP ▸ h
  refine Run.seq ?_
  refine Run.region hL hT [] (by cbv) ?_ ?_
  · exact hq0
  refine Run.seq ?_
  refine Run.seq ?_
  refine Run.region hL hT [] (by cbv) ?_ ?_
  · exact hq0
  refine Run.block ?_
  refine Run.loop1 (fun (z3 : Int) => ⟨23, 100000, [(0, .t (.s (.string a0))), (3, .t (.s (.int .i64 z3)))], []⟩) (x0 := 0) h (Weak.of _ [] hA (by cbv) ?_) (fun _ => rfl) ?_
  · repeat (first | exact hq0 | refine hq (by first | exact True.intro | rfl) ?_)
  · intro k z3 h
    rw [spec_l1Text.l0] at h
    refine Run.seq ?_
    refine Run.seq ?_
    refine Run.region hL hT [] (by cbv) ?_ ?_
    · exact (hq trivial hq0)
    refine Run.cond (by cbv) (hq0) (fun c4 => ?_) (fun c4 => ?_)
    · have h := if_t c4 h
      refine Run.skip ?_
      refine Run.seq ?_
      refine Run.block ?_
      refine Run.seq ?_
      obtain ⟨u5, h_u5, h⟩ := bnd h
      obtain ⟨u6, h_u6, h⟩ := bnd h
      refine Run.region hL hT [] (by cbv) ?_ ?_
      · exact (hq (inS_0 h_u5) (hq (inS_1 h_u5) (hq trivial (hq (fun _ => hq0) (hq (fun _ => hq0) (hq (fun g9 => (hq g9 (hq g9 (hq (inS_0 (gd_t h_u6 g9)) (hq (inS_1 (gd_t h_u6 g9)) hq0))))) (hq (fun g10 => (hq g10 (hq trivial hq0))) (hq (fun _ => hq0) (hq (fun q12 => (hq (bo_m q12) hq0)) hq0)))))))))
      refine Run.cond (by cbv) (hq0) (fun c13 => ?_) (fun c13 => ?_)
      · have h := if_t c13 h
        refine Run.seq ?_
        refine Run.region hL hT [] (by cbv) ?_ ?_
        · exact hq0
        refine Run.ret ?_
        cases h
        refine ⟨_, _, by cbv, ?_, ?_⟩
        · exact LLe.r
        · exact (ALe.v LLe.r ALe.nil)
      · have h := if_f c13 h
        refine Run.skip ?_
        refine Run.region hL hT [] (by cbv) ?_ ?_
        · exact (hq trivial hq0)
        refine ⟨(ar .add .i64 z3 1), h, Weak.of _ [] hA (by cbv) ?_⟩
        repeat (first | exact hq0 | refine hq (by first | exact True.intro | rfl) ?_)
    · have h := if_f c4 h
      refine Run.exit ?_
      refine Run.seq ?_
      refine Run.region hL hT [] (by cbv) ?_ ?_
      · exact (hq trivial hq0)
      refine Run.ret ?_
      cases h
      refine ⟨_, _, by cbv, ?_, ?_⟩
      · exact LLe.r
      · exact (ALe.v LLe.r ALe.nil)

set_option maxRecDepth 8000 in
theorem spec_l1Names_ac {a0v_Kind : Int} {a0v_N : Int} {a0v_S : ByteArray} {a0v_List_ : List Json} {a0v_Names : List ByteArray} {r : Bool} (h : spec_l1Names.f (Json.mk a0v_Kind a0v_N a0v_S a0v_List_ a0v_Names) = some r) : AC Tryd.prog 98 [.ag [.s (.int .i64 a0v_Kind), .s (.int .i64 a0v_N), .s (.string a0v_S), .im false (rowsOf Json_i a0v_List_), .im false (rowsOf Str_c a0v_Names)]] [.ag [.jk, .jk, .jk, .jk, .jk]] [.v (.s (.bool r))] := by
  unfold spec_l1Names.f at h
  let ar := Ls.ar; let cm := Ls.cm; let bo := Ls.bo; let sc := Ls.sc; let sa := Ls.sa; let sx := Ls.sx; let ss := Ls.ss; let sl := Ls.sl; let bs := Ls.bs; let sb := Ls.sb; let ln := Ls.ln; let sr := Ls.sr; let ap := Ls.ap; let up := Ls.up; let rp := Ls.rp; let fr := Ls.fr; let ge := Ls.ge; let le := Ls.le; let lt := Ls.lt; let nz := Ls.nz; let mm := Ls.mm; let ma := Ls.ma; let sm := Ls.sm; let fl := Ls.fl; let al := Ls.al; let ci := Ls.ci
  let eJson_i := rowsOf Json_i
  let eStr_c := rowsOf Str_c
  let lenI_Json := @lenI Json
  let lenI_Str := @lenI ByteArray
  have hL : (⟨ar, cm, bo, sc, sa, sx, ss, sl, bs, sb, ln, sr, ap, up, rp, fr, ge, le, lt, nz, mm, ma, sm, fl, al, ci⟩ : Lf) = Ls := rfl
  show AC Tryd.prog 98 [.ag [.s (.int .i64 a0v_Kind), .s (.int .i64 a0v_N), .s (.string a0v_S), .im false (eJson_i a0v_List_), .im false (eStr_c a0v_Names)]] _ _
  refine AC.of_run2 tab_ok Tryd.func98 (by rfl) (by rfl) (by cbv) ⟨by decide, rfl⟩ fun F hP hA => ?_
  have hT : TabOk F.P tab := hP ▸ tab_ok
  have hM : F.P.follows .mixedOrders = true := hP ▸ mixed
  have hC : ∀ {f a o r}, AC Tryd.prog f a o r → AC F.P f a o r := fun h => hP ▸ h
  refine Run.seq ?_
  refine Run.region hL hT [] (by cbv) ?_ ?_
  · exact hq0
  refine Run.seq ?_
  refine Run.seq ?_
  refine Run.region hL hT [] (by cbv) ?_ ?_
  · exact (hq trivial (hq trivial hq0))
  refine Run.cond (by cbv) (hq0) (fun c1 => ?_) (fun c1 => ?_)
  · have h := if_t c1 h
    refine Run.seq ?_
    refine Run.region hL hT [] (by cbv) ?_ ?_
    · exact (hq trivial (hq trivial hq0))
    rw [show ln (eStr_c a0v_Names) = lenI_Str a0v_Names from ln_eq Str_c _]
    refine Run.ret ?_
    cases h
    refine ⟨_, _, by cbv, ?_, ?_⟩
    · exact LLe.r
    · exact (ALe.v LLe.r ALe.nil)
  · have h := if_f c1 h
    refine Run.skip ?_
    refine Run.seq ?_
    refine Run.seq ?_
    refine Run.region hL hT [] (by cbv) ?_ ?_
    · exact hq0
    refine Run.block ?_
    refine Run.loop1 (fun (z8 : Int) => ⟨50, 100000, [(1, .pt 1 0 0), (3, .t (.s (.int .i64 z8)))], [(1, .box 34 [.t (.s (.int .i64 a0v_Kind)), .t (.s (.int .i64 a0v_N)), .t (.s (.string a0v_S)), .t (.im false (eJson_i a0v_List_)), .t (.im false (eStr_c a0v_Names))])]⟩) (x0 := 0) h (Weak.of _ [(1, 0)] hA (by cbv) ?_) (fun _ => rfl) ?_
    · repeat (first | exact hq0 | refine hq (by first | exact True.intro | rfl) ?_)
    · intro k z8 h
      rw [spec_l1Names.l0] at h
      refine Run.seq ?_
      refine Run.seq ?_
      refine Run.region hL hT [] (by cbv) ?_ ?_
      · exact (hq trivial (hq trivial hq0))
      rw [show ln (eStr_c a0v_Names) = lenI_Str a0v_Names from ln_eq Str_c _]
      refine Run.cond (by cbv) (hq0) (fun c9 => ?_) (fun c9 => ?_)
      · have h := if_t c9 h
        refine Run.skip ?_
        refine Run.seq ?_
        refine Run.block ?_
        refine Run.seq ?_
        obtain ⟨x10, h_x10, h⟩ := bnd h
        obtain ⟨r11, h_r11, h⟩ := bnd h
        obtain ⟨x12, h_x12, h⟩ := bnd h
        refine Run.draw hL hT hM [(3, .el [.s (.string x10)]), (5, .call [false] [.v (.jk)] [.v (.s (.bool r11))]), (15, .el [.s (.string x12)]), (20, .el [.s (.string x10)])] (by cbv) (by cbv) (by cbv) (by cbv) (by cbv) ?_ ?_
        · exact (hq trivial (hq (get_le h_x10) (hq (get_lt (f := Str_c) h_x10) (hq (get_ge (f := Str_c) h_x10) (hq (hC (spec_l1Text_ac h_r11)) (hq (fun _ => hq0) (hq (fun g14 => (hq g14 (hq trivial hq0))) (hq (fun g15 => (hq g15 hq0)) (hq (fun _ => hq0) (hq (fun g17 => (hq g17 (hq trivial hq0))) (hq (fun _ => hq0) (hq (fun g19 => (hq g19 (hq trivial hq0))) (hq (fun g20 => (hq g20 (hq g20 (hq (get_le (gd_t h_x12 g20)) (hq (get_lt (f := Str_c) (gd_t h_x12 g20)) (hq (get_ge (f := Str_c) (gd_t h_x12 g20)) hq0)))))) (hq (fun g21 => (hq g21 hq0)) (hq (fun _ => hq0) (hq (fun g23 => (hq g23 (hq trivial hq0))) (hq (fun _ => hq0) (hq (fun g25 => (hq g25 (hq g25 (hq (get_le h_x10) (hq (get_lt (f := Str_c) h_x10) (hq (get_ge (f := Str_c) h_x10) hq0)))))) (hq (fun g26 => (hq g26 hq0)) (hq (fun g27 => (hq g27 (hq g27 hq0))) (hq (fun g28 => (hq g28 (hq (fun q29 => (hq (bo_a g28 q29) hq0)) (hq (fun _ => hq0) hq0)))) (hq (fun _ => hq0) (hq (fun q32 => (hq (bo_m q32) hq0)) hq0)))))))))))))))))))))))
        refine Run.cond (by cbv) (hq0) (fun c33 => ?_) (fun c33 => ?_)
        · have h := if_t c33 h
          refine Run.seq ?_
          refine Run.region hL hT [] (by cbv) ?_ ?_
          · exact hq0
          refine Run.ret ?_
          cases h
          refine ⟨_, _, by cbv, ?_, ?_⟩
          · exact LLe.r
          · exact (ALe.v LLe.r ALe.nil)
        · have h := if_f c33 h
          refine Run.skip ?_
          refine Run.region hL hT [] (by cbv) ?_ ?_
          · exact (hq trivial hq0)
          refine ⟨(ar .add .i64 z8 1), h, Weak.of _ [(1, 1)] hA (by cbv) ?_⟩
          repeat (first | exact hq0 | refine hq (by first | exact True.intro | rfl) ?_)
      · have h := if_f c9 h
        refine Run.exit ?_
        refine Run.seq ?_
        refine Run.region hL hT [] (by cbv) ?_ ?_
        · exact (hq trivial (hq trivial (hq trivial hq0)))
        rw [show ln (eJson_i a0v_List_) = lenI_Json a0v_List_ from ln_eq Json_i _]
        rw [show ln (eStr_c a0v_Names) = lenI_Str a0v_Names from ln_eq Str_c _]
        refine Run.ret ?_
        cases h
        refine ⟨_, _, by cbv, ?_, ?_⟩
        · exact LLe.r
        · exact (ALe.v LLe.r ALe.nil)

set_option maxRecDepth 8000 in
theorem spec_l1Great_acs (self : Json → Int → Option Int) (hself : ∀ {a0v_Kind : Int} {a0v_N : Int} {a0v_S : ByteArray} {a0v_List_ : List Json} {a0v_Names : List ByteArray} {a1 : Int} {r : Int} (h : self (Json.mk a0v_Kind a0v_N a0v_S a0v_List_ a0v_Names) a1 = some r), AC Tryd.prog 85 [.ag [.s (.int .i64 a0v_Kind), .s (.int .i64 a0v_N), .s (.string a0v_S), .im false (rowsOf Json_i a0v_List_), .im false (rowsOf Str_c a0v_Names)], .v (.s (.int .i64 a1))] [.ag [.jk, .jk, .jk, .jk, .jk], .v (.jk)] [.v (.s (.int .i64 r))]) {a0v_Kind : Int} {a0v_N : Int} {a0v_S : ByteArray} {a0v_List_ : List Json} {a0v_Names : List ByteArray} {a1 : Int} {r : Int} (h : spec_l1Great.b self (Json.mk a0v_Kind a0v_N a0v_S a0v_List_ a0v_Names) a1 = some r) : AC Tryd.prog 85 [.ag [.s (.int .i64 a0v_Kind), .s (.int .i64 a0v_N), .s (.string a0v_S), .im false (rowsOf Json_i a0v_List_), .im false (rowsOf Str_c a0v_Names)], .v (.s (.int .i64 a1))] [.ag [.jk, .jk, .jk, .jk, .jk], .v (.jk)] [.v (.s (.int .i64 r))] := by
  unfold spec_l1Great.b at h
  let ar := Ls.ar; let cm := Ls.cm; let bo := Ls.bo; let sc := Ls.sc; let sa := Ls.sa; let sx := Ls.sx; let ss := Ls.ss; let sl := Ls.sl; let bs := Ls.bs; let sb := Ls.sb; let ln := Ls.ln; let sr := Ls.sr; let ap := Ls.ap; let up := Ls.up; let rp := Ls.rp; let fr := Ls.fr; let ge := Ls.ge; let le := Ls.le; let lt := Ls.lt; let nz := Ls.nz; let mm := Ls.mm; let ma := Ls.ma; let sm := Ls.sm; let fl := Ls.fl; let al := Ls.al; let ci := Ls.ci
  let eJson_i := rowsOf Json_i
  let eStr_c := rowsOf Str_c
  let lenI_Json := @lenI Json
  have hL : (⟨ar, cm, bo, sc, sa, sx, ss, sl, bs, sb, ln, sr, ap, up, rp, fr, ge, le, lt, nz, mm, ma, sm, fl, al, ci⟩ : Lf) = Ls := rfl
  show AC Tryd.prog 85 [.ag [.s (.int .i64 a0v_Kind), .s (.int .i64 a0v_N), .s (.string a0v_S), .im false (eJson_i a0v_List_), .im false (eStr_c a0v_Names)], .v (.s (.int .i64 a1))] _ _
  refine AC.of_run2 tab_ok Tryd.func85 (by rfl) (by rfl) (by cbv) ⟨by decide, rfl⟩ fun F hP hA => ?_
  have hT : TabOk F.P tab := hP ▸ tab_ok
  have hM : F.P.follows .mixedOrders = true := hP ▸ mixed
  have hC : ∀ {f a o r}, AC Tryd.prog f a o r → AC F.P f a o r := fun h => hP ▸ h
  refine Run.seq ?_
  refine Run.region hL hT [] (by cbv) ?_ ?_
  · exact hq0
  refine Run.seq ?_
  refine Run.region hL hT [] (by cbv) ?_ ?_
  · exact hq0
  refine Run.seq ?_
  refine Run.seq ?_
  refine Run.region hL hT [] (by cbv) ?_ ?_
  · exact (hq trivial hq0)
  refine Run.cond (by cbv) (hq0) (fun c1 => ?_) (fun c1 => ?_)
  · have h := if_t c1 h
    refine Run.seq ?_
    refine Run.region hL hT [] (by cbv) ?_ ?_
    · exact hq0
    refine Run.ret ?_
    cases h
    refine ⟨_, _, by cbv, ?_, ?_⟩
    · exact LLe.r
    · exact (ALe.v LLe.r ALe.nil)
  · have h := if_f c1 h
    refine Run.skip ?_
    refine Run.seq ?_
    refine Run.region hL hT [] (by cbv) ?_ ?_
    · exact hq0
    obtain ⟨K3, h_K3, h⟩ := joinE h
    refine Run.join1 K3 (r := r) (fun (y2 : Int) => ⟨106, 100000, [(2, .pt 1 0 0), (5, .t (.s (.int .i64 401))), (6, .t (.s (.int .i64 y2)))], [(1, .box 34 [.t (.s (.int .i64 a0v_Kind)), .t (.s (.int .i64 a0v_N)), .t (.s (.string a0v_S)), .t (.im false (eJson_i a0v_List_)), .t (.im false (eStr_c a0v_Names))])]⟩) ?_ ?_
    · skip
      refine Run.seq ?_
      refine Run.region hL hT [] (by cbv) ?_ ?_
      · exact (hq trivial hq0)
      refine Run.block ?_
      refine Run.seq ?_
      refine Run.region hL hT [] (by cbv) ?_ ?_
      · exact (hq trivial hq0)
      refine Run.cond (by cbv) (hq0) (fun c4 => ?_) (fun c4 => ?_)
      · have h := if_t c4 h
        refine Run.seq ?_
        refine Run.region hL hT [] (by cbv) ?_ ?_
        · exact (hq trivial (hq trivial hq0))
        refine Run.cond (by cbv) (hq0) (fun c5 => ?_) (fun c5 => ?_)
        · have h := if_t c5 h
          refine Run.seq ?_
          refine Run.region hL hT [] (by cbv) ?_ ?_
          · exact hq0
          refine Run.ret ?_
          cases h
          refine ⟨_, _, by cbv, ?_, ?_⟩
          · exact LLe.r
          · exact (ALe.v LLe.r ALe.nil)
        · have h := if_f c5 h
          refine Run.skip ?_
          refine ⟨1, h, Weak.of _ [(1, 0)] hA (by cbv) ?_⟩
          repeat (first | exact hq0 | refine hq (by first | exact True.intro | rfl) ?_)
      · have h := if_f c4 h
        refine Run.seq ?_
        refine Run.region hL hT [] (by cbv) ?_ ?_
        · exact (hq trivial hq0)
        refine Run.cond (by cbv) (hq0) (fun c6 => ?_) (fun c6 => ?_)
        · have h := if_t c6 h
          refine Run.seq ?_
          obtain ⟨r7, h_r7, h⟩ := bnd h
          refine Run.region hL hT [(2, .call [false, false, false] [.v (.jk), .v (.jk), .v (.jk)] [.v (.s (.bool r7))])] (by cbv) ?_ ?_
          · exact (hq trivial (hq (hC (spec_l1In_ac h_r7)) hq0))
          refine Run.cond (by cbv) (hq0) (fun c8 => ?_) (fun c8 => ?_)
          · have h := if_t c8 h
            refine Run.seq ?_
            refine Run.region hL hT [] (by cbv) ?_ ?_
            · exact hq0
            refine Run.ret ?_
            cases h
            refine ⟨_, _, by cbv, ?_, ?_⟩
            · exact LLe.r
            · exact (ALe.v LLe.r ALe.nil)
          · have h := if_f c8 h
            refine Run.skip ?_
            refine ⟨1, h, Weak.of _ [(1, 0)] hA (by cbv) ?_⟩
            repeat (first | exact hq0 | refine hq (by first | exact True.intro | rfl) ?_)
        · have h := if_f c6 h
          refine Run.seq ?_
          refine Run.region hL hT [] (by cbv) ?_ ?_
          · exact (hq trivial hq0)
          refine Run.cond (by cbv) (hq0) (fun c9 => ?_) (fun c9 => ?_)
          · have h := if_t c9 h
            refine Run.seq ?_
            obtain ⟨r10, h_r10, h⟩ := bnd h
            refine Run.region hL hT [(2, .call [false, false, false] [.v (.jk), .v (.jk), .v (.jk)] [.v (.s (.bool r10))])] (by cbv) ?_ ?_
            · exact (hq trivial (hq (hC (spec_l1In_ac h_r10)) hq0))
            refine Run.cond (by cbv) (hq0) (fun c11 => ?_) (fun c11 => ?_)
            · have h := if_t c11 h
              refine Run.seq ?_
              refine Run.region hL hT [] (by cbv) ?_ ?_
              · exact hq0
              refine Run.ret ?_
              cases h
              refine ⟨_, _, by cbv, ?_, ?_⟩
              · exact LLe.r
              · exact (ALe.v LLe.r ALe.nil)
            · have h := if_f c11 h
              refine Run.skip ?_
              refine ⟨1, h, Weak.of _ [(1, 0)] hA (by cbv) ?_⟩
              repeat (first | exact hq0 | refine hq (by first | exact True.intro | rfl) ?_)
          · have h := if_f c9 h
            refine Run.seq ?_
            refine Run.region hL hT [] (by cbv) ?_ ?_
            · exact (hq trivial hq0)
            refine Run.cond (by cbv) (hq0) (fun c12 => ?_) (fun c12 => ?_)
            · have h := if_t c12 h
              refine Run.seq ?_
              obtain ⟨r13, h_r13, h⟩ := bnd h
              refine Run.region hL hT [(2, .call [false] [.v (.jk)] [.v (.s (.bool r13))])] (by cbv) ?_ ?_
              · exact (hq trivial (hq (hC (spec_l1Text_ac h_r13)) hq0))
              refine Run.cond (by cbv) (hq0) (fun c14 => ?_) (fun c14 => ?_)
              · have h := if_t c14 h
                refine Run.seq ?_
                refine Run.region hL hT [] (by cbv) ?_ ?_
                · exact hq0
                refine Run.ret ?_
                cases h
                refine ⟨_, _, by cbv, ?_, ?_⟩
                · exact LLe.r
                · exact (ALe.v LLe.r ALe.nil)
              · have h := if_f c14 h
                refine Run.skip ?_
                refine ⟨1, h, Weak.of _ [(1, 0)] hA (by cbv) ?_⟩
                repeat (first | exact hq0 | refine hq (by first | exact True.intro | rfl) ?_)
            · have h := if_f c12 h
              obtain ⟨K16, h_K16, h⟩ := joinE h
              refine Run.join1 K16 (r := r) (fun (y15 : Bool) => ⟨106, 100000, [(1, .t (.s (.int .i64 a1))), (2, .pt 1 0 0), (5, .t (.s (.int .i64 401))), (6, .t (.s (.int .i64 1))), (41, .t (.s (.bool y15)))], [(1, .box 34 [.t (.s (.int .i64 a0v_Kind)), .t (.s (.int .i64 a0v_N)), .t (.s (.string a0v_S)), .t (.im false (eJson_i a0v_List_)), .t (.im false (eStr_c a0v_Names))])]⟩) ?_ ?_
              · skip
                refine Run.seq ?_
                refine Run.region hL hT [] (by cbv) ?_ ?_
                · exact (hq trivial hq0)
                refine Run.cond (by cbv) (hq0) (fun c17 => ?_) (fun c17 => ?_)
                · have h := if_t c17 h
                  refine Run.skip ?_
                  refine ⟨(cm .eql a0v_Kind 4), h, Weak.of _ [(1, 0)] hA (by cbv) ?_⟩
                  repeat (first | exact hq0 | refine hq (by first | exact True.intro | rfl) ?_)
                · have h := if_f c17 h
                  refine Run.region hL hT [] (by cbv) ?_ ?_
                  · exact (hq trivial hq0)
                  refine ⟨(cm .eql a0v_Kind 5), h, Weak.of _ [(1, 0)] hA (by cbv) ?_⟩
                  repeat (first | exact hq0 | refine hq (by first | exact True.intro | rfl) ?_)
              · intro y15 h
                rw [h_K16] at h
                refine Run.cond (by cbv) (hq0) (fun c18 => ?_) (fun c18 => ?_)
                · have h := if_t c18 h
                  refine Run.seq ?_
                  refine Run.region hL hT [] (by cbv) ?_ ?_
                  · exact hq0
                  refine Run.block ?_
                  refine Run.loop2 (fun (z28 : Int) (z29 : Int) => ⟨106, 100000, [(1, .t (.s (.int .i64 a1))), (2, .pt 1 0 0), (5, .t (.s (.int .i64 401))), (6, .t (.s (.int .i64 z28))), (7, .t (.s (.int .i64 z29)))], [(1, .box 34 [.t (.s (.int .i64 a0v_Kind)), .t (.s (.int .i64 a0v_N)), .t (.s (.string a0v_S)), .t (.im false (eJson_i a0v_List_)), .t (.im false (eStr_c a0v_Names))])]⟩) (x0 := 1) (x1 := 0) h (Weak.of _ [(1, 1)] hA (by cbv) ?_) (fun _ _ => rfl) ?_
                  · repeat (first | exact hq0 | refine hq (by first | exact True.intro | rfl) ?_)
                  · intro k z28 z29 h
                    rw [spec_l1Great.l0] at h
                    refine Run.seq ?_
                    refine Run.seq ?_
                    refine Run.region hL hT [] (by cbv) ?_ ?_
                    · exact (hq trivial (hq trivial (hq (fun _ => hq0) (hq (fun g31 => (by have g31C := g31; rw [show ln (eJson_i a0v_List_) = lenI_Json a0v_List_ from ln_eq Json_i _] at g31C; exact (hq g31 (hq trivial hq0)))) (hq (fun q32 => (by have q32C := q32; rw [show ln (eJson_i a0v_List_) = lenI_Json a0v_List_ from ln_eq Json_i _] at q32C; exact (hq q32 hq0))) (hq (fun _ => hq0) hq0))))))
                    rw [show ln (eJson_i a0v_List_) = lenI_Json a0v_List_ from ln_eq Json_i _]
                    refine Run.cond (by cbv) (hq0) (fun c34 => ?_) (fun c34 => ?_)
                    · have h := if_t c34 h
                      refine Run.skip ?_
                      refine Run.seq ?_
                      refine Run.block ?_
                      obtain ⟨⟨x35v_Kind, x35v_N, x35v_S, x35v_List_, x35v_Names⟩, h_x35, h⟩ := bnd h
                      obtain ⟨r36, h_r36, h⟩ := bnd h
                      refine Run.region hL hT [(4, .el [.s (.int .i64 x35v_Kind), .s (.int .i64 x35v_N), .s (.string x35v_S), .im false (eJson_i x35v_List_), .im false (eStr_c x35v_Names)]), (8, .call [false, false] [.ag [.jk, .jk, .jk, .jk, .jk], .v (.jk)] [.v (.s (.int .i64 r36))])] (by cbv) ?_ ?_
                      · exact (hq trivial (hq (get_le h_x35) (hq (get_lt (f := Json_i) h_x35) (hq (get_geU Json_i_u h_x35) (hq trivial (hq (hC (hself h_r36)) (hq trivial hq0)))))))
                      refine Run.region hL hT [] (by cbv) ?_ ?_
                      · exact (hq trivial hq0)
                      refine ⟨(ar .add .i64 z28 r36), (ar .add .i64 z29 1), h, Weak.of _ [(1, 1)] hA (by cbv) ?_⟩
                      repeat (first | exact hq0 | refine hq (by first | exact True.intro | rfl) ?_)
                    · have h := if_f c34 h
                      refine Run.exit ?_
                      refine ⟨z28, h, Weak.of _ [(1, 1)] hA (by cbv) ?_⟩
                      repeat (first | exact hq0 | refine hq (by first | exact True.intro | rfl) ?_)
                · have h := if_f c18 h
                  refine Run.seq ?_
                  refine Run.region hL hT [] (by cbv) ?_ ?_
                  · exact hq0
                  refine Run.ret ?_
                  cases h
                  refine ⟨_, _, by cbv, ?_, ?_⟩
                  · exact LLe.r
                  · exact (ALe.v LLe.r ALe.nil)
    · intro y2 h
      rw [h_K3] at h
      refine Run.seq ?_
      refine Run.seq ?_
      obtain ⟨r37, h_r37, h⟩ := bnd h
      refine Run.region hL hT [(36, .call [false] [.ag [.jk, .jk, .jk, .jk, .jk]] [.v (.s (.bool r37))])] (by cbv) ?_ ?_
      · exact (hq trivial (hq trivial (hq (fun _ => hq0) (hq (fun g39 => (hq g39 (hq trivial hq0))) (hq (fun g40 => (hq g40 hq0)) (hq (fun q41 => (hq q41 hq0)) (hq (fun _ => hq0) (hq (fun _ => hq0) (hq (fun g44 => (hq g44 (hq trivial hq0))) (hq (fun g45 => (hq g45 (hq trivial hq0))) (hq (fun g46 => (hq g46 hq0)) (hq (fun _ => hq0) (hq (fun g48 => (hq g48 (hq trivial hq0))) (hq (fun g49 => (hq g49 (hq trivial hq0))) (hq (fun g50 => (hq g50 (hq (fun _ => hq0) (hq (fun q52 => (hq (bo_a g50 (bo_m q52)) hq0)) hq0)))) (hq (fun g53 => (hq g53 hq0)) (hq (fun _ => hq0) (hq (fun g55 => (hq g55 (hq trivial hq0))) (hq (fun g56 => (hq g56 (hq trivial hq0))) (hq (fun g57 => (hq g57 (hq (fun q58 => (hq (bo_a g57 q58) hq0)) (hq (fun _ => hq0) hq0)))) (hq (fun _ => hq0) (hq (fun q61 => (hq (bo_m q61) hq0)) (hq (fun _ => hq0) (hq (fun g63 => (hq g63 (hq trivial hq0))) (hq (fun g64 => (hq g64 (hq trivial hq0))) (hq (fun g65 => (hq g65 hq0)) (hq (fun _ => hq0) (hq (fun g67 => (hq g67 (hq trivial hq0))) (hq (fun g68 => (hq g68 hq0)) (hq (fun g69 => (hq g69 (hq trivial hq0))) (hq (fun g70 => (hq g70 (hq (fun q71 => (hq (bo_a g70 q71) hq0)) (hq (fun _ => hq0) hq0)))) (hq (fun _ => hq0) (hq (fun q74 => (hq (bo_m q74) hq0)) (hq (fun g75 => (by have g75C := g75; rw [show ln (eJson_i a0v_List_) = lenI_Json a0v_List_ from ln_eq Json_i _] at g75C; exact (hq trivial hq0))) (hq (fun g76 => (by have g76C := g76; rw [show ln (eJson_i a0v_List_) = lenI_Json a0v_List_ from ln_eq Json_i _] at g76C; exact (hq g76 (hq (hC (spec_l1Names_ac (gd_t h_r37 g76C))) hq0)))) (hq (fun g77 => (by have g77C := g77; rw [show ln (eJson_i a0v_List_) = lenI_Json a0v_List_ from ln_eq Json_i _] at g77C; exact (hq g77 hq0))) (hq (fun _ => hq0) (hq (fun q79 => (by have q79C := q79; rw [show ln (eJson_i a0v_List_) = lenI_Json a0v_List_ from ln_eq Json_i _] at q79C; exact (hq (bo_m q79) hq0))) hq0))))))))))))))))))))))))))))))))))))))
      rw [show ln (eJson_i a0v_List_) = lenI_Json a0v_List_ from ln_eq Json_i _]
      refine Run.cond (by cbv) (hq0) (fun c80 => ?_) (fun c80 => ?_)
      · have h := if_t c80 h
        refine Run.seq ?_
        refine Run.region hL hT [] (by cbv) ?_ ?_
        · exact hq0
        refine Run.ret ?_
        cases h
        refine ⟨_, _, by cbv, ?_, ?_⟩
        · exact LLe.r
        · exact (ALe.v LLe.r ALe.nil)
      · have h := if_f c80 h
        refine Run.skip ?_
        refine Run.seq ?_
        refine Run.region hL hT [] (by cbv) ?_ ?_
        · exact hq0
        refine Run.ret ?_
        cases h
        refine ⟨_, _, by cbv, ?_, ?_⟩
        · exact LLe.r
        · exact (ALe.v LLe.r ALe.nil)
theorem spec_l1Great_acg : ∀ (k : Nat) {a0v_Kind : Int} {a0v_N : Int} {a0v_S : ByteArray} {a0v_List_ : List Json} {a0v_Names : List ByteArray} {a1 : Int} {r : Int} (h : spec_l1Great.g k (Json.mk a0v_Kind a0v_N a0v_S a0v_List_ a0v_Names) a1 = some r), AC Tryd.prog 85 [.ag [.s (.int .i64 a0v_Kind), .s (.int .i64 a0v_N), .s (.string a0v_S), .im false (rowsOf Json_i a0v_List_), .im false (rowsOf Str_c a0v_Names)], .v (.s (.int .i64 a1))] [.ag [.jk, .jk, .jk, .jk, .jk], .v (.jk)] [.v (.s (.int .i64 r))]
  | 0 => fun h => by cases h
  | k + 1 => fun h => spec_l1Great_acs (spec_l1Great.g k) (spec_l1Great_acg k) h
theorem spec_l1Great_ac {a0v_Kind : Int} {a0v_N : Int} {a0v_S : ByteArray} {a0v_List_ : List Json} {a0v_Names : List ByteArray} {a1 : Int} {r : Int} (h : spec_l1Great.f (Json.mk a0v_Kind a0v_N a0v_S a0v_List_ a0v_Names) a1 = some r) : AC Tryd.prog 85 [.ag [.s (.int .i64 a0v_Kind), .s (.int .i64 a0v_N), .s (.string a0v_S), .im false (rowsOf Json_i a0v_List_), .im false (rowsOf Str_c a0v_Names)], .v (.s (.int .i64 a1))] [.ag [.jk, .jk, .jk, .jk, .jk], .v (.jk)] [.v (.s (.int .i64 r))] := spec_l1Great_acg 20 h

set_option maxRecDepth 8000 in
theorem spec_JsonOk_ac {a0v_Kind : Int} {a0v_N : Int} {a0v_S : ByteArray} {a0v_List_ : List Json} {a0v_Names : List ByteArray} {r : Bool} (h : spec_JsonOk.f (Json.mk a0v_Kind a0v_N a0v_S a0v_List_ a0v_Names) = some r) : AC Tryd.prog 63 [.ag [.s (.int .i64 a0v_Kind), .s (.int .i64 a0v_N), .s (.string a0v_S), .im false (rowsOf Json_i a0v_List_), .im false (rowsOf Str_c a0v_Names)]] [.ag [.jk, .jk, .jk, .jk, .jk]] [.v (.s (.bool r))] := by
  unfold spec_JsonOk.f at h
  let ar := Ls.ar; let cm := Ls.cm; let bo := Ls.bo; let sc := Ls.sc; let sa := Ls.sa; let sx := Ls.sx; let ss := Ls.ss; let sl := Ls.sl; let bs := Ls.bs; let sb := Ls.sb; let ln := Ls.ln; let sr := Ls.sr; let ap := Ls.ap; let up := Ls.up; let rp := Ls.rp; let fr := Ls.fr; let ge := Ls.ge; let le := Ls.le; let lt := Ls.lt; let nz := Ls.nz; let mm := Ls.mm; let ma := Ls.ma; let sm := Ls.sm; let fl := Ls.fl; let al := Ls.al; let ci := Ls.ci
  let eJson_i := rowsOf Json_i
  let eStr_c := rowsOf Str_c
  have hL : (⟨ar, cm, bo, sc, sa, sx, ss, sl, bs, sb, ln, sr, ap, up, rp, fr, ge, le, lt, nz, mm, ma, sm, fl, al, ci⟩ : Lf) = Ls := rfl
  show AC Tryd.prog 63 [.ag [.s (.int .i64 a0v_Kind), .s (.int .i64 a0v_N), .s (.string a0v_S), .im false (eJson_i a0v_List_), .im false (eStr_c a0v_Names)]] _ _
  refine AC.of_run2 tab_ok Tryd.func63 (by rfl) (by rfl) (by cbv) ⟨by decide, rfl⟩ fun F hP hA => ?_
  have hT : TabOk F.P tab := hP ▸ tab_ok
  have hM : F.P.follows .mixedOrders = true := hP ▸ mixed
  have hC : ∀ {f a o r}, AC Tryd.prog f a o r → AC F.P f a o r := fun h => hP ▸ h
  refine Run.seq ?_
  refine Run.region hL hT [] (by cbv) ?_ ?_
  · exact hq0
  refine Run.seq ?_
  obtain ⟨r1, h_r1, h⟩ := bnd h
  refine Run.region hL hT [(1, .call [false, false] [.ag [.jk, .jk, .jk, .jk, .jk], .v (.jk)] [.v (.s (.int .i64 r1))])] (by cbv) ?_ ?_
  · exact (hq trivial (hq (hC (spec_l1Great_ac h_r1)) (hq trivial hq0)))
  refine Run.ret ?_
  cases h
  refine ⟨_, _, by cbv, ?_, ?_⟩
  · exact LLe.r
  · exact (ALe.v LLe.r ALe.nil)

set_option maxRecDepth 8000 in
theorem spec_l11Right__w_ac {a0v_Kind : Int} {a0v_N : Int} {a0v_S : ByteArray} {a0v_List_ : List Json} {a0v_Names : List ByteArray} {r : Json} (h : spec_l11Right__w.f (Json.mk a0v_Kind a0v_N a0v_S a0v_List_ a0v_Names) = some r) : AC Tryd.prog 35 [.ag [.s (.int .i64 a0v_Kind), .s (.int .i64 a0v_N), .s (.string a0v_S), .ow 34 (rowsOf Json_k a0v_List_), .ow 9 (rowsOf Str_c a0v_Names)]] [.ag [.jk, .jk, .jk, .jk, .jk]] [.ag [.s (.int .i64 r.Kind), .s (.int .i64 r.N), .s (.string r.S), .im true (rowsOf Json_k r.List_), .im true (rowsOf Str_c r.Names)]] := by
  unfold spec_l11Right__w.f at h
  let ar := Ls.ar; let cm := Ls.cm; let bo := Ls.bo; let sc := Ls.sc; let sa := Ls.sa; let sx := Ls.sx; let ss := Ls.ss; let sl := Ls.sl; let bs := Ls.bs; let sb := Ls.sb; let ln := Ls.ln; let sr := Ls.sr; let ap := Ls.ap; let up := Ls.up; let rp := Ls.rp; let fr := Ls.fr; let ge := Ls.ge; let le := Ls.le; let lt := Ls.lt; let nz := Ls.nz; let mm := Ls.mm; let ma := Ls.ma; let sm := Ls.sm; let fl := Ls.fl; let al := Ls.al; let ci := Ls.ci
  let eJson_i := rowsOf Json_i
  let eJson_k := rowsOf Json_k
  let eStr_c := rowsOf Str_c
  have hL : (⟨ar, cm, bo, sc, sa, sx, ss, sl, bs, sb, ln, sr, ap, up, rp, fr, ge, le, lt, nz, mm, ma, sm, fl, al, ci⟩ : Lf) = Ls := rfl
  show AC Tryd.prog 35 [.ag [.s (.int .i64 a0v_Kind), .s (.int .i64 a0v_N), .s (.string a0v_S), .ow 34 (eJson_k a0v_List_), .ow 9 (eStr_c a0v_Names)]] _ _
  refine AC.of_run2 tab_ok Tryd.func35 (by rfl) (by rfl) (by cbv) ⟨by decide, rfl⟩ fun F hP hA => ?_
  have hT : TabOk F.P tab := hP ▸ tab_ok
  have hM : F.P.follows .mixedOrders = true := hP ▸ mixed
  have hC : ∀ {f a o r}, AC Tryd.prog f a o r → AC F.P f a o r := fun h => hP ▸ h
  refine Run.seq ?_
  refine Run.region hL hT [] (by cbv) ?_ ?_
  · exact hq0
  refine Run.seq ?_
  refine Run.seq ?_
  obtain ⟨r1, h_r1, h⟩ := bnd h
  refine Run.region hL hT [(1, .call [false] [.ag [.jk, .jk, .jk, .jk, .jk]] [.v (.s (.bool r1))])] (by cbv) ?_ ?_
  · exact (hq trivial (hq (hC (AC.args (spec_JsonOk_ac h_r1) (ALe.ag rfl (LLe.c (LLe.c (LLe.c (LLe.cons (LLe.im (Json_k_fi _)) (LLe.cons (LLe.im (RLe.eq (fr_row Str_c_z _))) LLe.nil))))) ALe.nil))) hq0))
  refine Run.cond (by cbv) (hq0) (fun c2 => ?_) (fun c2 => ?_)
  · have h := if_t c2 h
    refine Run.seq ?_
    refine Run.region hL hT [] (by cbv) ?_ ?_
    · exact (hq trivial hq0)
    refine Run.ret ?_
    cases h
    refine ⟨_, _, by cbv, ?_, ?_⟩
    · exact (LLe.c (LLe.c (LLe.c (LLe.cons LLe.jk (LLe.cons LLe.jk LLe.nil)))))
    · exact (ALe.ag rfl (LLe.c (LLe.c (LLe.c (LLe.cons LLe.nilI (LLe.cons LLe.nilI LLe.nil))))) ALe.nil)
  · have h := if_f c2 h
    refine Run.skip ?_
    refine Run.seq ?_
    refine Run.region hL hT [] (by cbv) ?_ ?_
    · exact (hq trivial (hq trivial hq0))
    refine Run.weak ?_ (Weak.keepL (rows := eJson_k a0v_List_) 0 (by cbv) (eJson_k a0v_List_) (Json_k_kv _))
    refine Run.weak ?_ (Weak.keep (rows := eStr_c a0v_Names) 1 (by cbv) (eStr_c a0v_Names) (fr_row Str_c_z _))
    refine Run.ret ?_
    cases h
    refine ⟨_, _, by cbv, ?_, ?_⟩
    · exact LLe.r
    · exact (ALe.ag rfl LLe.r ALe.nil)

set_option maxRecDepth 8000 in
theorem spec_DocOf_ac {a0v_Table : Int} {a0v_Where : List Cond} {a0v_Order : Int} {a0v_Down : Bool} {a0v_First : Int} {a0v_Show : List Int} {a0v_Kids : Bool} {a0v_KidTable : Int} {a0v_KidCol : Int} {a1 : List Row} {a2 : List Int} {r : Json} (h : spec_DocOf.f (Query.mk a0v_Table a0v_Where a0v_Order a0v_Down a0v_First a0v_Show a0v_Kids a0v_KidTable a0v_KidCol) a1 a2 = some r) : AC Tryd.prog 9 [.ag [.s (.int .i64 a0v_Table), .im false (rowsOf Cond_c a0v_Where), .s (.int .i64 a0v_Order), .s (.bool a0v_Down), .s (.int .i64 a0v_First), .im false (rowsOf Int_c a0v_Show), .s (.bool a0v_Kids), .s (.int .i64 a0v_KidTable), .s (.int .i64 a0v_KidCol)], .v (.im false (rowsOf Row_i a1)), .v (.im false (rowsOf Int_c a2))] [.ag [.jk, .jk, .jk, .jk, .jk, .jk, .jk, .jk, .jk], .v (.jk), .v (.jk)] [.ag [.s (.int .i64 r.Kind), .s (.int .i64 r.N), .s (.string r.S), .im true (rowsOf Json_k r.List_), .im true (rowsOf Str_c r.Names)]] := by
  unfold spec_DocOf.f at h
  let ar := Ls.ar; let cm := Ls.cm; let bo := Ls.bo; let sc := Ls.sc; let sa := Ls.sa; let sx := Ls.sx; let ss := Ls.ss; let sl := Ls.sl; let bs := Ls.bs; let sb := Ls.sb; let ln := Ls.ln; let sr := Ls.sr; let ap := Ls.ap; let up := Ls.up; let rp := Ls.rp; let fr := Ls.fr; let ge := Ls.ge; let le := Ls.le; let lt := Ls.lt; let nz := Ls.nz; let mm := Ls.mm; let ma := Ls.ma; let sm := Ls.sm; let fl := Ls.fl; let al := Ls.al; let ci := Ls.ci
  let eCond_c := rowsOf Cond_c
  let eInt_c := rowsOf Int_c
  let eJson_k := rowsOf Json_k
  let eJson_o := rowsOf Json_o
  let eRow_i := rowsOf Row_i
  let eStr_c := rowsOf Str_c
  let lenI_Int := @lenI Int
  let lenI_Row := @lenI Row
  have hL : (⟨ar, cm, bo, sc, sa, sx, ss, sl, bs, sb, ln, sr, ap, up, rp, fr, ge, le, lt, nz, mm, ma, sm, fl, al, ci⟩ : Lf) = Ls := rfl
  show AC Tryd.prog 9 [.ag [.s (.int .i64 a0v_Table), .im false (eCond_c a0v_Where), .s (.int .i64 a0v_Order), .s (.bool a0v_Down), .s (.int .i64 a0v_First), .im false (eInt_c a0v_Show), .s (.bool a0v_Kids), .s (.int .i64 a0v_KidTable), .s (.int .i64 a0v_KidCol)], .v (.im false (eRow_i a1)), .v (.im false (eInt_c a2))] _ _
  refine AC.of_run2 tab_ok Tryd.func9 (by rfl) (by rfl) (by cbv) ⟨by decide, rfl⟩ fun F hP hA => ?_
  have hT : TabOk F.P tab := hP ▸ tab_ok
  have hM : F.P.follows .mixedOrders = true := hP ▸ mixed
  have hC : ∀ {f a o r}, AC Tryd.prog f a o r → AC F.P f a o r := fun h => hP ▸ h
  refine Run.seq ?_
  refine Run.region hL hT [] (by cbv) ?_ ?_
  · exact hq0
  refine Run.seq ?_
  refine Run.region hL hT [] (by cbv) ?_ ?_
  · exact (hq trivial hq0)
  obtain ⟨K2, h_K2, h⟩ := joinE h
  refine Run.join1 K2 (r := r) (fun (y1 : List Json) => ⟨47, 100000, [(1, .t (.im false (eRow_i a1))), (6, .pt 1 0 0), (7, .pt 2 0 0)], [(1, .box 34 [.t (.s (.int .i64 0)), .t (.s (.int .i64 0)), .t (.s (.string ByteArray.empty)), .t (.s (.slice none 0 0)), .t (.s (.slice none 0 0))]), (2, .box 34 [.t (.s (.int .i64 4)), .t (.s (.int .i64 0)), .t (.s (.string ByteArray.empty)), .rf 3, .t (.s (.slice none 0 0))]), (3, .row 0 34 5 (eJson_k y1))]⟩) ?_ ?_
  · skip
    refine Run.seq ?_
    refine Run.region hL hT [] (by cbv) ?_ ?_
    · exact hq0
    refine Run.block ?_
    refine Run.loop2 (fun (z40 : List Json) (z41 : Int) => ⟨47, 100000, [(1, .t (.im false (eRow_i a1))), (2, .t (.im false (eInt_c a2))), (3, .pt 1 0 0), (6, .pt 2 0 0), (7, .pt 3 0 0), (8, .t (.s (.int .i64 z41)))], [(1, .box 27 [.t (.s (.int .i64 a0v_Table)), .t (.im false (eCond_c a0v_Where)), .t (.s (.int .i64 a0v_Order)), .t (.s (.bool a0v_Down)), .t (.s (.int .i64 a0v_First)), .t (.im false (eInt_c a0v_Show)), .t (.s (.bool a0v_Kids)), .t (.s (.int .i64 a0v_KidTable)), .t (.s (.int .i64 a0v_KidCol))]), (2, .box 34 [.t (.s (.int .i64 0)), .t (.s (.int .i64 0)), .t (.s (.string ByteArray.empty)), .t (.s (.slice none 0 0)), .t (.s (.slice none 0 0))]), (3, .box 34 [.t (.s (.int .i64 4)), .t (.s (.int .i64 0)), .t (.s (.string ByteArray.empty)), .rf 4, .t (.s (.slice none 0 0))]), (4, .row 0 34 5 (eJson_k z40))]⟩) (x0 := []) (x1 := 0) h ((Weak.nilB (l := [.t (.s (.int .i64 4)), .t (.s (.int .i64 0)), .t (.s (.string ByteArray.empty))]) hT 4097 3 13288 34 rfl (by cbv) (by cbv) (by cbv)).trans (Weak.of _ [(1, 0), (2, 1), (3, 4097), (4, 13288)] hA (by cbv) ?_)) (fun _ _ => rfl) ?_
    · repeat (first | exact hq0 | refine hq (by first | exact True.intro | rfl) ?_)
    · intro k z40 z41 h
      rw [spec_DocOf.l0] at h
      refine Run.seq ?_
      refine Run.seq ?_
      obtain ⟨r42, h_r42, h⟩ := bnd h
      refine Run.region hL hT [(4, .call [false, false] [.ag [.jk, .jk, .jk, .jk, .jk, .jk, .jk, .jk, .jk], .v (.jk)] [.v (.s (.int .i64 r42))])] (by cbv) ?_ ?_
      · exact (hq trivial (hq (by rw [show ln (eRow_i a1) = lenI_Row a1 from ln_eq Row_i _]; exact (hC (spec_l11First_ac h_r42))) (hq trivial hq0)))
      rw [show ln (eRow_i a1) = lenI_Row a1 from ln_eq Row_i _]
      refine Run.cond (by cbv) (hq0) (fun c43 => ?_) (fun c43 => ?_)
      · have h := if_t c43 h
        refine Run.skip ?_
        refine Run.seq ?_
        refine Run.block ?_
        refine Run.seq ?_
        refine Run.region hL hT [] (by cbv) ?_ ?_
        · exact hq0
        obtain ⟨K45, h_K45, h⟩ := joinE h
        refine Run.join1 K45 (r := r) (fun (y44 : Int) => ⟨47, 100000, [(1, .t (.im false (eRow_i a1))), (2, .t (.im false (eInt_c a2))), (3, .pt 1 0 0), (6, .pt 2 0 0), (7, .pt 3 0 0), (8, .t (.s (.int .i64 z41))), (9, .t (.s (.int .i64 y44)))], [(1, .box 27 [.t (.s (.int .i64 a0v_Table)), .t (.im false (eCond_c a0v_Where)), .t (.s (.int .i64 a0v_Order)), .t (.s (.bool a0v_Down)), .t (.s (.int .i64 a0v_First)), .t (.im false (eInt_c a0v_Show)), .t (.s (.bool a0v_Kids)), .t (.s (.int .i64 a0v_KidTable)), .t (.s (.int .i64 a0v_KidCol))]), (2, .box 34 [.t (.s (.int .i64 0)), .t (.s (.int .i64 0)), .t (.s (.string ByteArray.empty)), .t (.s (.slice none 0 0)), .t (.s (.slice none 0 0))]), (3, .box 34 [.t (.s (.int .i64 4)), .t (.s (.int .i64 0)), .t (.s (.string ByteArray.empty)), .rf 4, .t (.s (.slice none 0 0))]), (4, .row 0 34 5 (eJson_k z40))]⟩) ?_ ?_
        · skip
          refine Run.seq ?_
          refine Run.region hL hT [] (by cbv) ?_ ?_
          · exact (hq trivial hq0)
          rw [show ln (eInt_c a2) = lenI_Int a2 from ln_eq Int_c _]
          refine Run.cond (by cbv) (hq0) (fun c46 => ?_) (fun c46 => ?_)
          · have h := if_t c46 h
            obtain ⟨x47, h_x47, h⟩ := bnd h
            refine Run.region hL hT [(2, .el [.s (.int .i64 x47)])] (by cbv) ?_ ?_
            · exact (hq (get_le h_x47) (hq (get_lt (f := Int_c) h_x47) (hq (get_ge (f := Int_c) h_x47) hq0)))
            refine ⟨x47, h, Weak.of _ [(1, 1), (2, 2), (3, 3), (4, 4)] hA (by cbv) ?_⟩
            repeat (first | exact hq0 | refine hq (by first | exact True.intro | rfl) ?_)
          · have h := if_f c46 h
            refine Run.skip ?_
            refine ⟨0, h, Weak.of _ [(1, 1), (2, 2), (3, 3), (4, 4)] hA (by cbv) ?_⟩
            repeat (first | exact hq0 | refine hq (by first | exact True.intro | rfl) ?_)
        · intro y44 h
          rw [h_K45] at h
          obtain ⟨⟨x48v_Id, x48v_Cells⟩, h_x48, h⟩ := bnd h
          obtain ⟨⟨r49v_Kind, r49v_N, r49v_S, r49v_List_, r49v_Names⟩, h_r49, h⟩ := bnd h
          obtain ⟨l50, h_l50, h⟩ := bnd h
          obtain ⟨l51, h_l51, h⟩ := bnd h
          refine Run.draw hL hT hM [(5, .el [.s (.int .i64 x48v_Id), .im false (eInt_c x48v_Cells)]), (8, .call [false, false, false] [.ag [.jk, .jk, .jk, .jk, .jk, .jk, .jk, .jk, .jk], .ag [.jk, .jk], .v (.jk)] [.ag [.s (.int .i64 r49v_Kind), .s (.int .i64 r49v_N), .s (.string r49v_S), .im true (eJson_k r49v_List_), .im true (eStr_c r49v_Names)]])] (by cbv) (by cbv) (by cbv) (by cbv) (by cbv) ?_ ?_
          · exact (hq trivial (hq trivial (hq (get_le h_x48) (hq (get_lt (f := Row_i) h_x48) (hq (get_ge (f := Row_i) h_x48) (hq (hC (spec_l11Row_ac h_r49)) (hq (app_mb (P := Tryd.prog) (f := Json_k) RLe.r (some_leU Json_k_u h_l50 (RLe.cons rfl LLe.r RLe.nil)) h_l51) (hq trivial hq0))))))))
          refine Run.row (rows := (ap (eJson_k z40) ([[.s (.int .i64 r49v_Kind), .s (.int .i64 r49v_N), .s (.string r49v_S), .im true (eJson_k r49v_List_), .im true (eStr_c r49v_Names)]]))) 100010 (eJson_k l51) (by cbv) (app_le (f := Json_k) RLe.r (some_leU Json_k_u h_l50 (RLe.cons rfl LLe.r RLe.nil)) h_l51) ?_
          refine Run.region hL hT [] (by cbv) ?_ ?_
          · exact (hq trivial hq0)
          refine ⟨l51, (ar .add .i64 z41 1), h, Weak.of _ [(1, 1), (2, 2), (3, 3), (4, 100010)] hA (by cbv) ?_⟩
          repeat (first | exact hq0 | refine hq (by first | exact True.intro | rfl) ?_)
      · have h := if_f c43 h
        refine Run.exit ?_
        refine ⟨z40, h, Weak.of _ [(1, 2), (2, 3), (3, 4)] hA (by cbv) ?_⟩
        repeat (first | exact hq0 | refine hq (by first | exact True.intro | rfl) ?_)
  · intro y1 h
    rw [h_K2] at h
    refine Run.seq ?_
    refine Run.weak ?_ (Weak.keepL (rows := eJson_k y1) 3 (by cbv) (eJson_k y1) (Json_k_kv _))
    obtain ⟨l52, h_l52, h⟩ := bnd h
    obtain ⟨⟨r53v_Kind, r53v_N, r53v_S, r53v_List_, r53v_Names⟩, h_r53, h⟩ := bnd h
    obtain ⟨l54, h_l54, h⟩ := bnd h
    obtain ⟨⟨r55v_Kind, r55v_N, r55v_S, r55v_List_, r55v_Names⟩, h_r55, h⟩ := bnd h
    refine Run.draw hL hT hM [(3, .call [false] [.v (.jk)] [.ag [.s (.int .i64 r53v_Kind), .s (.int .i64 r53v_N), .s (.string r53v_S), .im true (eJson_k r53v_List_), .im true (eStr_c r53v_Names)]]), (7, .call [true] [.ag [.jk, .jk, .jk, .jk, .jk]] [.ag [.s (.int .i64 r55v_Kind), .s (.int .i64 r55v_N), .s (.string r55v_S), .im true (eJson_k r55v_List_), .im true (eStr_c r55v_Names)]])] (by cbv) (by cbv) (by cbv) (by cbv) (by cbv) ?_ ?_
    · exact (hq (by rw [show ln (eRow_i a1) = lenI_Row a1 from ln_eq Row_i _]; exact (hC (spec_l11Num_ac h_r53))) (hq trivial (hq (hC (AC.args (spec_l11Right__w_ac h_r55) (ALe.ag rfl (LLe.c (LLe.c (LLe.c (LLe.cons (LLe.ow (some_leU Json_k_u h_l54 (RLe.cons rfl LLe.r (RLe.cons rfl (LLe.c (LLe.c (LLe.c (LLe.c (LLe.cons LLe.nilI LLe.nil))))) RLe.nil)))) (LLe.cons (LLe.ow (some_le (f := Str_c) h_l52 (RLe.cons rfl LLe.r (RLe.cons rfl LLe.r RLe.nil)))) LLe.nil))))) ALe.nil))) (hq trivial hq0))))
    rw [show ln (eRow_i a1) = lenI_Row a1 from ln_eq Row_i _]
    refine Run.ret ?_
    cases h
    refine ⟨_, _, by cbv, ?_, ?_⟩
    · exact LLe.r
    · exact (ALe.ag rfl LLe.r ALe.nil)

set_option maxRecDepth 8000 in
theorem laws_FnDoc_ac {a0 : List Int} {r : Bool} (h : laws_FnDoc.f a0 = some r) : AC Tryd.prog 3 [.v (.im true (rowsOf u8_c a0))] [.v (.jk)] [.v (.s (.bool r))] := by
  unfold laws_FnDoc.f at h
  let ar := Ls.ar; let cm := Ls.cm; let bo := Ls.bo; let sc := Ls.sc; let sa := Ls.sa; let sx := Ls.sx; let ss := Ls.ss; let sl := Ls.sl; let bs := Ls.bs; let sb := Ls.sb; let ln := Ls.ln; let sr := Ls.sr; let ap := Ls.ap; let up := Ls.up; let rp := Ls.rp; let fr := Ls.fr; let ge := Ls.ge; let le := Ls.le; let lt := Ls.lt; let nz := Ls.nz; let mm := Ls.mm; let ma := Ls.ma; let sm := Ls.sm; let fl := Ls.fl; let al := Ls.al; let ci := Ls.ci
  let eCond_c := rowsOf Cond_c
  let eInt_c := rowsOf Int_c
  let eJson_i := rowsOf Json_i
  let eJson_k := rowsOf Json_k
  let eJson_o := rowsOf Json_o
  let eRow_o := rowsOf Row_o
  let eStr_c := rowsOf Str_c
  let eu8_c := rowsOf u8_c
  let lenI_Int := @lenI Int
  let lenI_Json := @lenI Json
  let lenI_Row := @lenI Row
  have hL : (⟨ar, cm, bo, sc, sa, sx, ss, sl, bs, sb, ln, sr, ap, up, rp, fr, ge, le, lt, nz, mm, ma, sm, fl, al, ci⟩ : Lf) = Ls := rfl
  show AC Tryd.prog 3 [.v (.im true (eu8_c a0))] _ _
  refine AC.of_run2 tab_ok Tryd.func3 (by rfl) (by rfl) (by cbv) ⟨by decide, rfl⟩ fun F hP hA => ?_
  have hT : TabOk F.P tab := hP ▸ tab_ok
  have hM : F.P.follows .mixedOrders = true := hP ▸ mixed
  have hC : ∀ {f a o r}, AC Tryd.prog f a o r → AC F.P f a o r := fun h => hP ▸ h
  refine Run.seq ?_
  refine Run.region hL hT [] (by cbv) ?_ ?_
  · exact hq0
  refine Run.seq ?_
  refine Run.seq ?_
  obtain ⟨r1, h_r1, h⟩ := bnd h
  refine Run.region hL hT [(1, .call [false] [.v (.jk)] [.v (.s (.bool r1))])] (by cbv) ?_ ?_
  · exact (hq (hC (laws_big_ac h_r1)) hq0)
  refine Run.cond (by cbv) (hq0) (fun c2 => ?_) (fun c2 => ?_)
  · have h := if_t c2 h
    refine Run.seq ?_
    refine Run.region hL hT [] (by cbv) ?_ ?_
    · exact hq0
    refine Run.ret ?_
    cases h
    refine ⟨_, _, by cbv, ?_, ?_⟩
    · exact LLe.r
    · exact (ALe.v LLe.r ALe.nil)
  · have h := if_f c2 h
    refine Run.skip ?_
    refine Run.seq ?_
    obtain ⟨⟨⟨r3v_1v_Table, r3v_1v_Where, r3v_1v_Order, r3v_1v_Down, r3v_1v_First, r3v_1v_Show, r3v_1v_Kids, r3v_1v_KidTable, r3v_1v_KidCol⟩, r3v_2v_1, r3v_2v_2⟩, h_r3, h⟩ := bnd h
    refine Run.region hL hT [(1, .call [true] [.v (.jk)] [.ag [.s (.int .i64 r3v_1v_Table), .ow 83 (eCond_c r3v_1v_Where), .s (.int .i64 r3v_1v_Order), .s (.bool r3v_1v_Down), .s (.int .i64 r3v_1v_First), .ow 3 (eInt_c r3v_1v_Show), .s (.bool r3v_1v_Kids), .s (.int .i64 r3v_1v_KidTable), .s (.int .i64 r3v_1v_KidCol)], .v (.ow 41 (eRow_o r3v_2v_1)), .v (.ow 3 (eInt_c r3v_2v_2))])] (by cbv) ?_ ?_
    · exact (hq (hC (spec_DrawDocOf_ac h_r3)) (hq trivial hq0))
    refine Run.seq ?_
    obtain ⟨⟨r4v_Kind, r4v_N, r4v_S, r4v_List_, r4v_Names⟩, h_r4, h⟩ := bnd h
    refine Run.region hL hT [(3, .call [false, false, false] [.ag [.jk, .jk, .jk, .jk, .jk, .jk, .jk, .jk, .jk], .v (.jk), .v (.jk)] [.ag [.s (.int .i64 r4v_Kind), .s (.int .i64 r4v_N), .s (.string r4v_S), .ow 34 (eJson_o r4v_List_), .ow 9 (eStr_c r4v_Names)]])] (by cbv) ?_ ?_
    · exact (hq trivial (hq (hC (AC.args (impl_DocOf_ac h_r4) (ALe.ag rfl (LLe.c (LLe.cons (LLe.im (RLe.eq (fr_row Cond_c_z _))) (LLe.c (LLe.c (LLe.c (LLe.cons (LLe.im (RLe.eq (fr_row Int_c_z _))) (LLe.c (LLe.c (LLe.c LLe.nil))))))))) (ALe.v (LLe.im (RLe.eq (fr_row Row_o_z _))) (ALe.v (LLe.im (RLe.eq (fr_row Int_c_z _))) ALe.nil))))) (hq trivial hq0)))
    refine Run.seq ?_
    refine Run.seq ?_
    obtain ⟨⟨r5v_Kind, r5v_N, r5v_S, r5v_List_, r5v_Names⟩, h_r5, h⟩ := bnd h
    obtain ⟨r6, h_r6, h⟩ := bnd h
    refine Run.draw hL hT hM [(4, .call [false, false, false] [.ag [.jk, .jk, .jk, .jk, .jk, .jk, .jk, .jk, .jk], .v (.jk), .v (.jk)] [.ag [.s (.int .i64 r5v_Kind), .s (.int .i64 r5v_N), .s (.string r5v_S), .im true (eJson_k r5v_List_), .im true (eStr_c r5v_Names)]]), (5, .call [false, false] [.ag [.jk, .jk, .jk, .jk, .jk], .ag [.jk, .jk, .jk, .jk, .jk]] [.v (.s (.bool r6))])] (by cbv) (by cbv) (by cbv) (by cbv) (by cbv) ?_ ?_
    · exact (hq trivial (hq trivial (hq (hC (AC.args (spec_DocOf_ac h_r5) (ALe.ag rfl (LLe.c (LLe.cons (LLe.im (RLe.eq (fr_row Cond_c_z _))) (LLe.c (LLe.c (LLe.c (LLe.cons (LLe.im (RLe.eq (fr_row Int_c_z _))) (LLe.c (LLe.c (LLe.c LLe.nil))))))))) (ALe.v (LLe.im (RLe.eq (fr_row Row_o_z _))) (ALe.v (LLe.im (RLe.eq (fr_row Int_c_z _))) ALe.nil))))) (hq (hC (AC.args (laws_sameJson_ac h_r6) (ALe.ag rfl (LLe.c (LLe.c (LLe.c (LLe.cons (LLe.im (RLe.eq (fr_row Json_o_z _))) (LLe.cons (LLe.im (RLe.eq (fr_row Str_c_z _))) LLe.nil))))) (ALe.ag rfl (LLe.c (LLe.c (LLe.c (LLe.cons (LLe.im (Json_k_le _)) (LLe.c LLe.nil))))) ALe.nil)))) hq0))))
    refine Run.cond (by cbv) (hq0) (fun c7 => ?_) (fun c7 => ?_)
    · have h := if_t c7 h
      refine Run.seq ?_
      refine Run.region hL hT [] (by cbv) ?_ ?_
      · exact hq0
      refine Run.ret ?_
      cases h
      refine ⟨_, _, by cbv, ?_, ?_⟩
      · exact LLe.r
      · exact (ALe.v LLe.r ALe.nil)
    · have h := if_f c7 h
      refine Run.skip ?_
      refine Run.seq ?_
      refine Run.seq ?_
      refine Run.region hL hT [] (by cbv) ?_ ?_
      · exact (hq trivial (hq trivial hq0))
      refine Run.cond (by cbv) (hq0) (fun c8 => ?_) (fun c8 => ?_)
      · have h := if_t c8 h
        refine Run.seq ?_
        refine Run.region hL hT [] (by cbv) ?_ ?_
        · exact hq0
        refine Run.ret ?_
        cases h
        refine ⟨_, _, by cbv, ?_, ?_⟩
        · exact LLe.r
        · exact (ALe.v LLe.r ALe.nil)
      · have h := if_f c8 h
        refine Run.skip ?_
        refine Run.seq ?_
        obtain ⟨⟨⟨r9v_1v_Kind, r9v_1v_N, r9v_1v_S, r9v_1v_List_, r9v_1v_Names⟩, r9v_2⟩, h_r9, h⟩ := bnd h
        refine Run.region hL hT [(1, .call [false, false] [.ag [.jk, .jk, .jk, .jk, .jk], .v (.jk)] [.ag [.s (.int .i64 r9v_1v_Kind), .s (.int .i64 r9v_1v_N), .s (.string r9v_1v_S), .ow 34 (eJson_o r9v_1v_List_), .ow 9 (eStr_c r9v_1v_Names)], .v (.s (.bool r9v_2))])] (by cbv) ?_ ?_
        · exact (hq trivial (hq (hC (AC.args (impl_Field_ac h_r9) (ALe.ag rfl (LLe.c (LLe.c (LLe.c (LLe.cons (LLe.im (RLe.eq (fr_row Json_o_z _))) (LLe.cons (LLe.im (RLe.eq (fr_row Str_c_z _))) LLe.nil))))) (ALe.v LLe.r ALe.nil)))) (hq trivial hq0)))
        refine Run.seq ?_
        refine Run.seq ?_
        refine Run.region hL hT [] (by cbv) ?_ ?_
        · exact hq0
        refine Run.block ?_
        refine Run.loop1 (fun (z28 : Int) => ⟨76, 100000, [(3, .pt 1 0 0), (4, .rf 4), (5, .rf 5), (7, .pt 6 0 0), (8, .t (.s (.bool r9v_2))), (9, .t (.s (.int .i64 z28)))], [(1, .box 27 [.t (.s (.int .i64 r3v_1v_Table)), .rf 2, .t (.s (.int .i64 r3v_1v_Order)), .t (.s (.bool r3v_1v_Down)), .t (.s (.int .i64 r3v_1v_First)), .rf 3, .t (.s (.bool r3v_1v_Kids)), .t (.s (.int .i64 r3v_1v_KidTable)), .t (.s (.int .i64 r3v_1v_KidCol))]), (2, .row 0 83 3 (eCond_c r3v_1v_Where)), (3, .row 0 3 1 (eInt_c r3v_1v_Show)), (4, .row 0 41 2 (eRow_o r3v_2v_1)), (5, .row 0 3 1 (eInt_c r3v_2v_2)), (6, .box 34 [.t (.s (.int .i64 r9v_1v_Kind)), .t (.s (.int .i64 r9v_1v_N)), .t (.s (.string r9v_1v_S)), .rf 7, .rf 8]), (7, .row 0 34 5 (eJson_o r9v_1v_List_)), (8, .row 0 9 1 (eStr_c r9v_1v_Names))]⟩) (x0 := 0) h (Weak.of _ [(1, 8198), (2, 8193), (3, 8449), (4, 8705), (5, 8961), (6, 24581), (7, 24577), (8, 24833)] hA (by cbv) ?_) (fun _ => rfl) ?_
        · repeat (first | exact hq0 | refine hq (by first | exact True.intro | rfl) ?_)
        · intro k z28 h
          rw [laws_FnDoc.l0] at h
          refine Run.seq ?_
          refine Run.seq ?_
          refine Run.region hL hT [] (by cbv) ?_ ?_
          · exact (hq trivial (hq trivial hq0))
          rw [show ln (eJson_o r9v_1v_List_) = lenI_Json r9v_1v_List_ from ln_eq Json_o _]
          refine Run.cond (by cbv) (hq0) (fun c29 => ?_) (fun c29 => ?_)
          · have h := if_t c29 h
            refine Run.skip ?_
            refine Run.seq ?_
            refine Run.block ?_
            refine Run.seq ?_
            refine Run.region hL hT [] (by cbv) ?_ ?_
            · exact hq0
            obtain ⟨K31, h_K31, h⟩ := joinE h
            refine Run.join1 K31 (r := r) (fun (y30 : Int) => ⟨76, 100000, [(3, .pt 1 0 0), (4, .rf 4), (5, .rf 5), (7, .pt 6 0 0), (8, .t (.s (.bool r9v_2))), (9, .t (.s (.int .i64 z28))), (10, .t (.s (.int .i64 y30)))], [(1, .box 27 [.t (.s (.int .i64 r3v_1v_Table)), .rf 2, .t (.s (.int .i64 r3v_1v_Order)), .t (.s (.bool r3v_1v_Down)), .t (.s (.int .i64 r3v_1v_First)), .rf 3, .t (.s (.bool r3v_1v_Kids)), .t (.s (.int .i64 r3v_1v_KidTable)), .t (.s (.int .i64 r3v_1v_KidCol))]), (2, .row 0 83 3 (eCond_c r3v_1v_Where)), (3, .row 0 3 1 (eInt_c r3v_1v_Show)), (4, .row 0 41 2 (eRow_o r3v_2v_1)), (5, .row 0 3 1 (eInt_c r3v_2v_2)), (6, .box 34 [.t (.s (.int .i64 r9v_1v_Kind)), .t (.s (.int .i64 r9v_1v_N)), .t (.s (.string r9v_1v_S)), .rf 7, .rf 8]), (7, .row 0 34 5 (eJson_o r9v_1v_List_)), (8, .row 0 9 1 (eStr_c r9v_1v_Names))]⟩) ?_ ?_
            · skip
              refine Run.seq ?_
              refine Run.region hL hT [] (by cbv) ?_ ?_
              · exact (hq trivial hq0)
              rw [show ln (eInt_c r3v_2v_2) = lenI_Int r3v_2v_2 from ln_eq Int_c _]
              refine Run.cond (by cbv) (hq0) (fun c32 => ?_) (fun c32 => ?_)
              · have h := if_t c32 h
                obtain ⟨x33, h_x33, h⟩ := bnd h
                refine Run.region hL hT [(3, .el [.s (.int .i64 x33)])] (by cbv) ?_ ?_
                · exact (hq (get_le h_x33) (hq (get_lt (f := Int_c) h_x33) (hq (get_le h_x33) (hq (get_lt (f := Int_c) h_x33) (hq (get_ge (f := Int_c) h_x33) hq0)))))
                refine ⟨x33, h, Weak.of _ [(1, 1), (2, 2), (3, 3), (4, 4), (5, 5), (6, 6), (7, 7), (8, 8)] hA (by cbv) ?_⟩
                repeat (first | exact hq0 | refine hq (by first | exact True.intro | rfl) ?_)
              · have h := if_f c32 h
                refine Run.skip ?_
                refine ⟨0, h, Weak.of _ [(1, 1), (2, 2), (3, 3), (4, 4), (5, 5), (6, 6), (7, 7), (8, 8)] hA (by cbv) ?_⟩
                repeat (first | exact hq0 | refine hq (by first | exact True.intro | rfl) ?_)
            · intro y30 h
              rw [h_K31] at h
              refine Run.seq ?_
              obtain ⟨⟨x34v_Kind, x34v_N, x34v_S, x34v_List_, x34v_Names⟩, h_x34, h⟩ := bnd h
              obtain ⟨⟨x35v_Id, x35v_Cells⟩, h_x35, h⟩ := bnd h
              obtain ⟨⟨r36v_Kind, r36v_N, r36v_S, r36v_List_, r36v_Names⟩, h_r36, h⟩ := bnd h
              obtain ⟨r37, h_r37, h⟩ := bnd h
              refine Run.draw hL hT hM [(4, .el [.s (.int .i64 x34v_Kind), .s (.int .i64 x34v_N), .s (.string x34v_S), .ow 34 (eJson_o x34v_List_), .ow 9 (eStr_c x34v_Names)]), (9, .el [.s (.int .i64 x35v_Id), .ow 3 (eInt_c x35v_Cells)]), (11, .call [false, false, false] [.ag [.jk, .jk, .jk, .jk, .jk, .jk, .jk, .jk, .jk], .ag [.jk, .jk], .v (.jk)] [.ag [.s (.int .i64 r36v_Kind), .s (.int .i64 r36v_N), .s (.string r36v_S), .ow 34 (eJson_o r36v_List_), .ow 9 (eStr_c r36v_Names)]]), (12, .call [false, false] [.ag [.jk, .jk, .jk, .jk, .jk], .ag [.jk, .jk, .jk, .jk, .jk]] [.v (.s (.bool r37))])] (by cbv) (by cbv) (by cbv) (by cbv) (by cbv) ?_ ?_
              · exact (hq trivial (hq (get_le h_x34) (hq (get_lt (f := Json_o) h_x34) (hq (get_le h_x34) (hq (get_lt (f := Json_o) h_x34) (hq (get_geU Json_o_u h_x34) (hq trivial (hq (get_le h_x35) (hq (get_lt (f := Row_o) h_x35) (hq (get_le h_x35) (hq (get_lt (f := Row_o) h_x35) (hq (get_ge (f := Row_o) h_x35) (hq (hC (AC.args (impl_RowDoc_ac h_r36) (ALe.ag rfl (LLe.c (LLe.cons (LLe.im (RLe.eq (fr_row Cond_c_z _))) (LLe.c (LLe.c (LLe.c (LLe.cons (LLe.im (RLe.eq (fr_row Int_c_z _))) (LLe.c (LLe.c (LLe.c LLe.nil))))))))) (ALe.ag rfl (LLe.c (LLe.cons (LLe.im (RLe.eq (fr_row Int_c_z _))) LLe.nil)) (ALe.v LLe.r ALe.nil))))) (hq (hC (AC.args (impl_JsonSame_ac h_r37) (ALe.ag rfl (LLe.c (LLe.c (LLe.c (LLe.cons (LLe.im (RLe.eq (fr_row Json_o_z _))) (LLe.cons (LLe.im (RLe.eq (fr_row Str_c_z _))) LLe.nil))))) (ALe.ag rfl (LLe.c (LLe.c (LLe.c (LLe.cons (LLe.im (RLe.eq (fr_row Json_o_z _))) (LLe.cons (LLe.im (RLe.eq (fr_row Str_c_z _))) LLe.nil))))) ALe.nil)))) hq0))))))))))))))
              refine Run.cond (by cbv) (hq0) (fun c38 => ?_) (fun c38 => ?_)
              · have h := if_t c38 h
                refine Run.seq ?_
                refine Run.region hL hT [] (by cbv) ?_ ?_
                · exact hq0
                refine Run.ret ?_
                cases h
                refine ⟨_, _, by cbv, ?_, ?_⟩
                · exact LLe.r
                · exact (ALe.v LLe.r ALe.nil)
              · have h := if_f c38 h
                refine Run.skip ?_
                refine Run.region hL hT [] (by cbv) ?_ ?_
                · exact (hq trivial hq0)
                refine ⟨(ar .add .i64 z28 1), h, Weak.of _ [(1, 1), (2, 2), (3, 3), (4, 4), (5, 5), (6, 6), (7, 7), (8, 8)] hA (by cbv) ?_⟩
                repeat (first | exact hq0 | refine hq (by first | exact True.intro | rfl) ?_)
          · have h := if_f c29 h
            refine Run.exit ?_
            refine Run.seq ?_
            refine Run.region hL hT [] (by cbv) ?_ ?_
            · exact (hq (fun _ => hq0) (hq (fun g40 => (hq g40 (hq trivial hq0))) (hq (fun g41 => (hq g41 hq0)) (hq (fun _ => hq0) (hq (fun g43 => (hq g43 hq0)) (hq (fun g44 => (hq g44 (hq g44 (hq trivial hq0)))) (hq (fun q45 => (hq q45 hq0)) (hq (fun _ => hq0) hq0))))))))
            rw [show ln (eJson_o r9v_1v_List_) = lenI_Json r9v_1v_List_ from ln_eq Json_o _]
            rw [show ln (eRow_o r3v_2v_1) = lenI_Row r3v_2v_1 from ln_eq Row_o _]
            refine Run.ret ?_
            cases h
            refine ⟨_, _, by cbv, ?_, ?_⟩
            · exact LLe.r
            · exact (ALe.v LLe.r ALe.nil)


end Go.Proofs.YtnhnehckapldeaaDoor.L
