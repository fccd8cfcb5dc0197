/- The contracts of the program's functions. -/
import Derived.Test.YthklhdakkenklaaDoorProg
import Derived.Test.YthklhdakkenklaaDoorFxRowDocC0
import Derived.KernelRfl
namespace Go.Proofs.YthklhdakkenklaaDoor.L
open Go Go.Proofs
set_option linter.unusedVariables false
set_option linter.unusedSimpArgs false
set_option maxRecDepth 8000 in
theorem spec_l2Digits_ac {a0 : Int} {r : ByteArray} (h : spec_l2Digits.f a0 = some r) : AC Tryd.prog 52 [.v (.s (.int .i64 a0))] [.v (.jk)] [.v (.s (.string r))] := by
  unfold spec_l2Digits.f at h
  let ar := Ls.ar; let cm := Ls.cm; let bo := Ls.bo; let sc := Ls.sc; let sa := Ls.sa; let sx := Ls.sx; let ss := Ls.ss; let sl := Ls.sl; let bs := Ls.bs; let sb := Ls.sb; let ln := Ls.ln; let sr := Ls.sr; let ap := Ls.ap; let up := Ls.up; let rp := Ls.rp; let fr := Ls.fr; let ge := Ls.ge; let le := Ls.le; let lt := Ls.lt; let nz := Ls.nz; let mm := Ls.mm; let ma := Ls.ma; let sm := Ls.sm; let fl := Ls.fl; let al := Ls.al; let ci := Ls.ci
  let eu8_c := rowsOf u8_c
  have hL : (⟨ar, cm, bo, sc, sa, sx, ss, sl, bs, sb, ln, sr, ap, up, rp, fr, ge, le, lt, nz, mm, ma, sm, fl, al, ci⟩ : Lf) = Ls := rfl
  show AC Tryd.prog 52 [.v (.s (.int .i64 a0))] _ _
  refine AC.of_run2 tab_ok Tryd.func52 (by rfl) (by rfl) (by cbv) ⟨by decide, rfl⟩ fun F hP hA => ?_
  have hT : TabOk F.P tab := hP ▸ tab_ok
  have hM : F.P.follows .mixedOrders = true := hP ▸ mixed
  have hC : ∀ {f a o r}, AC Tryd.prog f a o r → AC F.P f a o r := fun h => hP ▸ h
  refine Run.seq ?_
  refine Run.region hL hT [] (by cbv) ?_ ?_
  · exact hq0
  refine Run.seq ?_
  refine Run.seq ?_
  refine Run.region hL hT [] (by cbv) ?_ ?_
  · exact (hq trivial hq0)
  refine Run.cond (by cbv) (hq0) (fun c1 => ?_) (fun c1 => ?_)
  · have h := if_t c1 h
    refine Run.seq ?_
    refine Run.region hL hT [] (by cbv) ?_ ?_
    · exact hq0
    refine Run.ret ?_
    cases h
    refine ⟨_, _, by cbv, ?_, ?_⟩
    · exact LLe.r
    · exact (ALe.v LLe.r ALe.nil)
  · have h := if_f c1 h
    refine Run.skip ?_
    refine Run.seq ?_
    refine Run.region hL hT [] (by cbv) ?_ ?_
    · exact (hq trivial hq0)
    refine Run.seq ?_
    refine Run.region hL hT [] (by cbv) ?_ ?_
    · exact hq0
    obtain ⟨K4, h_K4, h⟩ := joinE h
    refine Run.join2 K4 (r := r) (fun (y2 : Bool) (y3 : ByteArray) => ⟨31, 100000, [(3, .t (.s (.bool y2))), (4, .t (.s (.string y3)))], []⟩) ?_ ?_
    · skip
      refine Run.block ?_
      refine Run.loop3 (fun (z8 : Int) (z9 : Bool) (z10 : ByteArray) => ⟨31, 100000, [(0, .t (.s (.int .i64 z8))), (3, .t (.s (.bool z9))), (4, .t (.s (.string z10)))], []⟩) (x0 := a0) (x1 := (cm .lss a0 0)) (x2 := (ByteArray.mk #[])) h (Weak.of _ [] hA (by cbv) ?_) (fun _ _ _ => rfl) ?_
      · repeat (first | exact hq0 | refine hq (by first | exact True.intro | rfl) ?_)
      · intro k z8 z9 z10 h
        rw [spec_l2Digits.l0] at h
        refine Run.seq ?_
        refine Run.seq ?_
        refine Run.region hL hT [] (by cbv) ?_ ?_
        · exact (hq trivial hq0)
        refine Run.cond (by cbv) (hq0) (fun c11 => ?_) (fun c11 => ?_)
        · have h := if_t c11 h
          refine Run.skip ?_
          refine Run.block ?_
          refine Run.seq ?_
          refine Run.region hL hT [] (by cbv) ?_ ?_
          · exact (hq trivial (hq (show Ls.nz 10 from (by decide : (10 : Int) ≠ 0)) hq0))
          refine Run.seq ?_
          refine Run.seq ?_
          refine Run.region hL hT [] (by cbv) ?_ ?_
          · exact (hq trivial hq0)
          refine Run.cond (by cbv) (hq0) (fun c12 => ?_) (fun c12 => ?_)
          · have h := if_t c12 h
            refine Run.region hL hT [] (by cbv) ?_ ?_
            · exact (hq trivial hq0)
            refine Run.seq ?_
            obtain ⟨l13, h_l13, h⟩ := bnd h
            obtain ⟨s14, h_s14, h⟩ := bnd h
            obtain ⟨u15, h_u15, h⟩ := bnd h
            refine Run.region hL hT [(4, .hd [116387] (.t (.s (.string s14))) [])] (by cbv) ?_ ?_
            · exact (hq trivial (hq (hand_conv (ns := [(IntKind.wrap .u8 (w64 (48 + (w64 (0 - (Int.tmod z8 10))))))]) hT (by rfl) (by rfl) (by rfl) (by rfl) (by rfl) (by rfl) (by rfl) (conv_lit h_l13 h_s14)) (hq (sm_t h_u15) hq0)))
            refine Run.row (rows := [[.s (.int .u8 (ar .or .u8 (ar .add .i64 48 (ar .sub .i64 0 (ar .rem .i64 z8 10))) 0))]]) 116387 (eu8_c l13) (by cbv) (some_le (f := u8_c) h_l13 (RLe.cons rfl LLe.r RLe.nil)) ?_
            refine Run.region hL hT [] (by cbv) ?_ ?_
            · exact (hq trivial (hq (show Ls.nz 10 from (by decide : (10 : Int) ≠ 0)) hq0))
            refine ⟨(ar .quo .i64 z8 10), z9, (sa s14 z10), h, Weak.of _ [] hA (by cbv) ?_⟩
            repeat (first | exact hq0 | refine hq (by first | exact True.intro | rfl) ?_)
          · have h := if_f c12 h
            refine Run.skip ?_
            refine Run.seq ?_
            obtain ⟨l16, h_l16, h⟩ := bnd h
            obtain ⟨s17, h_s17, h⟩ := bnd h
            obtain ⟨u18, h_u18, h⟩ := bnd h
            refine Run.region hL hT [(4, .hd [112291] (.t (.s (.string s17))) [])] (by cbv) ?_ ?_
            · exact (hq trivial (hq (hand_conv (ns := [(IntKind.wrap .u8 (w64 (48 + (Int.tmod z8 10))))]) hT (by rfl) (by rfl) (by rfl) (by rfl) (by rfl) (by rfl) (by rfl) (conv_lit h_l16 h_s17)) (hq (sm_t h_u18) hq0)))
            refine Run.row (rows := [[.s (.int .u8 (ar .or .u8 (ar .add .i64 48 (ar .rem .i64 z8 10)) 0))]]) 112291 (eu8_c l16) (by cbv) (some_le (f := u8_c) h_l16 (RLe.cons rfl LLe.r RLe.nil)) ?_
            refine Run.region hL hT [] (by cbv) ?_ ?_
            · exact (hq trivial (hq (show Ls.nz 10 from (by decide : (10 : Int) ≠ 0)) hq0))
            refine ⟨(ar .quo .i64 z8 10), z9, (sa s17 z10), h, Weak.of _ [] hA (by cbv) ?_⟩
            repeat (first | exact hq0 | refine hq (by first | exact True.intro | rfl) ?_)
        · have h := if_f c11 h
          refine Run.exit ?_
          refine ⟨z9, z10, h, Weak.of _ [] hA (by cbv) ?_⟩
          repeat (first | exact hq0 | refine hq (by first | exact True.intro | rfl) ?_)
    · intro y2 y3 h
      rw [h_K4] at h
      refine Run.seq ?_
      refine Run.seq ?_
      refine Run.region hL hT [] (by cbv) ?_ ?_
      · exact hq0
      refine Run.cond (by cbv) (hq0) (fun c19 => ?_) (fun c19 => ?_)
      · have h := if_t c19 h
        refine Run.seq ?_
        obtain ⟨u20, h_u20, h⟩ := bnd h
        refine Run.region hL hT [] (by cbv) ?_ ?_
        · exact (hq (sm_t h_u20) hq0)
        refine Run.ret ?_
        cases h
        refine ⟨_, _, by cbv, ?_, ?_⟩
        · exact LLe.r
        · exact (ALe.v LLe.r ALe.nil)
      · have h := if_f c19 h
        refine Run.skip ?_
        refine Run.seq ?_
        refine Run.region hL hT [] (by cbv) ?_ ?_
        · exact hq0
        refine Run.ret ?_
        cases h
        refine ⟨_, _, by cbv, ?_, ?_⟩
        · exact LLe.r
        · exact (ALe.v LLe.r ALe.nil)

set_option maxRecDepth 8000 in
theorem spec_l9Cell_ac {a0v_Id : Int} {a0v_Cells : List Int} {a1 : Int} {r : Int} (h : spec_l9Cell.f (Row.mk a0v_Id a0v_Cells) a1 = some r) : AC Tryd.prog 53 [.ag [.s (.int .i64 a0v_Id), .im false (rowsOf Int_c a0v_Cells)], .v (.s (.int .i64 a1))] [.ag [.jk, .jk], .v (.jk)] [.v (.s (.int .i64 r))] := by
  unfold spec_l9Cell.f at h
  let ar := Ls.ar; let cm := Ls.cm; let bo := Ls.bo; let sc := Ls.sc; let sa := Ls.sa; let sx := Ls.sx; let ss := Ls.ss; let sl := Ls.sl; let bs := Ls.bs; let sb := Ls.sb; let ln := Ls.ln; let sr := Ls.sr; let ap := Ls.ap; let up := Ls.up; let rp := Ls.rp; let fr := Ls.fr; let ge := Ls.ge; let le := Ls.le; let lt := Ls.lt; let nz := Ls.nz; let mm := Ls.mm; let ma := Ls.ma; let sm := Ls.sm; let fl := Ls.fl; let al := Ls.al; let ci := Ls.ci
  let eInt_c := rowsOf Int_c
  let lenI_Int := @lenI Int
  have hL : (⟨ar, cm, bo, sc, sa, sx, ss, sl, bs, sb, ln, sr, ap, up, rp, fr, ge, le, lt, nz, mm, ma, sm, fl, al, ci⟩ : Lf) = Ls := rfl
  show AC Tryd.prog 53 [.ag [.s (.int .i64 a0v_Id), .im false (eInt_c a0v_Cells)], .v (.s (.int .i64 a1))] _ _
  refine AC.of_run2 tab_ok Tryd.func53 (by rfl) (by rfl) (by cbv) ⟨by decide, rfl⟩ fun F hP hA => ?_
  have hT : TabOk F.P tab := hP ▸ tab_ok
  have hM : F.P.follows .mixedOrders = true := hP ▸ mixed
  have hC : ∀ {f a o r}, AC Tryd.prog f a o r → AC F.P f a o r := fun h => hP ▸ h
  refine Run.seq ?_
  refine Run.region hL hT [] (by cbv) ?_ ?_
  · exact hq0
  refine Run.seq ?_
  refine Run.seq ?_
  obtain ⟨r1, h_r1, h⟩ := bnd h
  refine Run.region hL hT [(5, .call [false, false, false] [.v (.jk), .v (.jk), .v (.jk)] [.v (.s (.bool r1))])] (by cbv) ?_ ?_
  · exact (hq trivial (hq trivial (hq (by rw [show ln (eInt_c a0v_Cells) = lenI_Int a0v_Cells from ln_eq Int_c _]; exact (hC (spec_l1In_ac h_r1))) hq0)))
  rw [show ln (eInt_c a0v_Cells) = lenI_Int a0v_Cells from ln_eq Int_c _]
  refine Run.cond (by cbv) (hq0) (fun c2 => ?_) (fun c2 => ?_)
  · have h := if_t c2 h
    refine Run.seq ?_
    refine Run.region hL hT [] (by cbv) ?_ ?_
    · exact hq0
    refine Run.ret ?_
    cases h
    refine ⟨_, _, by cbv, ?_, ?_⟩
    · exact LLe.r
    · exact (ALe.v LLe.r ALe.nil)
  · have h := if_f c2 h
    refine Run.skip ?_
    refine Run.seq ?_
    obtain ⟨x3, h_x3, h⟩ := bnd h
    refine Run.region hL hT [(3, .el [.s (.int .i64 x3)])] (by cbv) ?_ ?_
    · exact (hq trivial (hq (get_le h_x3) (hq (get_lt (f := Int_c) h_x3) (hq (get_ge (f := Int_c) h_x3) hq0))))
    refine Run.ret ?_
    cases h
    refine ⟨_, _, by cbv, ?_, ?_⟩
    · exact LLe.r
    · exact (ALe.v LLe.r ALe.nil)

set_option maxRecDepth 8000 in
theorem spec_l11Row_ac {a0v_Table : Int} {a0v_Where : List Cond} {a0v_Order : Int} {a0v_Down : Bool} {a0v_First : Int} {a0v_Show : List Int} {a0v_Kids : Bool} {a0v_KidTable : Int} {a0v_KidCol : Int} {a1v_Id : Int} {a1v_Cells : List Int} {a2 : Int} {r : Json} (h : spec_l11Row.f (Query.mk a0v_Table a0v_Where a0v_Order a0v_Down a0v_First a0v_Show a0v_Kids a0v_KidTable a0v_KidCol) (Row.mk a1v_Id a1v_Cells) a2 = some r) : AC Tryd.prog 30 [.ag [.s (.int .i64 a0v_Table), .im false (rowsOf Cond_c a0v_Where), .s (.int .i64 a0v_Order), .s (.bool a0v_Down), .s (.int .i64 a0v_First), .im false (rowsOf Int_c a0v_Show), .s (.bool a0v_Kids), .s (.int .i64 a0v_KidTable), .s (.int .i64 a0v_KidCol)], .ag [.s (.int .i64 a1v_Id), .im false (rowsOf Int_c a1v_Cells)], .v (.s (.int .i64 a2))] [.ag [.jk, .jk, .jk, .jk, .jk, .jk, .jk, .jk, .jk], .ag [.jk, .jk], .v (.jk)] [.ag [.s (.int .i64 r.Kind), .s (.int .i64 r.N), .s (.string r.S), .im true (rowsOf Json_k r.List_), .im true (rowsOf Str_c r.Names)]] := by
  unfold spec_l11Row.f at h
  let ar := Ls.ar; let cm := Ls.cm; let bo := Ls.bo; let sc := Ls.sc; let sa := Ls.sa; let sx := Ls.sx; let ss := Ls.ss; let sl := Ls.sl; let bs := Ls.bs; let sb := Ls.sb; let ln := Ls.ln; let sr := Ls.sr; let ap := Ls.ap; let up := Ls.up; let rp := Ls.rp; let fr := Ls.fr; let ge := Ls.ge; let le := Ls.le; let lt := Ls.lt; let nz := Ls.nz; let mm := Ls.mm; let ma := Ls.ma; let sm := Ls.sm; let fl := Ls.fl; let al := Ls.al; let ci := Ls.ci
  let eCond_c := rowsOf Cond_c
  let eInt_c := rowsOf Int_c
  let eJson_k := rowsOf Json_k
  let eStr_c := rowsOf Str_c
  let lenI_Int := @lenI Int
  have hL : (⟨ar, cm, bo, sc, sa, sx, ss, sl, bs, sb, ln, sr, ap, up, rp, fr, ge, le, lt, nz, mm, ma, sm, fl, al, ci⟩ : Lf) = Ls := rfl
  show AC Tryd.prog 30 [.ag [.s (.int .i64 a0v_Table), .im false (eCond_c a0v_Where), .s (.int .i64 a0v_Order), .s (.bool a0v_Down), .s (.int .i64 a0v_First), .im false (eInt_c a0v_Show), .s (.bool a0v_Kids), .s (.int .i64 a0v_KidTable), .s (.int .i64 a0v_KidCol)], .ag [.s (.int .i64 a1v_Id), .im false (eInt_c a1v_Cells)], .v (.s (.int .i64 a2))] _ _
  refine AC.of_run2 tab_ok Tryd.func30 (by rfl) (by rfl) (by cbv) ⟨by decide, rfl⟩ fun F hP hA => ?_
  have hT : TabOk F.P tab := hP ▸ tab_ok
  have hM : F.P.follows .mixedOrders = true := hP ▸ mixed
  have hC : ∀ {f a o r}, AC Tryd.prog f a o r → AC F.P f a o r := fun h => hP ▸ h
  refine Run.seq ?_
  refine Run.region hL hT [] (by cbv) ?_ ?_
  · exact hq0
  refine Run.seq ?_
  refine Run.region hL hT [] (by cbv) ?_ ?_
  · exact (hq trivial hq0)
  obtain ⟨K6, h_K6, h⟩ := joinE h
  refine Run.join5 K6 (r := r) (fun (y1 : Int) (y2 : Int) (y3 : ByteArray) (y4 : List Json) (y5 : List ByteArray) => ⟨46, 100000, [(2, .t (.s (.int .i64 a2))), (3, .pt 1 0 0), (4, .pt 2 0 0), (6, .pt 3 0 0), (7, .pt 4 0 0)], [(1, .box 37 [.t (.s (.int .i64 a0v_Table)), .t (.im false (eCond_c a0v_Where)), .t (.s (.int .i64 a0v_Order)), .t (.s (.bool a0v_Down)), .t (.s (.int .i64 a0v_First)), .t (.im false (eInt_c a0v_Show)), .t (.s (.bool a0v_Kids)), .t (.s (.int .i64 a0v_KidTable)), .t (.s (.int .i64 a0v_KidCol))]), (2, .box 39 [.t (.s (.int .i64 a1v_Id)), .t (.im false (eInt_c a1v_Cells))]), (3, .box 33 [.t (.s (.int .i64 0)), .t (.s (.int .i64 0)), .t (.s (.string ByteArray.empty)), .t (.s (.slice none 0 0)), .t (.s (.slice none 0 0))]), (4, .box 33 [.t (.s (.int .i64 y1)), .t (.s (.int .i64 y2)), .t (.s (.string y3)), .t (.im true (eJson_k y4)), .t (.im true (eStr_c y5))])]⟩) ?_ ?_
  · skip
    refine Run.seq ?_
    refine Run.region hL hT [] (by cbv) ?_ ?_
    · exact hq0
    refine Run.block ?_
    refine Run.loop6 (fun (z47 : Int) (z48 : Int) (z49 : ByteArray) (z50 : List Json) (z51 : List ByteArray) (z52 : Int) => ⟨46, 100000, [(2, .t (.s (.int .i64 a2))), (3, .pt 1 0 0), (4, .pt 2 0 0), (6, .pt 3 0 0), (7, .pt 4 0 0), (8, .t (.s (.int .i64 z52)))], [(1, .box 37 [.t (.s (.int .i64 a0v_Table)), .t (.im false (eCond_c a0v_Where)), .t (.s (.int .i64 a0v_Order)), .t (.s (.bool a0v_Down)), .t (.s (.int .i64 a0v_First)), .t (.im false (eInt_c a0v_Show)), .t (.s (.bool a0v_Kids)), .t (.s (.int .i64 a0v_KidTable)), .t (.s (.int .i64 a0v_KidCol))]), (2, .box 39 [.t (.s (.int .i64 a1v_Id)), .t (.im false (eInt_c a1v_Cells))]), (3, .box 33 [.t (.s (.int .i64 0)), .t (.s (.int .i64 0)), .t (.s (.string ByteArray.empty)), .t (.s (.slice none 0 0)), .t (.s (.slice none 0 0))]), (4, .box 33 [.t (.s (.int .i64 z47)), .t (.s (.int .i64 z48)), .t (.s (.string z49)), .t (.im true (eJson_k z50)), .t (.im true (eStr_c z51))])]⟩) (x0 := 5) (x1 := 0) (x2 := ByteArray.empty) (x3 := []) (x4 := []) (x5 := 0) h ((Weak.cellB (l := [.t (.s (.int .i64 5)), .t (.s (.int .i64 0)), .t (.s (.string ByteArray.empty))]) (y := .im true (eJson_k [])) 4097 (by cbv) LLe.nilI).trans ((Weak.cellB (l := [.t (.s (.int .i64 5)), .t (.s (.int .i64 0)), .t (.s (.string ByteArray.empty)), .t (.im true (eJson_k []))]) (y := .im true (eStr_c [])) 4097 (by cbv) LLe.nilI).trans (Weak.of _ [(1, 0), (2, 1), (3, 2), (4, 4097)] hA (by cbv) ?_))) (fun _ _ _ _ _ _ => rfl) ?_
    · repeat (first | exact hq0 | refine hq (by first | exact True.intro | rfl) ?_)
    · intro k z47 z48 z49 z50 z51 z52 h
      rw [spec_l11Row.l0] at h
      refine Run.seq ?_
      refine Run.seq ?_
      refine Run.region hL hT [] (by cbv) ?_ ?_
      · exact (hq trivial (hq trivial hq0))
      rw [show ln (eInt_c a0v_Show) = lenI_Int a0v_Show from ln_eq Int_c _]
      refine Run.cond (by cbv) (hq0) (fun c53 => ?_) (fun c53 => ?_)
      · have h := if_t c53 h
        refine Run.skip ?_
        refine Run.seq ?_
        refine Run.block ?_
        obtain ⟨x54, h_x54, h⟩ := bnd h
        obtain ⟨r55, h_r55, h⟩ := bnd h
        obtain ⟨u56, h_u56, h⟩ := bnd h
        obtain ⟨r57, h_r57, h⟩ := bnd h
        obtain ⟨⟨r58v_Kind, r58v_N, r58v_S, r58v_List_, r58v_Names⟩, h_r58, h⟩ := bnd h
        obtain ⟨⟨r59v_Kind, r59v_N, r59v_S, r59v_List_, r59v_Names⟩, h_r59, h⟩ := bnd h
        refine Run.draw hL hT hM [(4, .el [.s (.int .i64 x54)]), (6, .call [false] [.v (.jk)] [.v (.s (.string r55))]), (12, .el [.s (.int .i64 x54)]), (14, .call [false, false] [.ag [.jk, .jk], .v (.jk)] [.v (.s (.int .i64 r57))]), (15, .call [false] [.v (.jk)] [.ag [.s (.int .i64 r58v_Kind), .s (.int .i64 r58v_N), .s (.string r58v_S), .im true (eJson_k r58v_List_), .im true (eStr_c r58v_Names)]]), (16, .call [true, false, true] [.ag [.jk, .jk, .jk, .jk, .jk], .v (.jk), .ag [.jk, .jk, .jk, .jk, .jk]] [.ag [.s (.int .i64 r59v_Kind), .s (.int .i64 r59v_N), .s (.string r59v_S), .im true (eJson_k r59v_List_), .im true (eStr_c r59v_Names)]])] (by cbv) (by cbv) (by cbv) (by cbv) (by cbv) ?_ ?_
        · exact (hq trivial (hq trivial (hq (get_le h_x54) (hq (get_lt (f := Int_c) h_x54) (hq (get_ge (f := Int_c) h_x54) (hq (hC (spec_l2Digits_ac h_r55)) (hq (sm_t h_u56) (hq trivial (hq trivial (hq (get_le h_x54) (hq (get_lt (f := Int_c) h_x54) (hq (get_ge (f := Int_c) h_x54) (hq (hC (spec_l9Cell_ac h_r57)) (hq (hC (spec_l11Num_ac h_r58)) (hq (hC (spec_l1Put_ac h_r59)) (hq trivial hq0))))))))))))))))
        refine Run.region hL hT [] (by cbv) ?_ ?_
        · exact (hq trivial hq0)
        refine ⟨r59v_Kind, r59v_N, r59v_S, r59v_List_, r59v_Names, (ar .add .i64 z52 1), h, Weak.of _ [(1, 1), (2, 2), (3, 3), (4, 4)] hA (by cbv) ?_⟩
        repeat (first | exact hq0 | refine hq (by first | exact True.intro | rfl) ?_)
      · have h := if_f c53 h
        refine Run.exit ?_
        refine ⟨z47, z48, z49, z50, z51, h, Weak.of _ [(1, 1), (2, 2), (3, 3), (4, 4)] hA (by cbv) ?_⟩
        repeat (first | exact hq0 | refine hq (by first | exact True.intro | rfl) ?_)
  · intro y1 y2 y3 y4 y5 h
    rw [h_K6] at h
    refine Run.seq ?_
    obtain ⟨⟨r60v_Kind, r60v_N, r60v_S, r60v_List_, r60v_Names⟩, h_r60, h⟩ := bnd h
    obtain ⟨⟨r61v_Kind, r61v_N, r61v_S, r61v_List_, r61v_Names⟩, h_r61, h⟩ := bnd h
    refine Run.draw hL hT hM [(3, .call [false] [.v (.jk)] [.ag [.s (.int .i64 r60v_Kind), .s (.int .i64 r60v_N), .s (.string r60v_S), .im true (eJson_k r60v_List_), .im true (eStr_c r60v_Names)]]), (4, .call [true, false, true] [.ag [.jk, .jk, .jk, .jk, .jk], .v (.jk), .ag [.jk, .jk, .jk, .jk, .jk]] [.ag [.s (.int .i64 r61v_Kind), .s (.int .i64 r61v_N), .s (.string r61v_S), .im true (eJson_k r61v_List_), .im true (eStr_c r61v_Names)]])] (by cbv) (by cbv) (by cbv) (by cbv) (by cbv) ?_ ?_
    · exact (hq trivial (hq trivial (hq (hC (spec_l11Num_ac h_r60)) (hq (hC (spec_l1Put_ac h_r61)) (hq trivial hq0)))))
    refine Run.seq ?_
    refine Run.seq ?_
    refine Run.region hL hT [] (by cbv) ?_ ?_
    · exact (hq trivial hq0)
    refine Run.cond (by cbv) (hq0) (fun c62 => ?_) (fun c62 => ?_)
    · have h := if_t c62 h
      obtain ⟨⟨r63v_Kind, r63v_N, r63v_S, r63v_List_, r63v_Names⟩, h_r63, h⟩ := bnd h
      obtain ⟨⟨r64v_Kind, r64v_N, r64v_S, r64v_List_, r64v_Names⟩, h_r64, h⟩ := bnd h
      refine Run.draw hL hT hM [(2, .call [false] [.v (.jk)] [.ag [.s (.int .i64 r63v_Kind), .s (.int .i64 r63v_N), .s (.string r63v_S), .im true (eJson_k r63v_List_), .im true (eStr_c r63v_Names)]]), (3, .call [true, false, true] [.ag [.jk, .jk, .jk, .jk, .jk], .v (.jk), .ag [.jk, .jk, .jk, .jk, .jk]] [.ag [.s (.int .i64 r64v_Kind), .s (.int .i64 r64v_N), .s (.string r64v_S), .im true (eJson_k r64v_List_), .im true (eStr_c r64v_Names)]])] (by cbv) (by cbv) (by cbv) (by cbv) (by cbv) ?_ ?_
      · exact (hq trivial (hq (hC (spec_l11Num_ac h_r63)) (hq (hC (spec_l1Put_ac h_r64)) (hq trivial hq0))))
      refine Run.seq ?_
      refine Run.region hL hT [] (by cbv) ?_ ?_
      · exact (hq trivial (hq trivial hq0))
      refine Run.ret ?_
      cases h
      refine ⟨_, _, by cbv, ?_, ?_⟩
      · exact LLe.r
      · exact (ALe.ag rfl LLe.r ALe.nil)
    · have h := if_f c62 h
      refine Run.skip ?_
      refine Run.seq ?_
      refine Run.region hL hT [] (by cbv) ?_ ?_
      · exact (hq trivial (hq trivial hq0))
      refine Run.ret ?_
      cases h
      refine ⟨_, _, by cbv, ?_, ?_⟩
      · exact LLe.r
      · exact (ALe.ag rfl LLe.r ALe.nil)

set_option maxRecDepth 8000 in
theorem spec_RowDoc_ac {a0v_Table : Int} {a0v_Where : List Cond} {a0v_Order : Int} {a0v_Down : Bool} {a0v_First : Int} {a0v_Show : List Int} {a0v_Kids : Bool} {a0v_KidTable : Int} {a0v_KidCol : Int} {a1v_Id : Int} {a1v_Cells : List Int} {a2 : Int} {r : Json} (h : spec_RowDoc.f (Query.mk a0v_Table a0v_Where a0v_Order a0v_Down a0v_First a0v_Show a0v_Kids a0v_KidTable a0v_KidCol) (Row.mk a1v_Id a1v_Cells) a2 = some r) : AC Tryd.prog 7 [.ag [.s (.int .i64 a0v_Table), .im false (rowsOf Cond_c a0v_Where), .s (.int .i64 a0v_Order), .s (.bool a0v_Down), .s (.int .i64 a0v_First), .im false (rowsOf Int_c a0v_Show), .s (.bool a0v_Kids), .s (.int .i64 a0v_KidTable), .s (.int .i64 a0v_KidCol)], .ag [.s (.int .i64 a1v_Id), .im false (rowsOf Int_c a1v_Cells)], .v (.s (.int .i64 a2))] [.ag [.jk, .jk, .jk, .jk, .jk, .jk, .jk, .jk, .jk], .ag [.jk, .jk], .v (.jk)] [.ag [.s (.int .i64 r.Kind), .s (.int .i64 r.N), .s (.string r.S), .im true (rowsOf Json_k r.List_), .im true (rowsOf Str_c r.Names)]] := by
  unfold spec_RowDoc.f at h
  let ar := Ls.ar; let cm := Ls.cm; let bo := Ls.bo; let sc := Ls.sc; let sa := Ls.sa; let sx := Ls.sx; let ss := Ls.ss; let sl := Ls.sl; let bs := Ls.bs; let sb := Ls.sb; let ln := Ls.ln; let sr := Ls.sr; let ap := Ls.ap; let up := Ls.up; let rp := Ls.rp; let fr := Ls.fr; let ge := Ls.ge; let le := Ls.le; let lt := Ls.lt; let nz := Ls.nz; let mm := Ls.mm; let ma := Ls.ma; let sm := Ls.sm; let fl := Ls.fl; let al := Ls.al; let ci := Ls.ci
  let eCond_c := rowsOf Cond_c
  let eInt_c := rowsOf Int_c
  let eJson_k := rowsOf Json_k
  let eStr_c := rowsOf Str_c
  have hL : (⟨ar, cm, bo, sc, sa, sx, ss, sl, bs, sb, ln, sr, ap, up, rp, fr, ge, le, lt, nz, mm, ma, sm, fl, al, ci⟩ : Lf) = Ls := rfl
  show AC Tryd.prog 7 [.ag [.s (.int .i64 a0v_Table), .im false (eCond_c a0v_Where), .s (.int .i64 a0v_Order), .s (.bool a0v_Down), .s (.int .i64 a0v_First), .im false (eInt_c a0v_Show), .s (.bool a0v_Kids), .s (.int .i64 a0v_KidTable), .s (.int .i64 a0v_KidCol)], .ag [.s (.int .i64 a1v_Id), .im false (eInt_c a1v_Cells)], .v (.s (.int .i64 a2))] _ _
  refine AC.of_run2 tab_ok Tryd.func7 (by rfl) (by rfl) (by cbv) ⟨by decide, rfl⟩ fun F hP hA => ?_
  have hT : TabOk F.P tab := hP ▸ tab_ok
  have hM : F.P.follows .mixedOrders = true := hP ▸ mixed
  have hC : ∀ {f a o r}, AC Tryd.prog f a o r → AC F.P f a o r := fun h => hP ▸ h
  refine Run.seq ?_
  refine Run.region hL hT [] (by cbv) ?_ ?_
  · exact hq0
  refine Run.seq ?_
  obtain ⟨⟨r1v_Kind, r1v_N, r1v_S, r1v_List_, r1v_Names⟩, h_r1, h⟩ := bnd h
  obtain ⟨⟨r2v_Kind, r2v_N, r2v_S, r2v_List_, r2v_Names⟩, h_r2, h⟩ := bnd h
  refine Run.region hL hT [(3, .call [false, false, false] [.ag [.jk, .jk, .jk, .jk, .jk, .jk, .jk, .jk, .jk], .ag [.jk, .jk], .v (.jk)] [.ag [.s (.int .i64 r1v_Kind), .s (.int .i64 r1v_N), .s (.string r1v_S), .im true (eJson_k r1v_List_), .im true (eStr_c r1v_Names)]]), (4, .call [true] [.ag [.jk, .jk, .jk, .jk, .jk]] [.ag [.s (.int .i64 r2v_Kind), .s (.int .i64 r2v_N), .s (.string r2v_S), .im true (eJson_k r2v_List_), .im true (eStr_c r2v_Names)]])] (by cbv) ?_ ?_
  · exact (hq trivial (hq trivial (hq (hC (spec_l11Row_ac h_r1)) (hq (hC (spec_l11Right_ac h_r2)) (hq trivial hq0)))))
  refine Run.ret ?_
  cases h
  refine ⟨_, _, by cbv, ?_, ?_⟩
  · exact LLe.r
  · exact (ALe.ag rfl LLe.r ALe.nil)

set_option maxRecDepth 8000 in
theorem laws_toIntS_ac {a0 : List Int} {r : (List Int)} (h : laws_toIntS.f a0 = some r) : AC Tryd.prog 21 [.v (.im false (rowsOf Int_c a0))] [.v (.jk)] [.v (.ow 3 (rowsOf Int_c r))] := by
  unfold laws_toIntS.f at h
  let ar := Ls.ar; let cm := Ls.cm; let bo := Ls.bo; let sc := Ls.sc; let sa := Ls.sa; let sx := Ls.sx; let ss := Ls.ss; let sl := Ls.sl; let bs := Ls.bs; let sb := Ls.sb; let ln := Ls.ln; let sr := Ls.sr; let ap := Ls.ap; let up := Ls.up; let rp := Ls.rp; let fr := Ls.fr; let ge := Ls.ge; let le := Ls.le; let lt := Ls.lt; let nz := Ls.nz; let mm := Ls.mm; let ma := Ls.ma; let sm := Ls.sm; let fl := Ls.fl; let al := Ls.al; let ci := Ls.ci
  let eInt_c := rowsOf Int_c
  let lenI_Int := @lenI Int
  have hL : (⟨ar, cm, bo, sc, sa, sx, ss, sl, bs, sb, ln, sr, ap, up, rp, fr, ge, le, lt, nz, mm, ma, sm, fl, al, ci⟩ : Lf) = Ls := rfl
  show AC Tryd.prog 21 [.v (.im false (eInt_c a0))] _ _
  refine AC.of_run2 tab_ok Tryd.func21 (by rfl) (by rfl) (by cbv) ⟨by decide, rfl⟩ fun F hP hA => ?_
  have hT : TabOk F.P tab := hP ▸ tab_ok
  have hM : F.P.follows .mixedOrders = true := hP ▸ mixed
  have hC : ∀ {f a o r}, AC Tryd.prog f a o r → AC F.P f a o r := fun h => hP ▸ h
  refine Run.seq ?_
  refine Run.region hL hT [] (by cbv) ?_ ?_
  · exact hq0
  refine Run.seq ?_
  obtain ⟨l1, h_l1, h⟩ := bnd h
  refine Run.region hL hT [] (by cbv) ?_ ?_
  · exact (hq trivial (hq (by rw [show ln (eInt_c a0) = lenI_Int a0 from ln_eq Int_c _]; exact (mk_0 h_l1)) (hq (by rw [show ln (eInt_c a0) = lenI_Int a0 from ln_eq Int_c _]; exact (mk_mm h_l1)) hq0)))
  rw [show ln (eInt_c a0) = lenI_Int a0 from ln_eq Int_c _]
  refine Run.row (rows := (rp (lenI_Int a0) [.s (.int .i64 0)])) 4098 (eInt_c l1) (by cbv) (mk_le (f := Int_c) rfl LLe.r h_l1) ?_
  refine Run.seq ?_
  refine Run.seq ?_
  refine Run.region hL hT [] (by cbv) ?_ ?_
  · exact hq0
  refine Run.block ?_
  refine Run.loop2 (fun (z5 : List Int) (z6 : Int) => ⟨22, 100000, [(0, .t (.im false (eInt_c a0))), (3, .rf 1), (4, .t (.s (.int .i64 z6)))], [(1, .row 0 3 1 (eInt_c z5))]⟩) (x0 := l1) (x1 := 0) h (Weak.of _ [(1, 4098)] hA (by cbv) ?_) (fun _ _ => rfl) ?_
  · repeat (first | exact hq0 | refine hq (by first | exact True.intro | rfl) ?_)
  · intro k z5 z6 h
    rw [laws_toIntS.l0] at h
    refine Run.seq ?_
    refine Run.seq ?_
    refine Run.region hL hT [] (by cbv) ?_ ?_
    · exact (hq trivial hq0)
    rw [show ln (eInt_c a0) = lenI_Int a0 from ln_eq Int_c _]
    refine Run.cond (by cbv) (hq0) (fun c7 => ?_) (fun c7 => ?_)
    · have h := if_t c7 h
      refine Run.skip ?_
      refine Run.seq ?_
      refine Run.block ?_
      obtain ⟨x8, h_x8, h⟩ := bnd h
      obtain ⟨x9, h_x9, h⟩ := bnd h
      obtain ⟨l10, h_l10, h⟩ := bnd h
      refine Run.region hL hT [(4, .el [.s (.int .i64 x8)])] (by cbv) ?_ ?_
      · exact (hq (get_le h_x8) (hq (get_lt (f := Int_c) h_x8) (hq (get_ge (f := Int_c) h_x8) (hq (get_le h_x9) (hq (get_lt (f := Int_c) h_x9) (hq (get_le h_x9) (hq (get_lt (f := Int_c) h_x9) hq0)))))))
      refine Run.row (rows := (up (eInt_c z5) z6 0 [.s (.int .i64 x8)])) 1 (eInt_c l10) (by cbv) (sto_le (f := Int_c) h_x9 h_l10 rfl LLe.r) ?_
      refine Run.region hL hT [] (by cbv) ?_ ?_
      · exact (hq trivial hq0)
      refine ⟨l10, (ar .add .i64 z6 1), h, Weak.of _ [(1, 1)] hA (by cbv) ?_⟩
      repeat (first | exact hq0 | refine hq (by first | exact True.intro | rfl) ?_)
    · have h := if_f c7 h
      refine Run.exit ?_
      refine Run.seq ?_
      refine Run.region hL hT [] (by cbv) ?_ ?_
      · exact hq0
      refine Run.ret ?_
      cases h
      refine ⟨_, _, by cbv, ?_, ?_⟩
      · exact LLe.r
      · exact (ALe.v LLe.r ALe.nil)

set_option maxRecDepth 8000 in
theorem laws_toCond_ac {a0v_Col : Int} {a0v_Op : Int} {a0v_V : Int} {r : Cond} (h : laws_toCond.f (Cond.mk a0v_Col a0v_Op a0v_V) = some r) : AC Tryd.prog 54 [.ag [.s (.int .i64 a0v_Col), .s (.int .i64 a0v_Op), .s (.int .i64 a0v_V)]] [.ag [.jk, .jk, .jk]] [.ag [.s (.int .i64 r.Col), .s (.int .i64 r.Op), .s (.int .i64 r.V)]] := by
  unfold laws_toCond.f at h
  let ar := Ls.ar; let cm := Ls.cm; let bo := Ls.bo; let sc := Ls.sc; let sa := Ls.sa; let sx := Ls.sx; let ss := Ls.ss; let sl := Ls.sl; let bs := Ls.bs; let sb := Ls.sb; let ln := Ls.ln; let sr := Ls.sr; let ap := Ls.ap; let up := Ls.up; let rp := Ls.rp; let fr := Ls.fr; let ge := Ls.ge; let le := Ls.le; let lt := Ls.lt; let nz := Ls.nz; let mm := Ls.mm; let ma := Ls.ma; let sm := Ls.sm; let fl := Ls.fl; let al := Ls.al; let ci := Ls.ci
  have hL : (⟨ar, cm, bo, sc, sa, sx, ss, sl, bs, sb, ln, sr, ap, up, rp, fr, ge, le, lt, nz, mm, ma, sm, fl, al, ci⟩ : Lf) = Ls := rfl
  show AC Tryd.prog 54 [.ag [.s (.int .i64 a0v_Col), .s (.int .i64 a0v_Op), .s (.int .i64 a0v_V)]] _ _
  refine AC.of_run2 tab_ok Tryd.func54 (by rfl) (by rfl) (by cbv) ⟨by decide, rfl⟩ fun F hP hA => ?_
  have hT : TabOk F.P tab := hP ▸ tab_ok
  have hM : F.P.follows .mixedOrders = true := hP ▸ mixed
  have hC : ∀ {f a o r}, AC Tryd.prog f a o r → AC F.P f a o r := fun h => hP ▸ h
  refine Run.seq ?_
  refine Run.region hL hT [] (by cbv) ?_ ?_
  · exact hq0
  refine Run.seq ?_
  refine Run.region hL hT [] (by cbv) ?_ ?_
  · exact hq0
  refine Run.seq ?_
  refine Run.region hL hT [] (by cbv) ?_ ?_
  · exact (hq trivial (hq trivial hq0))
  refine Run.seq ?_
  refine Run.region hL hT [] (by cbv) ?_ ?_
  · exact (hq trivial (hq trivial hq0))
  refine Run.seq ?_
  refine Run.region hL hT [] (by cbv) ?_ ?_
  · exact (hq trivial (hq trivial hq0))
  refine Run.seq ?_
  refine Run.region hL hT [] (by cbv) ?_ ?_
  · exact (hq trivial (hq trivial hq0))
  refine Run.ret ?_
  cases h
  refine ⟨_, _, by cbv, ?_, ?_⟩
  · exact LLe.r
  · exact (ALe.ag rfl LLe.r ALe.nil)

set_option maxRecDepth 8000 in
theorem laws_toCondS_ac {a0 : List Cond} {r : (List Cond)} (h : laws_toCondS.f a0 = some r) : AC Tryd.prog 31 [.v (.im false (rowsOf Cond_c a0))] [.v (.jk)] [.v (.ow 77 (rowsOf Cond_c r))] := by
  unfold laws_toCondS.f at h
  let ar := Ls.ar; let cm := Ls.cm; let bo := Ls.bo; let sc := Ls.sc; let sa := Ls.sa; let sx := Ls.sx; let ss := Ls.ss; let sl := Ls.sl; let bs := Ls.bs; let sb := Ls.sb; let ln := Ls.ln; let sr := Ls.sr; let ap := Ls.ap; let up := Ls.up; let rp := Ls.rp; let fr := Ls.fr; let ge := Ls.ge; let le := Ls.le; let lt := Ls.lt; let nz := Ls.nz; let mm := Ls.mm; let ma := Ls.ma; let sm := Ls.sm; let fl := Ls.fl; let al := Ls.al; let ci := Ls.ci
  let eCond_c := rowsOf Cond_c
  let lenI_Cond := @lenI Cond
  have hL : (⟨ar, cm, bo, sc, sa, sx, ss, sl, bs, sb, ln, sr, ap, up, rp, fr, ge, le, lt, nz, mm, ma, sm, fl, al, ci⟩ : Lf) = Ls := rfl
  show AC Tryd.prog 31 [.v (.im false (eCond_c a0))] _ _
  refine AC.of_run2 tab_ok Tryd.func31 (by rfl) (by rfl) (by cbv) ⟨by decide, rfl⟩ fun F hP hA => ?_
  have hT : TabOk F.P tab := hP ▸ tab_ok
  have hM : F.P.follows .mixedOrders = true := hP ▸ mixed
  have hC : ∀ {f a o r}, AC Tryd.prog f a o r → AC F.P f a o r := fun h => hP ▸ h
  refine Run.seq ?_
  refine Run.region hL hT [] (by cbv) ?_ ?_
  · exact hq0
  refine Run.seq ?_
  obtain ⟨l1, h_l1, h⟩ := bnd h
  refine Run.region hL hT [] (by cbv) ?_ ?_
  · exact (hq trivial (hq (by rw [show ln (eCond_c a0) = lenI_Cond a0 from ln_eq Cond_c _]; exact (mk_0 h_l1)) (hq (by rw [show ln (eCond_c a0) = lenI_Cond a0 from ln_eq Cond_c _]; exact (mk_mm h_l1)) hq0)))
  rw [show ln (eCond_c a0) = lenI_Cond a0 from ln_eq Cond_c _]
  refine Run.row (rows := (rp (lenI_Cond a0) [.s (.int .i64 0), .s (.int .i64 0), .s (.int .i64 0)])) 4098 (eCond_c l1) (by cbv) (mk_le (f := Cond_c) rfl LLe.r h_l1) ?_
  refine Run.seq ?_
  refine Run.seq ?_
  refine Run.region hL hT [] (by cbv) ?_ ?_
  · exact hq0
  refine Run.block ?_
  refine Run.loop2 (fun (z5 : List Cond) (z6 : Int) => ⟨23, 100000, [(0, .t (.im false (eCond_c a0))), (3, .rf 1), (4, .t (.s (.int .i64 z6)))], [(1, .row 0 77 3 (eCond_c z5))]⟩) (x0 := l1) (x1 := 0) h (Weak.of _ [(1, 4098)] hA (by cbv) ?_) (fun _ _ => rfl) ?_
  · repeat (first | exact hq0 | refine hq (by first | exact True.intro | rfl) ?_)
  · intro k z5 z6 h
    rw [laws_toCondS.l0] at h
    refine Run.seq ?_
    refine Run.seq ?_
    refine Run.region hL hT [] (by cbv) ?_ ?_
    · exact (hq trivial hq0)
    rw [show ln (eCond_c a0) = lenI_Cond a0 from ln_eq Cond_c _]
    refine Run.cond (by cbv) (hq0) (fun c7 => ?_) (fun c7 => ?_)
    · have h := if_t c7 h
      refine Run.skip ?_
      refine Run.seq ?_
      refine Run.block ?_
      obtain ⟨⟨x8v_Col, x8v_Op, x8v_V⟩, h_x8, h⟩ := bnd h
      obtain ⟨⟨r9v_Col, r9v_Op, r9v_V⟩, h_r9, h⟩ := bnd h
      obtain ⟨⟨x10v_Col, x10v_Op, x10v_V⟩, h_x10, h⟩ := bnd h
      obtain ⟨l11, h_l11, h⟩ := bnd h
      refine Run.region hL hT [(4, .el [.s (.int .i64 x8v_Col), .s (.int .i64 x8v_Op), .s (.int .i64 x8v_V)]), (6, .call [false] [.ag [.jk, .jk, .jk]] [.ag [.s (.int .i64 r9v_Col), .s (.int .i64 r9v_Op), .s (.int .i64 r9v_V)]])] (by cbv) ?_ ?_
      · exact (hq (get_le h_x8) (hq (get_lt (f := Cond_c) h_x8) (hq (get_ge (f := Cond_c) h_x8) (hq (hC (laws_toCond_ac h_r9)) (hq (get_le h_x10) (hq (get_lt (f := Cond_c) h_x10) (hq (get_le h_x10) (hq (get_lt (f := Cond_c) h_x10) hq0))))))))
      refine Run.row (rows := (up (eCond_c z5) z6 0 [.s (.int .i64 r9v_Col), .s (.int .i64 r9v_Op), .s (.int .i64 r9v_V)])) 1 (eCond_c l11) (by cbv) (sto_le (f := Cond_c) h_x10 h_l11 rfl LLe.r) ?_
      refine Run.region hL hT [] (by cbv) ?_ ?_
      · exact (hq trivial hq0)
      refine ⟨l11, (ar .add .i64 z6 1), h, Weak.of _ [(1, 1)] hA (by cbv) ?_⟩
      repeat (first | exact hq0 | refine hq (by first | exact True.intro | rfl) ?_)
    · have h := if_f c7 h
      refine Run.exit ?_
      refine Run.seq ?_
      refine Run.region hL hT [] (by cbv) ?_ ?_
      · exact hq0
      refine Run.ret ?_
      cases h
      refine ⟨_, _, by cbv, ?_, ?_⟩
      · exact LLe.r
      · exact (ALe.v LLe.r ALe.nil)

set_option maxRecDepth 8000 in
theorem laws_toQuery_ac {a0v_Table : Int} {a0v_Where : List Cond} {a0v_Order : Int} {a0v_Down : Bool} {a0v_First : Int} {a0v_Show : List Int} {a0v_Kids : Bool} {a0v_KidTable : Int} {a0v_KidCol : Int} {r : Query} (h : laws_toQuery.f (Query.mk a0v_Table a0v_Where a0v_Order a0v_Down a0v_First a0v_Show a0v_Kids a0v_KidTable a0v_KidCol) = some r) : AC Tryd.prog 8 [.ag [.s (.int .i64 a0v_Table), .im false (rowsOf Cond_c a0v_Where), .s (.int .i64 a0v_Order), .s (.bool a0v_Down), .s (.int .i64 a0v_First), .im false (rowsOf Int_c a0v_Show), .s (.bool a0v_Kids), .s (.int .i64 a0v_KidTable), .s (.int .i64 a0v_KidCol)]] [.ag [.jk, .jk, .jk, .jk, .jk, .jk, .jk, .jk, .jk]] [.ag [.s (.int .i64 r.Table), .ow 77 (rowsOf Cond_c r.Where), .s (.int .i64 r.Order), .s (.bool r.Down), .s (.int .i64 r.First), .ow 3 (rowsOf Int_c r.Show), .s (.bool r.Kids), .s (.int .i64 r.KidTable), .s (.int .i64 r.KidCol)]] := by
  unfold laws_toQuery.f at h
  let ar := Ls.ar; let cm := Ls.cm; let bo := Ls.bo; let sc := Ls.sc; let sa := Ls.sa; let sx := Ls.sx; let ss := Ls.ss; let sl := Ls.sl; let bs := Ls.bs; let sb := Ls.sb; let ln := Ls.ln; let sr := Ls.sr; let ap := Ls.ap; let up := Ls.up; let rp := Ls.rp; let fr := Ls.fr; let ge := Ls.ge; let le := Ls.le; let lt := Ls.lt; let nz := Ls.nz; let mm := Ls.mm; let ma := Ls.ma; let sm := Ls.sm; let fl := Ls.fl; let al := Ls.al; let ci := Ls.ci
  let eCond_c := rowsOf Cond_c
  let eInt_c := rowsOf Int_c
  have hL : (⟨ar, cm, bo, sc, sa, sx, ss, sl, bs, sb, ln, sr, ap, up, rp, fr, ge, le, lt, nz, mm, ma, sm, fl, al, ci⟩ : Lf) = Ls := rfl
  show AC Tryd.prog 8 [.ag [.s (.int .i64 a0v_Table), .im false (eCond_c a0v_Where), .s (.int .i64 a0v_Order), .s (.bool a0v_Down), .s (.int .i64 a0v_First), .im false (eInt_c a0v_Show), .s (.bool a0v_Kids), .s (.int .i64 a0v_KidTable), .s (.int .i64 a0v_KidCol)]] _ _
  refine AC.of_run2 tab_ok Tryd.func8 (by rfl) (by rfl) (by cbv) ⟨by decide, rfl⟩ fun F hP hA => ?_
  have hT : TabOk F.P tab := hP ▸ tab_ok
  have hM : F.P.follows .mixedOrders = true := hP ▸ mixed
  have hC : ∀ {f a o r}, AC Tryd.prog f a o r → AC F.P f a o r := fun h => hP ▸ h
  refine Run.seq ?_
  refine Run.region hL hT [] (by cbv) ?_ ?_
  · exact hq0
  refine Run.seq ?_
  refine Run.region hL hT [] (by cbv) ?_ ?_
  · exact hq0
  refine Run.seq ?_
  refine Run.region hL hT [] (by cbv) ?_ ?_
  · exact (hq trivial (hq trivial hq0))
  refine Run.seq ?_
  obtain ⟨r1, h_r1, h⟩ := bnd h
  refine Run.region hL hT [(2, .call [false] [.v (.jk)] [.v (.ow 77 (eCond_c r1))])] (by cbv) ?_ ?_
  · exact (hq trivial (hq (hC (laws_toCondS_ac h_r1)) (hq trivial hq0)))
  refine Run.seq ?_
  refine Run.region hL hT [] (by cbv) ?_ ?_
  · exact (hq trivial (hq trivial hq0))
  refine Run.seq ?_
  refine Run.region hL hT [] (by cbv) ?_ ?_
  · exact (hq trivial (hq trivial hq0))
  refine Run.seq ?_
  refine Run.region hL hT [] (by cbv) ?_ ?_
  · exact (hq trivial (hq trivial hq0))
  refine Run.seq ?_
  obtain ⟨r2, h_r2, h⟩ := bnd h
  refine Run.region hL hT [(2, .call [false] [.v (.jk)] [.v (.ow 3 (eInt_c r2))])] (by cbv) ?_ ?_
  · exact (hq trivial (hq (hC (laws_toIntS_ac h_r2)) (hq trivial hq0)))
  refine Run.seq ?_
  refine Run.region hL hT [] (by cbv) ?_ ?_
  · exact (hq trivial (hq trivial hq0))
  refine Run.seq ?_
  refine Run.region hL hT [] (by cbv) ?_ ?_
  · exact (hq trivial (hq trivial hq0))
  refine Run.seq ?_
  refine Run.region hL hT [] (by cbv) ?_ ?_
  · exact (hq trivial (hq trivial hq0))
  refine Run.seq ?_
  refine Run.region hL hT [] (by cbv) ?_ ?_
  · exact (hq trivial (hq trivial hq0))
  refine Run.ret ?_
  cases h
  refine ⟨_, _, by cbv, ?_, ?_⟩
  · exact LLe.r
  · exact (ALe.ag rfl LLe.r ALe.nil)

set_option maxRecDepth 8000 in
theorem laws_toRow_ac {a0v_Id : Int} {a0v_Cells : List Int} {r : Row} (h : laws_toRow.f (Row.mk a0v_Id a0v_Cells) = some r) : AC Tryd.prog 9 [.ag [.s (.int .i64 a0v_Id), .im false (rowsOf Int_c a0v_Cells)]] [.ag [.jk, .jk]] [.ag [.s (.int .i64 r.Id), .ow 3 (rowsOf Int_c r.Cells)]] := by
  unfold laws_toRow.f at h
  let ar := Ls.ar; let cm := Ls.cm; let bo := Ls.bo; let sc := Ls.sc; let sa := Ls.sa; let sx := Ls.sx; let ss := Ls.ss; let sl := Ls.sl; let bs := Ls.bs; let sb := Ls.sb; let ln := Ls.ln; let sr := Ls.sr; let ap := Ls.ap; let up := Ls.up; let rp := Ls.rp; let fr := Ls.fr; let ge := Ls.ge; let le := Ls.le; let lt := Ls.lt; let nz := Ls.nz; let mm := Ls.mm; let ma := Ls.ma; let sm := Ls.sm; let fl := Ls.fl; let al := Ls.al; let ci := Ls.ci
  let eInt_c := rowsOf Int_c
  have hL : (⟨ar, cm, bo, sc, sa, sx, ss, sl, bs, sb, ln, sr, ap, up, rp, fr, ge, le, lt, nz, mm, ma, sm, fl, al, ci⟩ : Lf) = Ls := rfl
  show AC Tryd.prog 9 [.ag [.s (.int .i64 a0v_Id), .im false (eInt_c a0v_Cells)]] _ _
  refine AC.of_run2 tab_ok Tryd.func9 (by rfl) (by rfl) (by cbv) ⟨by decide, rfl⟩ fun F hP hA => ?_
  have hT : TabOk F.P tab := hP ▸ tab_ok
  have hM : F.P.follows .mixedOrders = true := hP ▸ mixed
  have hC : ∀ {f a o r}, AC Tryd.prog f a o r → AC F.P f a o r := fun h => hP ▸ h
  refine Run.seq ?_
  refine Run.region hL hT [] (by cbv) ?_ ?_
  · exact hq0
  refine Run.seq ?_
  refine Run.region hL hT [] (by cbv) ?_ ?_
  · exact hq0
  refine Run.seq ?_
  refine Run.region hL hT [] (by cbv) ?_ ?_
  · exact (hq trivial (hq trivial hq0))
  refine Run.seq ?_
  obtain ⟨r1, h_r1, h⟩ := bnd h
  refine Run.region hL hT [(2, .call [false] [.v (.jk)] [.v (.ow 3 (eInt_c r1))])] (by cbv) ?_ ?_
  · exact (hq trivial (hq (hC (laws_toIntS_ac h_r1)) (hq trivial hq0)))
  refine Run.seq ?_
  refine Run.region hL hT [] (by cbv) ?_ ?_
  · exact (hq trivial (hq trivial hq0))
  refine Run.ret ?_
  cases h
  refine ⟨_, _, by cbv, ?_, ?_⟩
  · exact LLe.r
  · exact (ALe.ag rfl LLe.r ALe.nil)

set_option maxRecDepth 8000 in
theorem laws_FnExactRowDoc_ac {a0v_Table : Int} {a0v_Where : List Cond} {a0v_Order : Int} {a0v_Down : Bool} {a0v_First : Int} {a0v_Show : List Int} {a0v_Kids : Bool} {a0v_KidTable : Int} {a0v_KidCol : Int} {a1v_Id : Int} {a1v_Cells : List Int} {a2 : Int} {r : Bool} (h : laws_FnExactRowDoc.f (Query.mk a0v_Table a0v_Where a0v_Order a0v_Down a0v_First a0v_Show a0v_Kids a0v_KidTable a0v_KidCol) (Row.mk a1v_Id a1v_Cells) a2 = some r) : AC Tryd.prog 3 [.ag [.s (.int .i64 a0v_Table), .im false (rowsOf Cond_c a0v_Where), .s (.int .i64 a0v_Order), .s (.bool a0v_Down), .s (.int .i64 a0v_First), .im false (rowsOf Int_c a0v_Show), .s (.bool a0v_Kids), .s (.int .i64 a0v_KidTable), .s (.int .i64 a0v_KidCol)], .ag [.s (.int .i64 a1v_Id), .im false (rowsOf Int_c a1v_Cells)], .v (.s (.int .i64 a2))] [.ag [.jk, .jk, .jk, .jk, .jk, .jk, .jk, .jk, .jk], .ag [.jk, .jk], .v (.jk)] [.v (.s (.bool r))] := by
  unfold laws_FnExactRowDoc.f at h
  let ar := Ls.ar; let cm := Ls.cm; let bo := Ls.bo; let sc := Ls.sc; let sa := Ls.sa; let sx := Ls.sx; let ss := Ls.ss; let sl := Ls.sl; let bs := Ls.bs; let sb := Ls.sb; let ln := Ls.ln; let sr := Ls.sr; let ap := Ls.ap; let up := Ls.up; let rp := Ls.rp; let fr := Ls.fr; let ge := Ls.ge; let le := Ls.le; let lt := Ls.lt; let nz := Ls.nz; let mm := Ls.mm; let ma := Ls.ma; let sm := Ls.sm; let fl := Ls.fl; let al := Ls.al; let ci := Ls.ci
  let eCond_c := rowsOf Cond_c
  let eInt_c := rowsOf Int_c
  let eJson_i := rowsOf Json_i
  let eJson_k := rowsOf Json_k
  let eJson_o := rowsOf Json_o
  let eStr_c := rowsOf Str_c
  have hL : (⟨ar, cm, bo, sc, sa, sx, ss, sl, bs, sb, ln, sr, ap, up, rp, fr, ge, le, lt, nz, mm, ma, sm, fl, al, ci⟩ : Lf) = Ls := rfl
  show AC Tryd.prog 3 [.ag [.s (.int .i64 a0v_Table), .im false (eCond_c a0v_Where), .s (.int .i64 a0v_Order), .s (.bool a0v_Down), .s (.int .i64 a0v_First), .im false (eInt_c a0v_Show), .s (.bool a0v_Kids), .s (.int .i64 a0v_KidTable), .s (.int .i64 a0v_KidCol)], .ag [.s (.int .i64 a1v_Id), .im false (eInt_c a1v_Cells)], .v (.s (.int .i64 a2))] _ _
  refine AC.of_run2 tab_ok Tryd.func3 (by rfl) (by rfl) (by cbv) ⟨by decide, rfl⟩ fun F hP hA => ?_
  have hT : TabOk F.P tab := hP ▸ tab_ok
  have hM : F.P.follows .mixedOrders = true := hP ▸ mixed
  have hC : ∀ {f a o r}, AC Tryd.prog f a o r → AC F.P f a o r := fun h => hP ▸ h
  refine Run.seq ?_
  refine Run.region hL hT [] (by cbv) ?_ ?_
  · exact hq0
  refine Run.seq ?_
  refine Run.region hL hT [] (by cbv) ?_ ?_
  · exact hq0
  refine Run.seq ?_
  obtain ⟨r1, h_r1, h⟩ := bnd h
  refine Run.region hL hT [(2, .call [false, false] [.ag [.jk, .jk, .jk, .jk, .jk, .jk, .jk, .jk, .jk], .v (.jk)] [.v (.s (.int .i64 r1))])] (by cbv) ?_ ?_
  · exact (hq trivial (hq (hC (laws_szQuery_ac h_r1)) hq0))
  refine Run.seq ?_
  refine Run.seq ?_
  refine Run.region hL hT [] (by cbv) ?_ ?_
  · exact (hq trivial hq0)
  refine Run.cond (by cbv) (hq0) (fun c2 => ?_) (fun c2 => ?_)
  · have h := if_t c2 h
    refine Run.seq ?_
    refine Run.region hL hT [] (by cbv) ?_ ?_
    · exact hq0
    refine Run.ret ?_
    cases h
    refine ⟨_, _, by cbv, ?_, ?_⟩
    · exact LLe.r
    · exact (ALe.v LLe.r ALe.nil)
  · have h := if_f c2 h
    refine Run.skip ?_
    refine Run.seq ?_
    obtain ⟨r3, h_r3, h⟩ := bnd h
    refine Run.region hL hT [(2, .call [false, false] [.ag [.jk, .jk], .v (.jk)] [.v (.s (.int .i64 r3))])] (by cbv) ?_ ?_
    · exact (hq trivial (hq (hC (laws_szRow_ac h_r3)) hq0))
    refine Run.seq ?_
    refine Run.seq ?_
    refine Run.region hL hT [] (by cbv) ?_ ?_
    · exact (hq trivial hq0)
    refine Run.cond (by cbv) (hq0) (fun c4 => ?_) (fun c4 => ?_)
    · have h := if_t c4 h
      refine Run.seq ?_
      refine Run.region hL hT [] (by cbv) ?_ ?_
      · exact hq0
      refine Run.ret ?_
      cases h
      refine ⟨_, _, by cbv, ?_, ?_⟩
      · exact LLe.r
      · exact (ALe.v LLe.r ALe.nil)
    · have h := if_f c4 h
      refine Run.skip ?_
      refine Run.seq ?_
      obtain ⟨⟨r5v_Table, r5v_Where, r5v_Order, r5v_Down, r5v_First, r5v_Show, r5v_Kids, r5v_KidTable, r5v_KidCol⟩, h_r5, h⟩ := bnd h
      obtain ⟨⟨r6v_Id, r6v_Cells⟩, h_r6, h⟩ := bnd h
      obtain ⟨⟨r7v_Kind, r7v_N, r7v_S, r7v_List_, r7v_Names⟩, h_r7, h⟩ := bnd h
      refine Run.draw hL hT hM [(1, .call [false] [.ag [.jk, .jk, .jk, .jk, .jk, .jk, .jk, .jk, .jk]] [.ag [.s (.int .i64 r5v_Table), .ow 77 (eCond_c r5v_Where), .s (.int .i64 r5v_Order), .s (.bool r5v_Down), .s (.int .i64 r5v_First), .ow 3 (eInt_c r5v_Show), .s (.bool r5v_Kids), .s (.int .i64 r5v_KidTable), .s (.int .i64 r5v_KidCol)]]), (3, .call [false] [.ag [.jk, .jk]] [.ag [.s (.int .i64 r6v_Id), .ow 3 (eInt_c r6v_Cells)]]), (5, .call [false, false, false] [.ag [.jk, .jk, .jk, .jk, .jk, .jk, .jk, .jk, .jk], .ag [.jk, .jk], .v (.jk)] [.ag [.s (.int .i64 r7v_Kind), .s (.int .i64 r7v_N), .s (.string r7v_S), .im true (eJson_k r7v_List_), .im true (eStr_c r7v_Names)]])] (by cbv) (by cbv) (by cbv) (by cbv) (by cbv) ?_ ?_
      · exact (hq trivial (hq (hC (laws_toQuery_ac h_r5)) (hq trivial (hq (hC (laws_toRow_ac h_r6)) (hq (hC (AC.args (spec_RowDoc_ac h_r7) (ALe.ag rfl (LLe.c (LLe.cons (LLe.im (RLe.eq (fr_row Cond_c_z _))) (LLe.c (LLe.c (LLe.c (LLe.cons (LLe.im (RLe.eq (fr_row Int_c_z _))) (LLe.c (LLe.c (LLe.c LLe.nil))))))))) (ALe.ag rfl (LLe.c (LLe.cons (LLe.im (RLe.eq (fr_row Int_c_z _))) LLe.nil)) (ALe.v LLe.r ALe.nil))))) (hq trivial hq0))))))
      refine Run.seq ?_
      obtain ⟨⟨r8v_Table, r8v_Where, r8v_Order, r8v_Down, r8v_First, r8v_Show, r8v_Kids, r8v_KidTable, r8v_KidCol⟩, h_r8, h⟩ := bnd h
      refine Run.region hL hT [(1, .call [false] [.ag [.jk, .jk, .jk, .jk, .jk, .jk, .jk, .jk, .jk]] [.ag [.s (.int .i64 r8v_Table), .ow 77 (eCond_c r8v_Where), .s (.int .i64 r8v_Order), .s (.bool r8v_Down), .s (.int .i64 r8v_First), .ow 3 (eInt_c r8v_Show), .s (.bool r8v_Kids), .s (.int .i64 r8v_KidTable), .s (.int .i64 r8v_KidCol)]])] (by cbv) ?_ ?_
      · exact (hq trivial (hq (hC (laws_toQuery_ac h_r8)) (hq trivial hq0)))
      refine Run.seq ?_
      obtain ⟨⟨r9v_Id, r9v_Cells⟩, h_r9, h⟩ := bnd h
      refine Run.region hL hT [(1, .call [false] [.ag [.jk, .jk]] [.ag [.s (.int .i64 r9v_Id), .ow 3 (eInt_c r9v_Cells)]])] (by cbv) ?_ ?_
      · exact (hq trivial (hq (hC (laws_toRow_ac h_r9)) (hq trivial hq0)))
      refine Run.seq ?_
      obtain ⟨⟨r10v_Kind, r10v_N, r10v_S, r10v_List_, r10v_Names⟩, h_r10, h⟩ := bnd h
      refine Run.region hL hT [(3, .call [false, false, false] [.ag [.jk, .jk, .jk, .jk, .jk, .jk, .jk, .jk, .jk], .ag [.jk, .jk], .v (.jk)] [.ag [.s (.int .i64 r10v_Kind), .s (.int .i64 r10v_N), .s (.string r10v_S), .ow 33 (eJson_o r10v_List_), .ow 9 (eStr_c r10v_Names)]])] (by cbv) ?_ ?_
      · exact (hq trivial (hq trivial (hq (hC (AC.args (impl_RowDoc_ac h_r10) (ALe.ag rfl (LLe.c (LLe.cons (LLe.im (RLe.eq (fr_row Cond_c_z _))) (LLe.c (LLe.c (LLe.c (LLe.cons (LLe.im (RLe.eq (fr_row Int_c_z _))) (LLe.c (LLe.c (LLe.c LLe.nil))))))))) (ALe.ag rfl (LLe.c (LLe.cons (LLe.im (RLe.eq (fr_row Int_c_z _))) LLe.nil)) (ALe.v LLe.r ALe.nil))))) (hq trivial hq0))))
      refine Run.seq ?_
      refine Run.seq ?_
      obtain ⟨r11, h_r11, h⟩ := bnd h
      refine Run.region hL hT [(2, .call [false, false] [.ag [.jk, .jk, .jk, .jk, .jk], .ag [.jk, .jk, .jk, .jk, .jk]] [.v (.s (.bool r11))])] (by cbv) ?_ ?_
      · exact (hq trivial (hq trivial (hq (hC (AC.args (laws_eqJson_ac h_r11) (ALe.ag rfl (LLe.c (LLe.c (LLe.c (LLe.cons (LLe.im (RLe.eq (fr_row Json_o_z _))) (LLe.cons (LLe.im (RLe.eq (fr_row Str_c_z _))) LLe.nil))))) (ALe.ag rfl (LLe.c (LLe.c (LLe.c (LLe.cons (LLe.im (Json_k_le _)) (LLe.c LLe.nil))))) ALe.nil)))) hq0)))
      refine Run.cond (by cbv) (hq0) (fun c12 => ?_) (fun c12 => ?_)
      · have h := if_t c12 h
        refine Run.seq ?_
        refine Run.region hL hT [] (by cbv) ?_ ?_
        · exact hq0
        refine Run.ret ?_
        cases h
        refine ⟨_, _, by cbv, ?_, ?_⟩
        · exact LLe.r
        · exact (ALe.v LLe.r ALe.nil)
      · have h := if_f c12 h
        refine Run.skip ?_
        refine Run.seq ?_
        refine Run.seq ?_
        obtain ⟨⟨r13v_Table, r13v_Where, r13v_Order, r13v_Down, r13v_First, r13v_Show, r13v_Kids, r13v_KidTable, r13v_KidCol⟩, h_r13, h⟩ := bnd h
        obtain ⟨r14, h_r14, h⟩ := bnd h
        refine Run.draw hL hT hM [(2, .call [false] [.ag [.jk, .jk, .jk, .jk, .jk, .jk, .jk, .jk, .jk]] [.ag [.s (.int .i64 r13v_Table), .ow 77 (eCond_c r13v_Where), .s (.int .i64 r13v_Order), .s (.bool r13v_Down), .s (.int .i64 r13v_First), .ow 3 (eInt_c r13v_Show), .s (.bool r13v_Kids), .s (.int .i64 r13v_KidTable), .s (.int .i64 r13v_KidCol)]]), (3, .call [false, false] [.ag [.jk, .jk, .jk, .jk, .jk, .jk, .jk, .jk, .jk], .ag [.jk, .jk, .jk, .jk, .jk, .jk, .jk, .jk, .jk]] [.v (.s (.bool r14))])] (by cbv) (by cbv) (by cbv) (by cbv) (by cbv) ?_ ?_
        · exact (hq trivial (hq trivial (hq (hC (laws_toQuery_ac h_r13)) (hq (hC (AC.args (laws_eqQuery_ac h_r14) (ALe.ag rfl (LLe.c (LLe.cons (LLe.im (RLe.eq (fr_row Cond_c_z _))) (LLe.c (LLe.c (LLe.c (LLe.cons (LLe.im (RLe.eq (fr_row Int_c_z _))) (LLe.c (LLe.c (LLe.c LLe.nil))))))))) (ALe.ag rfl (LLe.c (LLe.cons (LLe.im (RLe.eq (fr_row Cond_c_z _))) (LLe.c (LLe.c (LLe.c (LLe.cons (LLe.im (RLe.eq (fr_row Int_c_z _))) (LLe.c (LLe.c (LLe.c LLe.nil))))))))) ALe.nil)))) hq0))))
        refine Run.cond (by cbv) (hq0) (fun c15 => ?_) (fun c15 => ?_)
        · have h := if_t c15 h
          refine Run.seq ?_
          refine Run.region hL hT [] (by cbv) ?_ ?_
          · exact hq0
          refine Run.ret ?_
          cases h
          refine ⟨_, _, by cbv, ?_, ?_⟩
          · exact LLe.r
          · exact (ALe.v LLe.r ALe.nil)
        · have h := if_f c15 h
          refine Run.skip ?_
          refine Run.seq ?_
          refine Run.seq ?_
          obtain ⟨⟨r16v_Id, r16v_Cells⟩, h_r16, h⟩ := bnd h
          obtain ⟨r17, h_r17, h⟩ := bnd h
          refine Run.draw hL hT hM [(2, .call [false] [.ag [.jk, .jk]] [.ag [.s (.int .i64 r16v_Id), .ow 3 (eInt_c r16v_Cells)]]), (3, .call [false, false] [.ag [.jk, .jk], .ag [.jk, .jk]] [.v (.s (.bool r17))])] (by cbv) (by cbv) (by cbv) (by cbv) (by cbv) ?_ ?_
          · exact (hq trivial (hq trivial (hq (hC (laws_toRow_ac h_r16)) (hq (hC (AC.args (laws_eqRow_ac h_r17) (ALe.ag rfl (LLe.c (LLe.cons (LLe.im (RLe.eq (fr_row Int_c_z _))) LLe.nil)) (ALe.ag rfl (LLe.c (LLe.cons (LLe.im (RLe.eq (fr_row Int_c_z _))) LLe.nil)) ALe.nil)))) hq0))))
          refine Run.cond (by cbv) (hq0) (fun c18 => ?_) (fun c18 => ?_)
          · have h := if_t c18 h
            refine Run.seq ?_
            refine Run.region hL hT [] (by cbv) ?_ ?_
            · exact hq0
            refine Run.ret ?_
            cases h
            refine ⟨_, _, by cbv, ?_, ?_⟩
            · exact LLe.r
            · exact (ALe.v LLe.r ALe.nil)
          · have h := if_f c18 h
            refine Run.skip ?_
            refine Run.seq ?_
            refine Run.region hL hT [] (by cbv) ?_ ?_
            · exact hq0
            refine Run.seq ?_
            obtain ⟨⟨⟨r19v_1v_Table, r19v_1v_Where, r19v_1v_Order, r19v_1v_Down, r19v_1v_First, r19v_1v_Show, r19v_1v_Kids, r19v_1v_KidTable, r19v_1v_KidCol⟩, r19v_2⟩, h_r19, h⟩ := bnd h
            refine Run.region hL hT [(2, .call [true, false] [.ag [.jk, .ow 77 (eCond_c r19v_1v_Where), .jk, .jk, .jk, .ow 3 (eInt_c r19v_1v_Show), .jk, .jk, .jk], .v (.jk)] [.v (.s (.int .i64 r19v_2))])] (by cbv) ?_ ?_
            · exact (hq trivial (hq (hC (laws_markQuery_ac h_r19)) hq0))
            refine Run.seq ?_
            obtain ⟨⟨⟨r20v_1v_Id, r20v_1v_Cells⟩, r20v_2⟩, h_r20, h⟩ := bnd h
            refine Run.region hL hT [(2, .call [true, false] [.ag [.jk, .ow 3 (eInt_c r20v_1v_Cells)], .v (.jk)] [.v (.s (.int .i64 r20v_2))])] (by cbv) ?_ ?_
            · exact (hq trivial (hq (hC (laws_markRow_ac h_r20)) hq0))
            refine Run.seq ?_
            refine Run.seq ?_
            obtain ⟨r21, h_r21, h⟩ := bnd h
            refine Run.region hL hT [(5, .call [false, false] [.ag [.jk, .jk, .jk, .jk, .jk], .ag [.jk, .jk, .jk, .jk, .jk]] [.v (.s (.bool r21))])] (by cbv) ?_ ?_
            · exact (hq trivial (hq (fun g22 => (hq trivial hq0)) (hq (fun g23 => (hq trivial hq0)) (hq (fun g24 => (hq g24 (hq g24 (hq (hC (AC.args (laws_eqJson_ac (gd_t h_r21 g24)) (ALe.ag rfl (LLe.c (LLe.c (LLe.c (LLe.cons (LLe.im (RLe.eq (fr_row Json_o_z _))) (LLe.cons (LLe.im (RLe.eq (fr_row Str_c_z _))) LLe.nil))))) (ALe.ag rfl (LLe.c (LLe.c (LLe.c (LLe.cons (LLe.im (Json_k_le _)) (LLe.c LLe.nil))))) ALe.nil)))) hq0)))) (hq (fun g25 => (hq g25 hq0)) (hq (fun _ => hq0) (hq (fun q27 => (hq (bo_m q27) hq0)) hq0)))))))
            refine Run.cond (by cbv) (hq0) (fun c28 => ?_) (fun c28 => ?_)
            · have h := if_t c28 h
              refine Run.seq ?_
              refine Run.region hL hT [] (by cbv) ?_ ?_
              · exact hq0
              refine Run.ret ?_
              cases h
              refine ⟨_, _, by cbv, ?_, ?_⟩
              · exact LLe.r
              · exact (ALe.v LLe.r ALe.nil)
            · have h := if_f c28 h
              refine Run.skip ?_
              refine Run.seq ?_
              refine Run.region hL hT [] (by cbv) ?_ ?_
              · exact hq0
              refine Run.seq ?_
              obtain ⟨⟨⟨r29v_1v_Kind, r29v_1v_N, r29v_1v_S, r29v_1v_List_, r29v_1v_Names⟩, r29v_2⟩, h_r29, h⟩ := bnd h
              refine Run.region hL hT [(2, .call [true, false] [.ag [.jk, .jk, .jk, .ow 33 (eJson_o r29v_1v_List_), .ow 9 (eStr_c r29v_1v_Names)], .v (.jk)] [.v (.s (.int .i64 r29v_2))])] (by cbv) ?_ ?_
              · exact (hq trivial (hq (hC (laws_markJson_ac h_r29)) hq0))
              refine Run.seq ?_
              refine Run.region hL hT [] (by cbv) ?_ ?_
              · exact hq0
              refine Run.seq ?_
              obtain ⟨r30, h_r30, h⟩ := bnd h
              refine Run.region hL hT [(2, .call [false, false] [.ag [.jk, .jk, .jk, .jk, .jk], .v (.jk)] [.v (.s (.int .i64 r30))])] (by cbv) ?_ ?_
              · exact (hq trivial (hq (hC (AC.args (laws_heldJson_ac h_r30) (ALe.ag rfl (LLe.c (LLe.c (LLe.c (LLe.cons (LLe.im (RLe.eq (fr_row Json_o_z _))) (LLe.cons (LLe.im (RLe.eq (fr_row Str_c_z _))) LLe.nil))))) (ALe.v LLe.r ALe.nil)))) hq0))
              refine Run.seq ?_
              refine Run.seq ?_
              refine Run.region hL hT [] (by cbv) ?_ ?_
              · exact (hq trivial hq0)
              refine Run.cond (by cbv) (hq0) (fun c31 => ?_) (fun c31 => ?_)
              · have h := if_t c31 h
                refine Run.seq ?_
                refine Run.region hL hT [] (by cbv) ?_ ?_
                · exact hq0
                refine Run.ret ?_
                cases h
                refine ⟨_, _, by cbv, ?_, ?_⟩
                · exact LLe.r
                · exact (ALe.v LLe.r ALe.nil)
              · have h := if_f c31 h
                refine Run.skip ?_
                refine Run.seq ?_
                refine Run.seq ?_
                refine Run.region hL hT [] (by cbv) ?_ ?_
                · exact (hq trivial hq0)
                refine Run.cond (by cbv) (hq0) (fun c32 => ?_) (fun c32 => ?_)
                · have h := if_t c32 h
                  refine Run.seq ?_
                  refine Run.region hL hT [] (by cbv) ?_ ?_
                  · exact hq0
                  refine Run.ret ?_
                  cases h
                  refine ⟨_, _, by cbv, ?_, ?_⟩
                  · exact LLe.r
                  · exact (ALe.v LLe.r ALe.nil)
                · have h := if_f c32 h
                  refine Run.skip ?_
                  refine Run.seq ?_
                  obtain ⟨⟨r33v_Table, r33v_Where, r33v_Order, r33v_Down, r33v_First, r33v_Show, r33v_Kids, r33v_KidTable, r33v_KidCol⟩, h_r33, h⟩ := bnd h
                  obtain ⟨⟨r34v_Id, r34v_Cells⟩, h_r34, h⟩ := bnd h
                  obtain ⟨⟨r35v_Kind, r35v_N, r35v_S, r35v_List_, r35v_Names⟩, h_r35, h⟩ := bnd h
                  refine Run.draw hL hT hM [(1, .call [false] [.ag [.jk, .jk, .jk, .jk, .jk, .jk, .jk, .jk, .jk]] [.ag [.s (.int .i64 r33v_Table), .ow 77 (eCond_c r33v_Where), .s (.int .i64 r33v_Order), .s (.bool r33v_Down), .s (.int .i64 r33v_First), .ow 3 (eInt_c r33v_Show), .s (.bool r33v_Kids), .s (.int .i64 r33v_KidTable), .s (.int .i64 r33v_KidCol)]]), (3, .call [false] [.ag [.jk, .jk]] [.ag [.s (.int .i64 r34v_Id), .ow 3 (eInt_c r34v_Cells)]]), (5, .call [false, false, false] [.ag [.jk, .jk, .jk, .jk, .jk, .jk, .jk, .jk, .jk], .ag [.jk, .jk], .v (.jk)] [.ag [.s (.int .i64 r35v_Kind), .s (.int .i64 r35v_N), .s (.string r35v_S), .ow 33 (eJson_o r35v_List_), .ow 9 (eStr_c r35v_Names)]])] (by cbv) (by cbv) (by cbv) (by cbv) (by cbv) ?_ ?_
                  · exact (hq trivial (hq (hC (laws_toQuery_ac h_r33)) (hq trivial (hq (hC (laws_toRow_ac h_r34)) (hq (hC (AC.args (impl_RowDoc_ac h_r35) (ALe.ag rfl (LLe.c (LLe.cons (LLe.im (RLe.eq (fr_row Cond_c_z _))) (LLe.c (LLe.c (LLe.c (LLe.cons (LLe.im (RLe.eq (fr_row Int_c_z _))) (LLe.c (LLe.c (LLe.c LLe.nil))))))))) (ALe.ag rfl (LLe.c (LLe.cons (LLe.im (RLe.eq (fr_row Int_c_z _))) LLe.nil)) (ALe.v LLe.r ALe.nil))))) (hq trivial hq0))))))
                  refine Run.seq ?_
                  refine Run.seq ?_
                  obtain ⟨r36, h_r36, h⟩ := bnd h
                  refine Run.region hL hT [(2, .call [false, false] [.ag [.jk, .jk, .jk, .jk, .jk], .ag [.jk, .jk, .jk, .jk, .jk]] [.v (.s (.bool r36))])] (by cbv) ?_ ?_
                  · exact (hq trivial (hq trivial (hq (hC (AC.args (laws_eqJson_ac h_r36) (ALe.ag rfl (LLe.c (LLe.c (LLe.c (LLe.cons (LLe.im (RLe.eq (fr_row Json_o_z _))) (LLe.cons (LLe.im (RLe.eq (fr_row Str_c_z _))) LLe.nil))))) (ALe.ag rfl (LLe.c (LLe.c (LLe.c (LLe.cons (LLe.im (Json_k_le _)) (LLe.c LLe.nil))))) ALe.nil)))) hq0)))
                  refine Run.cond (by cbv) (hq0) (fun c37 => ?_) (fun c37 => ?_)
                  · have h := if_t c37 h
                    refine Run.seq ?_
                    refine Run.region hL hT [] (by cbv) ?_ ?_
                    · exact hq0
                    refine Run.ret ?_
                    cases h
                    refine ⟨_, _, by cbv, ?_, ?_⟩
                    · exact LLe.r
                    · exact (ALe.v LLe.r ALe.nil)
                  · have h := if_f c37 h
                    refine Run.skip ?_
                    refine Run.seq ?_
                    refine Run.region hL hT [] (by cbv) ?_ ?_
                    · exact hq0
                    refine Run.seq ?_
                    obtain ⟨r38, h_r38, h⟩ := bnd h
                    refine Run.region hL hT [(2, .call [false, false] [.ag [.jk, .jk, .jk, .jk, .jk], .v (.jk)] [.v (.s (.int .i64 r38))])] (by cbv) ?_ ?_
                    · exact (hq trivial (hq (hC (AC.args (laws_heldJson_ac h_r38) (ALe.ag rfl (LLe.c (LLe.c (LLe.c (LLe.cons (LLe.im (RLe.eq (fr_row Json_o_z _))) (LLe.cons (LLe.im (RLe.eq (fr_row Str_c_z _))) LLe.nil))))) (ALe.v LLe.r ALe.nil)))) hq0))
                    refine Run.seq ?_
                    refine Run.seq ?_
                    refine Run.region hL hT [] (by cbv) ?_ ?_
                    · exact (hq trivial hq0)
                    refine Run.cond (by cbv) (hq0) (fun c39 => ?_) (fun c39 => ?_)
                    · have h := if_t c39 h
                      refine Run.seq ?_
                      refine Run.region hL hT [] (by cbv) ?_ ?_
                      · exact hq0
                      refine Run.ret ?_
                      cases h
                      refine ⟨_, _, by cbv, ?_, ?_⟩
                      · exact LLe.r
                      · exact (ALe.v LLe.r ALe.nil)
                    · have h := if_f c39 h
                      refine Run.skip ?_
                      refine Run.seq ?_
                      refine Run.seq ?_
                      refine Run.region hL hT [] (by cbv) ?_ ?_
                      · exact (hq trivial hq0)
                      refine Run.cond (by cbv) (hq0) (fun c40 => ?_) (fun c40 => ?_)
                      · have h := if_t c40 h
                        refine Run.seq ?_
                        refine Run.region hL hT [] (by cbv) ?_ ?_
                        · exact hq0
                        refine Run.ret ?_
                        cases h
                        refine ⟨_, _, by cbv, ?_, ?_⟩
                        · exact LLe.r
                        · exact (ALe.v LLe.r ALe.nil)
                      · have h := if_f c40 h
                        refine Run.skip ?_
                        refine Run.seq ?_
                        refine Run.region hL hT [] (by cbv) ?_ ?_
                        · exact hq0
                        refine Run.ret ?_
                        cases h
                        refine ⟨_, _, by cbv, ?_, ?_⟩
                        · exact LLe.r
                        · exact (ALe.v LLe.r ALe.nil)


end Go.Proofs.YthklhdakkenklaaDoor.L
