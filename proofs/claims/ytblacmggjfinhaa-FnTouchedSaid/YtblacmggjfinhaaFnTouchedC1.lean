/- The contracts of the program's functions. -/
import Derived.Test.YtblacmggjfinhaaProg
import Derived.Test.YtblacmggjfinhaaFnTouchedC0
import Derived.KernelRfl
namespace Go.Proofs.Ytblacmggjfinhaa.L
open Go Go.Proofs
set_option linter.unusedVariables false
set_option linter.unusedSimpArgs false
set_option maxRecDepth 8000 in
theorem spec_MutDo_ac {a0v_Schemav_Cols : List Int} {a0v_Version : Int} {a0v_Tables : List (List Row)} {a1v_Kind : Int} {a1v_Table : Int} {a1v_Rowv_Id : Int} {a1v_Rowv_Cells : List Int} {r : Store × Change × Bool} (h : spec_MutDo.f (Store.mk (Schema.mk a0v_Schemav_Cols) a0v_Version a0v_Tables) (Mut.mk a1v_Kind a1v_Table (Row.mk a1v_Rowv_Id a1v_Rowv_Cells)) = some r) : AC Try.prog 86 [.ag [.im false (rowsOf Int_c a0v_Schemav_Cols), .s (.int .i64 a0v_Version), .im false (rowsOf RowS_i a0v_Tables)], .ag [.s (.int .i64 a1v_Kind), .s (.int .i64 a1v_Table), .s (.int .i64 a1v_Rowv_Id), .im false (rowsOf Int_c a1v_Rowv_Cells)]] [.ag [.jk, .jk, .jk], .ag [.jk, .jk, .jk, .jk]] [.ag [.ow 3 (rowsOf Int_c r.1.Schema.Cols), .s (.int .i64 r.1.Version), .ow 46 (rowsOf RowS_o r.1.Tables)], .ag [.s (.int .i64 r.2.1.Table), .s (.bool r.2.1.Had), .s (.bool r.2.1.Has), .s (.int .i64 r.2.1.Old.Id), .ow 3 (rowsOf Int_c r.2.1.Old.Cells), .s (.int .i64 r.2.1.New.Id), .ow 3 (rowsOf Int_c r.2.1.New.Cells)], .v (.s (.bool r.2.2))] := by
  unfold spec_MutDo.f at h
  let ar := Ls.ar; let cm := Ls.cm; let bo := Ls.bo; let sc := Ls.sc; let sa := Ls.sa; let sx := Ls.sx; let ss := Ls.ss; let sl := Ls.sl; let bs := Ls.bs; let sb := Ls.sb; let ln := Ls.ln; let sr := Ls.sr; let ap := Ls.ap; let up := Ls.up; let rp := Ls.rp; let fr := Ls.fr; let ge := Ls.ge; let le := Ls.le; let lt := Ls.lt; let nz := Ls.nz; let mm := Ls.mm; let ma := Ls.ma; let sm := Ls.sm; let fl := Ls.fl; let al := Ls.al; let ci := Ls.ci
  let eInt_c := rowsOf Int_c
  let eRowS_i := rowsOf RowS_i
  let eRowS_o := rowsOf RowS_o
  have hL : (⟨ar, cm, bo, sc, sa, sx, ss, sl, bs, sb, ln, sr, ap, up, rp, fr, ge, le, lt, nz, mm, ma, sm, fl, al, ci⟩ : Lf) = Ls := rfl
  show AC Try.prog 86 [.ag [.im false (eInt_c a0v_Schemav_Cols), .s (.int .i64 a0v_Version), .im false (eRowS_i a0v_Tables)], .ag [.s (.int .i64 a1v_Kind), .s (.int .i64 a1v_Table), .s (.int .i64 a1v_Rowv_Id), .im false (eInt_c a1v_Rowv_Cells)]] _ _
  refine AC.of_run2 tab_ok Try.func86 (by rfl) (by rfl) (by cbv) ⟨by decide, rfl⟩ fun F hP hA => ?_
  have hT : TabOk F.P tab := hP ▸ tab_ok
  have hM : F.P.follows .mixedOrders = true := hP ▸ mixed
  have hC : ∀ {f a o r}, AC Try.prog f a o r → AC F.P f a o r := fun h => hP ▸ h
  refine Run.seq ?_
  refine Run.region hL hT [] (by cbv) ?_ ?_
  · exact hq0
  refine Run.seq ?_
  refine Run.seq ?_
  obtain ⟨r1, h_r1, h⟩ := bnd h
  refine Run.region hL hT [(1, .call [false] [.ag [.jk, .jk, .jk]] [.v (.s (.bool r1))])] (by cbv) ?_ ?_
  · exact (hq trivial (hq (hC (spec_StoreOk_ac h_r1)) hq0))
  refine Run.cond (by cbv) (hq0) (fun c2 => ?_) (fun c2 => ?_)
  · have h := if_t c2 h
    refine Run.seq ?_
    refine Run.region hL hT [] (by cbv) ?_ ?_
    · exact (hq trivial (hq trivial hq0))
    refine Run.ret ?_
    cases h
    refine ⟨_, _, by cbv, ?_, ?_⟩
    · exact LLe.r
    · exact (ALe.ag rfl (LLe.cons LLe.nilO (LLe.c (LLe.cons LLe.nilO LLe.nil))) (ALe.ag rfl (LLe.c (LLe.c (LLe.c (LLe.c (LLe.cons LLe.nilO (LLe.c (LLe.cons LLe.nilO LLe.nil))))))) (ALe.v LLe.r ALe.nil)))
  · have h := if_f c2 h
    refine Run.skip ?_
    refine Run.seq ?_
    refine Run.seq ?_
    obtain ⟨r3, h_r3, h⟩ := bnd h
    refine Run.region hL hT [(3, .call [false, false] [.ag [.jk], .ag [.jk, .jk, .jk, .jk]] [.v (.s (.bool r3))])] (by cbv) ?_ ?_
    · exact (hq trivial (hq trivial (hq (hC (spec_MutOk_ac h_r3)) hq0)))
    refine Run.cond (by cbv) (hq0) (fun c4 => ?_) (fun c4 => ?_)
    · have h := if_t c4 h
      refine Run.seq ?_
      obtain ⟨⟨⟨r5v_Schemav_Cols⟩, r5v_Version, r5v_Tables⟩, h_r5, h⟩ := bnd h
      refine Run.region hL hT [(1, .call [false] [.ag [.jk, .jk, .jk]] [.ag [.ow 3 (eInt_c r5v_Schemav_Cols), .s (.int .i64 r5v_Version), .ow 46 (eRowS_o r5v_Tables)]])] (by cbv) ?_ ?_
      · exact (hq trivial (hq (hC (spec_l7Copy_ac h_r5)) (hq trivial (hq trivial hq0))))
      refine Run.ret ?_
      cases h
      refine ⟨_, _, by cbv, ?_, ?_⟩
      · exact LLe.r
      · exact (ALe.ag rfl LLe.r (ALe.ag rfl (LLe.c (LLe.c (LLe.c (LLe.c (LLe.cons LLe.nilO (LLe.c (LLe.cons LLe.nilO LLe.nil))))))) (ALe.v LLe.r ALe.nil)))
    · have h := if_f c4 h
      refine Run.skip ?_
      refine Run.seq ?_
      obtain ⟨⟨⟨r6v_Schemav_Cols⟩, r6v_Version, r6v_Tables⟩, h_r6, h⟩ := bnd h
      obtain ⟨⟨⟨⟨r7v_1v_Schemav_Cols⟩, r7v_1v_Version, r7v_1v_Tables⟩, ⟨r7v_2v_1v_Table, r7v_2v_1v_Had, r7v_2v_1v_Has, ⟨r7v_2v_1v_Oldv_Id, r7v_2v_1v_Oldv_Cells⟩, ⟨r7v_2v_1v_Newv_Id, r7v_2v_1v_Newv_Cells⟩⟩, r7v_2v_2⟩, h_r7, h⟩ := bnd h
      refine Run.draw hL hT hM [(1, .call [false] [.ag [.jk, .jk, .jk]] [.ag [.ow 3 (eInt_c r6v_Schemav_Cols), .s (.int .i64 r6v_Version), .ow 46 (eRowS_o r6v_Tables)]]), (3, .call [true, false] [.ag [.jk, .jk, .jk], .ag [.jk, .jk, .jk, .jk]] [.ag [.ow 3 (eInt_c r7v_1v_Schemav_Cols), .s (.int .i64 r7v_1v_Version), .ow 46 (eRowS_o r7v_1v_Tables)], .ag [.s (.int .i64 r7v_2v_1v_Table), .s (.bool r7v_2v_1v_Had), .s (.bool r7v_2v_1v_Has), .s (.int .i64 r7v_2v_1v_Oldv_Id), .ow 3 (eInt_c r7v_2v_1v_Oldv_Cells), .s (.int .i64 r7v_2v_1v_Newv_Id), .ow 3 (eInt_c r7v_2v_1v_Newv_Cells)], .v (.s (.bool r7v_2v_2))])] (by cbv) (by cbv) (by cbv) (by cbv) (by cbv) ?_ ?_
      · exact (hq trivial (hq (hC (spec_l7Copy_ac h_r6)) (hq trivial (hq (hC (spec_l7Do_ac h_r7)) (hq trivial (hq trivial hq0))))))
      refine Run.seq ?_
      refine Run.seq ?_
      refine Run.region hL hT [] (by cbv) ?_ ?_
      · exact hq0
      refine Run.cond (by cbv) (hq0) (fun c8 => ?_) (fun c8 => ?_)
      · have h := if_t c8 h
        refine Run.seq ?_
        obtain ⟨⟨⟨r9v_Schemav_Cols⟩, r9v_Version, r9v_Tables⟩, h_r9, h⟩ := bnd h
        refine Run.region hL hT [(1, .call [false] [.ag [.jk, .jk, .jk]] [.ag [.ow 3 (eInt_c r9v_Schemav_Cols), .s (.int .i64 r9v_Version), .ow 46 (eRowS_o r9v_Tables)]])] (by cbv) ?_ ?_
        · exact (hq trivial (hq (hC (spec_l7Copy_ac h_r9)) (hq trivial (hq trivial hq0))))
        refine Run.ret ?_
        cases h
        refine ⟨_, _, by cbv, ?_, ?_⟩
        · exact LLe.r
        · exact (ALe.ag rfl LLe.r (ALe.ag rfl (LLe.c (LLe.c (LLe.c (LLe.c (LLe.cons LLe.nilO (LLe.c (LLe.cons LLe.nilO LLe.nil))))))) (ALe.v LLe.r ALe.nil)))
      · have h := if_f c8 h
        refine Run.skip ?_
        refine Run.seq ?_
        refine Run.draw hL hT hM [] (by cbv) (by cbv) (by cbv) (by cbv) (by cbv) ?_ ?_
        · exact (hq trivial (hq trivial (hq trivial (hq trivial hq0))))
        refine Run.ret ?_
        cases h
        refine ⟨_, _, by cbv, ?_, ?_⟩
        · exact LLe.r
        · exact (ALe.ag rfl LLe.r (ALe.ag rfl LLe.r (ALe.v LLe.r ALe.nil)))

set_option maxRecDepth 8000 in
theorem spec_BatchDo_ac {a0v_Schemav_Cols : List Int} {a0v_Version : Int} {a0v_Tables : List (List Row)} {a1 : List Mut} {r : Store × (List Change) × Bool} (h : spec_BatchDo.f (Store.mk (Schema.mk a0v_Schemav_Cols) a0v_Version a0v_Tables) a1 = some r) : AC Try.prog 47 [.ag [.im false (rowsOf Int_c a0v_Schemav_Cols), .s (.int .i64 a0v_Version), .im false (rowsOf RowS_i a0v_Tables)], .v (.im false (rowsOf Mut_i a1))] [.ag [.jk, .jk, .jk], .v (.jk)] [.ag [.ow 3 (rowsOf Int_c r.1.Schema.Cols), .s (.int .i64 r.1.Version), .ow 46 (rowsOf RowS_o r.1.Tables)], .v (.ow 31 (rowsOf Change_o r.2.1)), .v (.s (.bool r.2.2))] := by
  unfold spec_BatchDo.f at h
  let ar := Ls.ar; let cm := Ls.cm; let bo := Ls.bo; let sc := Ls.sc; let sa := Ls.sa; let sx := Ls.sx; let ss := Ls.ss; let sl := Ls.sl; let bs := Ls.bs; let sb := Ls.sb; let ln := Ls.ln; let sr := Ls.sr; let ap := Ls.ap; let up := Ls.up; let rp := Ls.rp; let fr := Ls.fr; let ge := Ls.ge; let le := Ls.le; let lt := Ls.lt; let nz := Ls.nz; let mm := Ls.mm; let ma := Ls.ma; let sm := Ls.sm; let fl := Ls.fl; let al := Ls.al; let ci := Ls.ci
  let eChange_o := rowsOf Change_o
  let eInt_c := rowsOf Int_c
  let eMut_i := rowsOf Mut_i
  let eRowS_i := rowsOf RowS_i
  let eRowS_o := rowsOf RowS_o
  let lenI_Mut := @lenI Mut
  have hL : (⟨ar, cm, bo, sc, sa, sx, ss, sl, bs, sb, ln, sr, ap, up, rp, fr, ge, le, lt, nz, mm, ma, sm, fl, al, ci⟩ : Lf) = Ls := rfl
  show AC Try.prog 47 [.ag [.im false (eInt_c a0v_Schemav_Cols), .s (.int .i64 a0v_Version), .im false (eRowS_i a0v_Tables)], .v (.im false (eMut_i a1))] _ _
  refine AC.of_run2 tab_ok Try.func47 (by rfl) (by rfl) (by cbv) ⟨by decide, rfl⟩ fun F hP hA => ?_
  have hT : TabOk F.P tab := hP ▸ tab_ok
  have hM : F.P.follows .mixedOrders = true := hP ▸ mixed
  have hC : ∀ {f a o r}, AC Try.prog f a o r → AC F.P f a o r := fun h => hP ▸ h
  refine Run.seq ?_
  refine Run.region hL hT [] (by cbv) ?_ ?_
  · exact hq0
  refine Run.seq ?_
  refine Run.region hL hT [] (by cbv) ?_ ?_
  · exact hq0
  refine Run.seq ?_
  refine Run.seq ?_
  obtain ⟨r1, h_r1, h⟩ := bnd h
  refine Run.region hL hT [(1, .call [false] [.ag [.jk, .jk, .jk]] [.v (.s (.bool r1))])] (by cbv) ?_ ?_
  · exact (hq trivial (hq (hC (spec_StoreOk_ac h_r1)) hq0))
  refine Run.cond (by cbv) (hq0) (fun c2 => ?_) (fun c2 => ?_)
  · have h := if_t c2 h
    refine Run.seq ?_
    refine Run.region hL hT [] (by cbv) ?_ ?_
    · exact (hq trivial hq0)
    refine Run.ret ?_
    cases h
    refine ⟨_, _, by cbv, ?_, ?_⟩
    · exact LLe.r
    · exact (ALe.ag rfl (LLe.cons LLe.nilO (LLe.c (LLe.cons LLe.nilO LLe.nil))) (ALe.v LLe.r (ALe.v LLe.r ALe.nil)))
  · have h := if_f c2 h
    refine Run.skip ?_
    refine Run.seq ?_
    refine Run.seq ?_
    obtain ⟨r3, h_r3, h⟩ := bnd h
    refine Run.region hL hT [(2, .call [false, false, false] [.v (.jk), .v (.jk), .v (.jk)] [.v (.s (.bool r3))])] (by cbv) ?_ ?_
    · exact (hq (by rw [show ln (eMut_i a1) = lenI_Mut a1 from ln_eq Mut_i _]; exact (hC (spec_l1In_ac h_r3))) (hq (fun _ => hq0) (hq (fun g5 => (hq g5 (hq trivial hq0))) (hq (fun g6 => (hq g6 (hq trivial hq0))) (hq (fun _ => hq0) (hq (fun q8 => (hq (bo_m q8) hq0)) hq0))))))
    rw [show ln (eMut_i a1) = lenI_Mut a1 from ln_eq Mut_i _]
    refine Run.cond (by cbv) (hq0) (fun c9 => ?_) (fun c9 => ?_)
    · have h := if_t c9 h
      refine Run.seq ?_
      obtain ⟨⟨⟨r10v_Schemav_Cols⟩, r10v_Version, r10v_Tables⟩, h_r10, h⟩ := bnd h
      refine Run.region hL hT [(1, .call [false] [.ag [.jk, .jk, .jk]] [.ag [.ow 3 (eInt_c r10v_Schemav_Cols), .s (.int .i64 r10v_Version), .ow 46 (eRowS_o r10v_Tables)]])] (by cbv) ?_ ?_
      · exact (hq trivial (hq (hC (spec_l7Copy_ac h_r10)) (hq trivial hq0)))
      refine Run.ret ?_
      cases h
      refine ⟨_, _, by cbv, ?_, ?_⟩
      · exact LLe.r
      · exact (ALe.ag rfl LLe.r (ALe.v LLe.r (ALe.v LLe.r ALe.nil)))
    · have h := if_f c9 h
      refine Run.skip ?_
      refine Run.seq ?_
      obtain ⟨⟨⟨r11v_Schemav_Cols⟩, r11v_Version, r11v_Tables⟩, h_r11, h⟩ := bnd h
      refine Run.region hL hT [(1, .call [false] [.ag [.jk, .jk, .jk]] [.ag [.ow 3 (eInt_c r11v_Schemav_Cols), .s (.int .i64 r11v_Version), .ow 46 (eRowS_o r11v_Tables)]])] (by cbv) ?_ ?_
      · exact (hq trivial (hq (hC (spec_l7Copy_ac h_r11)) (hq trivial hq0)))
      refine Run.seq ?_
      refine Run.region hL hT [] (by cbv) ?_ ?_
      · exact hq0
      refine Run.seq ?_
      refine Run.seq ?_
      refine Run.region hL hT [] (by cbv) ?_ ?_
      · exact hq0
      refine Run.block ?_
      refine Run.loop5 (fun (z23 : List Int) (z24 : Int) (z25 : List (List Row)) (z26 : List Change) (z27 : Int) => ⟨67, 100000, [(1, .t (.im false (eMut_i a1))), (2, .pt 1 0 0), (4, .pt 2 0 0), (7, .rf 3), (8, .pt 4 0 0), (9, .rf 7), (10, .t (.s (.int .i64 z27)))], [(1, .box 62 [.t (.im false (eInt_c a0v_Schemav_Cols)), .t (.s (.int .i64 a0v_Version)), .t (.im false (eRowS_i a0v_Tables))]), (2, .box 62 [.t (.s (.slice none 0 0)), .t (.s (.int .i64 0)), .t (.s (.slice none 0 0))]), (3, .row 0 31 7 (eChange_o [])), (4, .box 62 [.rf 5, .t (.s (.int .i64 z24)), .rf 6]), (5, .row 0 3 1 (eInt_c z23)), (6, .row 0 46 1 (eRowS_o z25)), (7, .row 0 31 7 (eChange_o z26))]⟩) (x0 := r11v_Schemav_Cols) (x1 := r11v_Version) (x2 := r11v_Tables) (x3 := []) (x4 := 0) h (Weak.of _ [(1, 0), (2, 1), (3, 4096), (4, 16386), (5, 16385), (6, 16641), (7, 20480)] hA (by cbv) ?_) (fun _ _ _ _ _ => rfl) ?_
      · repeat (first | exact hq0 | refine hq (by first | exact True.intro | rfl) ?_)
      · intro k z23 z24 z25 z26 z27 h
        rw [spec_BatchDo.l0] at h
        refine Run.seq ?_
        refine Run.seq ?_
        refine Run.region hL hT [] (by cbv) ?_ ?_
        · exact (hq trivial hq0)
        rw [show ln (eMut_i a1) = lenI_Mut a1 from ln_eq Mut_i _]
        refine Run.cond (by cbv) (hq0) (fun c28 => ?_) (fun c28 => ?_)
        · have h := if_t c28 h
          refine Run.skip ?_
          refine Run.seq ?_
          refine Run.block ?_
          refine Run.seq ?_
          obtain ⟨⟨x29v_Kind, x29v_Table, ⟨x29v_Rowv_Id, x29v_Rowv_Cells⟩⟩, h_x29, h⟩ := bnd h
          obtain ⟨⟨⟨⟨r30v_1v_Schemav_Cols⟩, r30v_1v_Version, r30v_1v_Tables⟩, ⟨r30v_2v_1v_Table, r30v_2v_1v_Had, r30v_2v_1v_Has, ⟨r30v_2v_1v_Oldv_Id, r30v_2v_1v_Oldv_Cells⟩, ⟨r30v_2v_1v_Newv_Id, r30v_2v_1v_Newv_Cells⟩⟩, r30v_2v_2⟩, h_r30, h⟩ := bnd h
          refine Run.draw hL hT hM [(3, .el [.s (.int .i64 x29v_Kind), .s (.int .i64 x29v_Table), .s (.int .i64 x29v_Rowv_Id), .im false (eInt_c x29v_Rowv_Cells)]), (5, .call [false, false] [.ag [.jk, .jk, .jk], .ag [.jk, .jk, .jk, .jk]] [.ag [.ow 3 (eInt_c r30v_1v_Schemav_Cols), .s (.int .i64 r30v_1v_Version), .ow 46 (eRowS_o r30v_1v_Tables)], .ag [.s (.int .i64 r30v_2v_1v_Table), .s (.bool r30v_2v_1v_Had), .s (.bool r30v_2v_1v_Has), .s (.int .i64 r30v_2v_1v_Oldv_Id), .ow 3 (eInt_c r30v_2v_1v_Oldv_Cells), .s (.int .i64 r30v_2v_1v_Newv_Id), .ow 3 (eInt_c r30v_2v_1v_Newv_Cells)], .v (.s (.bool r30v_2v_2))])] (by cbv) (by cbv) (by cbv) (by cbv) (by cbv) ?_ ?_
          · exact (hq trivial (hq (get_le h_x29) (hq (get_lt (f := Mut_i) h_x29) (hq (get_ge (f := Mut_i) h_x29) (hq (hC (AC.args (spec_MutDo_ac h_r30) (ALe.ag rfl (LLe.cons (LLe.im (RLe.eq (fr_row Int_c_z _))) (LLe.c (LLe.cons (LLe.im (RLe.eq (fr_row RowS_o_z _))) LLe.nil))) (ALe.ag rfl LLe.r ALe.nil)))) (hq trivial (hq trivial hq0)))))))
          refine Run.seq ?_
          refine Run.seq ?_
          refine Run.region hL hT [] (by cbv) ?_ ?_
          · exact hq0
          refine Run.cond (by cbv) (hq0) (fun c31 => ?_) (fun c31 => ?_)
          · have h := if_t c31 h
            refine Run.seq ?_
            obtain ⟨⟨⟨r32v_Schemav_Cols⟩, r32v_Version, r32v_Tables⟩, h_r32, h⟩ := bnd h
            refine Run.region hL hT [(1, .call [false] [.ag [.jk, .jk, .jk]] [.ag [.ow 3 (eInt_c r32v_Schemav_Cols), .s (.int .i64 r32v_Version), .ow 46 (eRowS_o r32v_Tables)]])] (by cbv) ?_ ?_
            · exact (hq trivial (hq (hC (spec_l7Copy_ac h_r32)) (hq trivial hq0)))
            refine Run.ret ?_
            cases h
            refine ⟨_, _, by cbv, ?_, ?_⟩
            · exact LLe.r
            · exact (ALe.ag rfl LLe.r (ALe.v LLe.r (ALe.v LLe.r ALe.nil)))
          · have h := if_f c31 h
            refine Run.skip ?_
            refine Run.seq ?_
            refine Run.region hL hT [] (by cbv) ?_ ?_
            · exact (hq trivial (hq trivial hq0))
            obtain ⟨l33, h_l33, h⟩ := bnd h
            obtain ⟨l34, h_l34, h⟩ := bnd h
            refine Run.region hL hT [] (by cbv) ?_ ?_
            · exact (hq trivial (hq (app_mb (P := Try.prog) (f := Change_o) RLe.r (some_le (f := Change_o) h_l33 (RLe.cons rfl LLe.r RLe.nil)) h_l34) hq0))
            refine Run.row (rows := (ap (eChange_o z26) ([[.s (.int .i64 r30v_2v_1v_Table), .s (.bool r30v_2v_1v_Had), .s (.bool r30v_2v_1v_Has), .s (.int .i64 r30v_2v_1v_Oldv_Id), .ow 3 (eInt_c r30v_2v_1v_Oldv_Cells), .s (.int .i64 r30v_2v_1v_Newv_Id), .ow 3 (eInt_c r30v_2v_1v_Newv_Cells)]]))) 116387 (eChange_o l34) (by cbv) (app_le (f := Change_o) RLe.r (some_le (f := Change_o) h_l33 (RLe.cons rfl LLe.r RLe.nil)) h_l34) ?_
            refine Run.region hL hT [] (by cbv) ?_ ?_
            · exact (hq trivial hq0)
            refine ⟨r30v_1v_Schemav_Cols, r30v_1v_Version, r30v_1v_Tables, l34, (ar .add .i64 z27 1), h, Weak.of _ [(1, 1), (2, 2), (3, 3), (4, 4), (5, 104101), (6, 104357), (7, 116387)] hA (by cbv) ?_⟩
            repeat (first | exact hq0 | refine hq (by first | exact True.intro | rfl) ?_)
        · have h := if_f c28 h
          refine Run.exit ?_
          refine Run.seq ?_
          refine Run.region hL hT [] (by cbv) ?_ ?_
          · exact (hq trivial (hq trivial (hq trivial hq0)))
          refine Run.seq ?_
          refine Run.region hL hT [] (by cbv) ?_ ?_
          · exact (hq trivial (hq trivial hq0))
          refine Run.ret ?_
          cases h
          refine ⟨_, _, by cbv, ?_, ?_⟩
          · exact LLe.r
          · exact (ALe.ag rfl LLe.r (ALe.v LLe.r (ALe.v LLe.r ALe.nil)))

set_option maxRecDepth 8000 in
theorem spec_l7DrawMut_ac {a0v_b : List Int} {a0v_i : Int} {a0v_h : Int} {a1v_Schemav_Cols : List Int} {a1v_Version : Int} {a1v_Tables : List (List Row)} {r : l1Cur × Mut} (h : spec_l7DrawMut.f (l1Cur.mk a0v_b a0v_i a0v_h) (Store.mk (Schema.mk a1v_Schemav_Cols) a1v_Version a1v_Tables) = some r) : AC Try.prog 87 [.v (.bx 82 [.im true (rowsOf u8_c a0v_b), .s (.int .i64 a0v_i), .s (.int .i64 a0v_h)]), .ag [.im false (rowsOf Int_c a1v_Schemav_Cols), .s (.int .i64 a1v_Version), .im false (rowsOf RowS_i a1v_Tables)]] [.v (.bx 82 [.im true (rowsOf u8_c a0v_b), .s (.int .i64 r.1.i), .s (.int .i64 r.1.h)]), .ag [.jk, .jk, .jk]] [.ag [.s (.int .i64 r.2.Kind), .s (.int .i64 r.2.Table), .s (.int .i64 r.2.Row.Id), .ow 3 (rowsOf Int_c r.2.Row.Cells)]] := by
  unfold spec_l7DrawMut.f at h
  let ar := Ls.ar; let cm := Ls.cm; let bo := Ls.bo; let sc := Ls.sc; let sa := Ls.sa; let sx := Ls.sx; let ss := Ls.ss; let sl := Ls.sl; let bs := Ls.bs; let sb := Ls.sb; let ln := Ls.ln; let sr := Ls.sr; let ap := Ls.ap; let up := Ls.up; let rp := Ls.rp; let fr := Ls.fr; let ge := Ls.ge; let le := Ls.le; let lt := Ls.lt; let nz := Ls.nz; let mm := Ls.mm; let ma := Ls.ma; let sm := Ls.sm; let fl := Ls.fl; let al := Ls.al; let ci := Ls.ci
  let eInt_c := rowsOf Int_c
  let eRowS_i := rowsOf RowS_i
  let eRow_i := rowsOf Row_i
  let eu8_c := rowsOf u8_c
  let lenI_Int := @lenI Int
  let lenI_Row := @lenI Row
  let lenI_RowS := @lenI (List Row)
  have hL : (⟨ar, cm, bo, sc, sa, sx, ss, sl, bs, sb, ln, sr, ap, up, rp, fr, ge, le, lt, nz, mm, ma, sm, fl, al, ci⟩ : Lf) = Ls := rfl
  show AC Try.prog 87 [.v (.bx 82 [.im true (eu8_c a0v_b), .s (.int .i64 a0v_i), .s (.int .i64 a0v_h)]), .ag [.im false (eInt_c a1v_Schemav_Cols), .s (.int .i64 a1v_Version), .im false (eRowS_i a1v_Tables)]] _ _
  refine AC.of_run2 tab_ok Try.func87 (by rfl) (by rfl) (by cbv) ⟨by decide, rfl⟩ fun F hP hA => ?_
  have hT : TabOk F.P tab := hP ▸ tab_ok
  have hM : F.P.follows .mixedOrders = true := hP ▸ mixed
  have hC : ∀ {f a o r}, AC Try.prog f a o r → AC F.P f a o r := fun h => hP ▸ h
  refine Run.seq ?_
  refine Run.region hL hT [] (by cbv) ?_ ?_
  · exact hq0
  refine Run.seq ?_
  obtain ⟨r1, h_r1, h⟩ := bnd h
  obtain ⟨⟨⟨r2v_1v_b, r2v_1v_i, r2v_1v_h⟩, r2v_2⟩, h_r2, h⟩ := bnd h
  refine Run.region hL hT [(4, .call [false, false] [.v (.jk), .v (.jk)] [.v (.s (.int .i64 r1))]), (5, .call [true, false] [.v (.bx 82 [.im true (eu8_c a0v_b), .s (.int .i64 r2v_1v_i), .s (.int .i64 r2v_1v_h)]), .v (.jk)] [.v (.s (.int .i64 r2v_2))])] (by cbv) ?_ ?_
  · exact (hq trivial (hq (by rw [show ln (eRowS_i a1v_Tables) = lenI_RowS a1v_Tables from ln_eq RowS_i _]; exact (hC (spec_l1Max_ac h_r1))) (hq (hC (spec_l1Below_ac h_r2)) hq0)))
  rw [show ln (eRowS_i a1v_Tables) = lenI_RowS a1v_Tables from ln_eq RowS_i _]
  refine Run.seq ?_
  refine Run.seq ?_
  refine Run.region hL hT [] (by cbv) ?_ ?_
  · exact (hq trivial (hq trivial (hq (fun _ => hq0) (hq (fun _ => hq0) (hq (fun g5 => (by have g5C := g5; rw [show ln (eRowS_i a1v_Tables) = lenI_RowS a1v_Tables from ln_eq RowS_i _] at g5C; exact (hq g5 hq0))) (hq (fun g6 => (by have g6C := g6; rw [show ln (eRowS_i a1v_Tables) = lenI_RowS a1v_Tables from ln_eq RowS_i _] at g6C; exact (hq g6 (hq trivial hq0)))) (hq (fun g7 => (by have g7C := g7; rw [show ln (eRowS_i a1v_Tables) = lenI_RowS a1v_Tables from ln_eq RowS_i _] at g7C; exact (hq g7 hq0))) (hq (fun g8 => (by have g8C := g8; rw [show ln (eRowS_i a1v_Tables) = lenI_RowS a1v_Tables from ln_eq RowS_i _] at g8C; exact (hq g8 (hq g8 (hq trivial hq0))))) (hq (fun _ => hq0) (hq (fun q10 => (by have q10C := q10; rw [show ln (eRowS_i a1v_Tables) = lenI_RowS a1v_Tables from ln_eq RowS_i _] at q10C; exact (hq (bo_m q10) hq0))) hq0))))))))))
  rw [show ln (eInt_c a1v_Schemav_Cols) = lenI_Int a1v_Schemav_Cols from ln_eq Int_c _]
  rw [show ln (eRowS_i a1v_Tables) = lenI_RowS a1v_Tables from ln_eq RowS_i _]
  refine Run.cond (by cbv) (hq0) (fun c11 => ?_) (fun c11 => ?_)
  · have h := if_t c11 h
    refine Run.seq ?_
    refine Run.region hL hT [] (by cbv) ?_ ?_
    · exact (hq trivial hq0)
    refine Run.ret ?_
    cases h
    refine ⟨_, _, by cbv, ?_, ?_⟩
    · exact LLe.r
    · exact (ALe.ag rfl (LLe.c (LLe.c (LLe.c (LLe.cons LLe.nilO LLe.nil)))) ALe.nil)
  · have h := if_f c11 h
    refine Run.skip ?_
    refine Run.seq ?_
    obtain ⟨⟨⟨r12v_1v_b, r12v_1v_i, r12v_1v_h⟩, r12v_2⟩, h_r12, h⟩ := bnd h
    obtain ⟨x13, h_x13, h⟩ := bnd h
    obtain ⟨⟨⟨r14v_1v_b, r14v_1v_i, r14v_1v_h⟩, ⟨r14v_2v_Id, r14v_2v_Cells⟩⟩, h_r14, h⟩ := bnd h
    refine Run.draw hL hT hM [(1, .call [true, false] [.v (.bx 82 [.im true (eu8_c a0v_b), .s (.int .i64 r12v_1v_i), .s (.int .i64 r12v_1v_h)]), .v (.jk)] [.v (.s (.int .i64 r12v_2))]), (9, .el [.s (.int .i64 x13)]), (11, .call [true, false] [.v (.bx 82 [.im true (eu8_c a0v_b), .s (.int .i64 r14v_1v_i), .s (.int .i64 r14v_1v_h)]), .v (.jk)] [.ag [.s (.int .i64 r14v_2v_Id), .ow 3 (eInt_c r14v_2v_Cells)]])] (by cbv) (by cbv) (by cbv) (by cbv) (by cbv) ?_ ?_
    · exact (hq (hC (spec_l1Below_ac h_r12)) (hq trivial (hq trivial (hq (get_le h_x13) (hq (get_lt (f := Int_c) h_x13) (hq (get_ge (f := Int_c) h_x13) (hq (hC (spec_l6DrawRow_ac h_r14)) (hq trivial hq0))))))))
    obtain ⟨K19, h_K19, h⟩ := joinE h
    refine Run.join4 K19 (r := r) (fun (y15 : Int) (y16 : Int) (y17 : Int) (y18 : Int) => ⟨102, 100000, [(0, .pt 0 0 0), (4, .pt 1 0 0), (6, .pt 2 0 0)], [(0, .box 82 [.t (.im true (eu8_c a0v_b)), .t (.s (.int .i64 y15)), .t (.s (.int .i64 y16))]), (1, .box 121 [.t (.s (.int .i64 0)), .t (.s (.int .i64 0)), .t (.s (.int .i64 0)), .t (.s (.slice none 0 0))]), (2, .box 121 [.t (.s (.int .i64 y17)), .t (.s (.int .i64 r2v_2)), .t (.s (.int .i64 y18)), .rf 3]), (3, .row 0 3 1 (eInt_c r14v_2v_Cells))]⟩) ?_ ?_
    · skip
      refine Run.seq ?_
      obtain ⟨x20, h_x20, h⟩ := bnd h
      obtain ⟨⟨⟨r21v_1v_b, r21v_1v_i, r21v_1v_h⟩, r21v_2⟩, h_r21, h⟩ := bnd h
      refine Run.region hL hT [(7, .el [.im false (eRow_i x20)]), (14, .call [true, false] [.v (.bx 82 [.im true (eu8_c a0v_b), .s (.int .i64 r21v_1v_i), .s (.int .i64 r21v_1v_h)]), .v (.jk)] [.v (.s (.bool r21v_2))])] (by cbv) ?_ ?_
      · exact (hq trivial (hq trivial (hq (fun _ => hq0) (hq (fun g23 => (hq g23 (hq trivial hq0))) (hq (fun _ => hq0) (hq (fun g25 => (hq g25 (hq g25 (hq (get_le (gd_t h_x20 g25)) (hq (get_lt (f := RowS_i) (gd_t h_x20 g25)) (hq (get_ge (f := RowS_i) (gd_t h_x20 g25)) hq0)))))) (hq (fun g26 => (hq g26 hq0)) (hq (fun g27 => (hq g27 hq0)) (hq (fun g28 => (hq g28 (hq trivial hq0))) (hq (fun q29 => (hq q29 hq0)) (hq (fun _ => hq0) (hq (fun _ => hq0) (hq (fun g32 => (by have g32C := g32; rw [show ln (eRow_i x20) = lenI_Row x20 from ln_eq Row_i _] at g32C; exact (hq g32 (hq (hC (spec_l1Once_ac (gd_t h_r21 g32C))) hq0)))) (hq trivial (hq trivial (hq trivial (hq (fun g33 => (by have g33C := g33; rw [show ln (eRow_i x20) = lenI_Row x20 from ln_eq Row_i _] at g33C; exact (hq g33 hq0))) (hq (fun q34 => (by have q34C := q34; rw [show ln (eRow_i x20) = lenI_Row x20 from ln_eq Row_i _] at q34C; exact (hq q34 hq0))) (hq (fun _ => hq0) hq0)))))))))))))))))))
      rw [show ln (eRow_i x20) = lenI_Row x20 from ln_eq Row_i _]
      refine Run.cond (by cbv) (hq0) (fun c36 => ?_) (fun c36 => ?_)
      · have h := if_t c36 h
        obtain ⟨x37, h_x37, h⟩ := bnd h
        obtain ⟨⟨⟨r38v_1v_b, r38v_1v_i, r38v_1v_h⟩, r38v_2⟩, h_r38, h⟩ := bnd h
        obtain ⟨⟨x39v_Id, x39v_Cells⟩, h_x39, h⟩ := bnd h
        refine Run.draw hL hT hM [(3, .el [.im false (eRow_i x37)]), (9, .el [.im false (eRow_i x37)]), (12, .call [true, false] [.v (.bx 82 [.im true (eu8_c a0v_b), .s (.int .i64 r38v_1v_i), .s (.int .i64 r38v_1v_h)]), .v (.jk)] [.v (.s (.int .i64 r38v_2))]), (13, .el [.s (.int .i64 x39v_Id), .im false (eInt_c x39v_Cells)])] (by cbv) (by cbv) (by cbv) (by cbv) (by cbv) ?_ ?_
        · exact (hq trivial (hq (get_le h_x37) (hq (get_lt (f := RowS_i) h_x37) (hq (get_ge (f := RowS_i) h_x37) (hq trivial (hq (get_le h_x37) (hq (get_lt (f := RowS_i) h_x37) (hq (get_ge (f := RowS_i) h_x37) (hq (by rw [show ln (eRow_i x37) = lenI_Row x37 from ln_eq Row_i _]; exact (hC (spec_l1Below_ac h_r38))) (hq (get_le h_x39) (hq (get_lt (f := Row_i) h_x39) (hq (get_ge (f := Row_i) h_x39) (hq trivial hq0)))))))))))))
        rw [show ln (eRow_i x37) = lenI_Row x37 from ln_eq Row_i _]
        refine ⟨r38v_1v_i, r38v_1v_h, (ar .add .i64 1 r12v_2), x39v_Id, h, Weak.of _ [(0, 0), (1, 2), (2, 12302), (3, 12300)] hA (by cbv) ?_⟩
        repeat (first | exact hq0 | refine hq (by first | exact True.intro | rfl) ?_)
      · have h := if_f c36 h
        refine Run.skip ?_
        refine ⟨(ci (bo (cm .neq (ar .add .i64 1 r12v_2) 1) (cm .gtr (lenI_Row x20) 0) false) r21v_1v_i r14v_1v_i), (ci (bo (cm .neq (ar .add .i64 1 r12v_2) 1) (cm .gtr (lenI_Row x20) 0) false) r21v_1v_h r14v_1v_h), (ar .add .i64 1 r12v_2), r14v_2v_Id, h, Weak.of _ [(0, 0), (1, 2), (2, 12302), (3, 12300)] hA (by cbv) ?_⟩
        repeat (first | exact hq0 | refine hq (by first | exact True.intro | rfl) ?_)
    · intro y15 y16 y17 y18 h
      rw [h_K19] at h
      obtain ⟨K41, h_K41, h⟩ := joinE h
      refine Run.join1 K41 (r := r) (fun (y40 : List Int) => ⟨102, 100000, [(0, .pt 0 0 0), (4, .pt 1 0 0), (6, .pt 2 0 0)], [(0, .box 82 [.t (.im true (eu8_c a0v_b)), .t (.s (.int .i64 y15)), .t (.s (.int .i64 y16))]), (1, .box 121 [.t (.s (.int .i64 0)), .t (.s (.int .i64 0)), .t (.s (.int .i64 0)), .t (.s (.slice none 0 0))]), (2, .box 121 [.t (.s (.int .i64 y17)), .t (.s (.int .i64 r2v_2)), .t (.s (.int .i64 y18)), .rf 3]), (3, .row 0 3 1 (eInt_c y40))]⟩) ?_ ?_
      · skip
        refine Run.seq ?_
        refine Run.region hL hT [] (by cbv) ?_ ?_
        · exact (hq trivial (hq trivial hq0))
        refine Run.cond (by cbv) (hq0) (fun c42 => ?_) (fun c42 => ?_)
        · have h := if_t c42 h
          refine Run.region hL hT [] (by cbv) ?_ ?_
          · exact (hq trivial hq0)
          refine ⟨[], h, (Weak.nilB (l := [.t (.s (.int .i64 y17)), .t (.s (.int .i64 r2v_2)), .t (.s (.int .i64 y18))]) hT 2 3 109192 3 rfl (by cbv) (by cbv) (by cbv)).trans (Weak.of _ [(0, 0), (1, 1), (2, 2), (3, 109192)] hA (by cbv) ?_)⟩
          repeat (first | exact hq0 | refine hq (by first | exact True.intro | rfl) ?_)
        · have h := if_f c42 h
          refine Run.skip ?_
          refine ⟨r14v_2v_Cells, h, Weak.of _ [(0, 0), (1, 1), (2, 2), (3, 3)] hA (by cbv) ?_⟩
          repeat (first | exact hq0 | refine hq (by first | exact True.intro | rfl) ?_)
      · intro y40 h
        rw [h_K41] at h
        refine Run.seq ?_
        refine Run.seq ?_
        obtain ⟨⟨⟨r43v_1v_b, r43v_1v_i, r43v_1v_h⟩, r43v_2⟩, h_r43, h⟩ := bnd h
        refine Run.region hL hT [(1, .call [true, false] [.v (.bx 82 [.im true (eu8_c a0v_b), .s (.int .i64 r43v_1v_i), .s (.int .i64 r43v_1v_h)]), .v (.jk)] [.v (.s (.int .i64 r43v_2))])] (by cbv) ?_ ?_
        · exact (hq (hC (spec_l1Below_ac h_r43)) hq0)
        refine Run.block ?_
        refine Run.seq ?_
        refine Run.region hL hT [] (by cbv) ?_ ?_
        · exact (hq trivial hq0)
        refine Run.cond (by cbv) (hq0) (fun c44 => ?_) (fun c44 => ?_)
        · have h := if_t c44 h
          obtain ⟨⟨⟨r45v_1v_b, r45v_1v_i, r45v_1v_h⟩, r45v_2⟩, h_r45, h⟩ := bnd h
          refine Run.region hL hT [(1, .call [true, false] [.v (.bx 82 [.im true (eu8_c a0v_b), .s (.int .i64 r45v_1v_i), .s (.int .i64 r45v_1v_h)]), .v (.jk)] [.v (.s (.int .i64 r45v_2))])] (by cbv) ?_ ?_
          · exact (hq (hC (spec_l1Below_ac h_r45)) (hq trivial hq0))
          refine Run.seq ?_
          refine Run.region hL hT [] (by cbv) ?_ ?_
          · exact (hq trivial (hq trivial hq0))
          refine Run.ret ?_
          cases h
          refine ⟨_, _, by cbv, ?_, ?_⟩
          · exact LLe.r
          · exact (ALe.ag rfl LLe.r ALe.nil)
        · have h := if_f c44 h
          refine Run.seq ?_
          refine Run.region hL hT [] (by cbv) ?_ ?_
          · exact (hq trivial hq0)
          refine Run.cond (by cbv) (hq0) (fun c46 => ?_) (fun c46 => ?_)
          · have h := if_t c46 h
            obtain ⟨⟨⟨r47v_1v_b, r47v_1v_i, r47v_1v_h⟩, r47v_2⟩, h_r47, h⟩ := bnd h
            refine Run.region hL hT [(1, .call [true, false] [.v (.bx 82 [.im true (eu8_c a0v_b), .s (.int .i64 r47v_1v_i), .s (.int .i64 r47v_1v_h)]), .v (.jk)] [.v (.s (.int .i64 r47v_2))])] (by cbv) ?_ ?_
            · exact (hq (hC (spec_l1Below_ac h_r47)) (hq trivial (hq trivial hq0)))
            refine Run.seq ?_
            refine Run.region hL hT [] (by cbv) ?_ ?_
            · exact (hq trivial (hq trivial hq0))
            refine Run.ret ?_
            cases h
            refine ⟨_, _, by cbv, ?_, ?_⟩
            · exact LLe.r
            · exact (ALe.ag rfl LLe.r ALe.nil)
          · have h := if_f c46 h
            refine Run.seq ?_
            refine Run.region hL hT [] (by cbv) ?_ ?_
            · exact (hq trivial hq0)
            refine Run.cond (by cbv) (hq0) (fun c48 => ?_) (fun c48 => ?_)
            · have h := if_t c48 h
              obtain ⟨l49, h_l49, h⟩ := bnd h
              obtain ⟨⟨⟨r50v_1v_b, r50v_1v_i, r50v_1v_h⟩, r50v_2⟩, h_r50, h⟩ := bnd h
              refine Run.region hL hT [(2, .call [true, false] [.v (.bx 82 [.im true (eu8_c a0v_b), .s (.int .i64 r50v_1v_i), .s (.int .i64 r50v_1v_h)]), .v (.jk)] [.v (.s (.int .i64 r50v_2))])] (by cbv) ?_ ?_
              · exact (hq (hC (AC.args (spec_l1PickInt_ac h_r50) (ALe.v LLe.r (ALe.v (fr_lit rfl (some_le (f := Int_c) h_l49 (RLe.cons rfl LLe.r (RLe.cons rfl LLe.r (RLe.cons rfl LLe.r RLe.nil))))) ALe.nil)))) (hq trivial hq0))
              refine Run.row (rows := [[.s (.int .i64 0)], [.s (.int .i64 999)], [.s (.int .i64 1000)]]) 116385 (eInt_c l49) (by cbv) (some_le (f := Int_c) h_l49 (RLe.cons rfl LLe.r (RLe.cons rfl LLe.r (RLe.cons rfl LLe.r RLe.nil)))) ?_
              refine Run.seq ?_
              refine Run.region hL hT [] (by cbv) ?_ ?_
              · exact (hq trivial (hq trivial hq0))
              refine Run.ret ?_
              cases h
              refine ⟨_, _, by cbv, ?_, ?_⟩
              · exact LLe.r
              · exact (ALe.ag rfl LLe.r ALe.nil)
            · have h := if_f c48 h
              refine Run.skip ?_
              refine Run.seq ?_
              refine Run.region hL hT [] (by cbv) ?_ ?_
              · exact (hq trivial (hq trivial hq0))
              refine Run.ret ?_
              cases h
              refine ⟨_, _, by cbv, ?_, ?_⟩
              · exact LLe.r
              · exact (ALe.ag rfl LLe.r ALe.nil)

set_option maxRecDepth 8000 in
theorem spec_l7DrawBatch_ac {a0v_b : List Int} {a0v_i : Int} {a0v_h : Int} {a1v_Schemav_Cols : List Int} {a1v_Version : Int} {a1v_Tables : List (List Row)} {r : l1Cur × (List Mut)} (h : spec_l7DrawBatch.f (l1Cur.mk a0v_b a0v_i a0v_h) (Store.mk (Schema.mk a1v_Schemav_Cols) a1v_Version a1v_Tables) = some r) : AC Try.prog 48 [.v (.bx 82 [.im true (rowsOf u8_c a0v_b), .s (.int .i64 a0v_i), .s (.int .i64 a0v_h)]), .ag [.im false (rowsOf Int_c a1v_Schemav_Cols), .s (.int .i64 a1v_Version), .im false (rowsOf RowS_i a1v_Tables)]] [.v (.bx 82 [.im true (rowsOf u8_c a0v_b), .s (.int .i64 r.1.i), .s (.int .i64 r.1.h)]), .ag [.jk, .jk, .jk]] [.v (.ow 121 (rowsOf Mut_o r.2))] := by
  unfold spec_l7DrawBatch.f at h
  let ar := Ls.ar; let cm := Ls.cm; let bo := Ls.bo; let sc := Ls.sc; let sa := Ls.sa; let sx := Ls.sx; let ss := Ls.ss; let sl := Ls.sl; let bs := Ls.bs; let sb := Ls.sb; let ln := Ls.ln; let sr := Ls.sr; let ap := Ls.ap; let up := Ls.up; let rp := Ls.rp; let fr := Ls.fr; let ge := Ls.ge; let le := Ls.le; let lt := Ls.lt; let nz := Ls.nz; let mm := Ls.mm; let ma := Ls.ma; let sm := Ls.sm; let fl := Ls.fl; let al := Ls.al; let ci := Ls.ci
  let eInt_c := rowsOf Int_c
  let eMut_o := rowsOf Mut_o
  let eRowS_i := rowsOf RowS_i
  let eRowS_o := rowsOf RowS_o
  let eu8_c := rowsOf u8_c
  have hL : (⟨ar, cm, bo, sc, sa, sx, ss, sl, bs, sb, ln, sr, ap, up, rp, fr, ge, le, lt, nz, mm, ma, sm, fl, al, ci⟩ : Lf) = Ls := rfl
  show AC Try.prog 48 [.v (.bx 82 [.im true (eu8_c a0v_b), .s (.int .i64 a0v_i), .s (.int .i64 a0v_h)]), .ag [.im false (eInt_c a1v_Schemav_Cols), .s (.int .i64 a1v_Version), .im false (eRowS_i a1v_Tables)]] _ _
  refine AC.of_run2 tab_ok Try.func48 (by rfl) (by rfl) (by cbv) ⟨by decide, rfl⟩ fun F hP hA => ?_
  have hT : TabOk F.P tab := hP ▸ tab_ok
  have hM : F.P.follows .mixedOrders = true := hP ▸ mixed
  have hC : ∀ {f a o r}, AC Try.prog f a o r → AC F.P f a o r := fun h => hP ▸ h
  refine Run.seq ?_
  refine Run.region hL hT [] (by cbv) ?_ ?_
  · exact hq0
  refine Run.seq ?_
  refine Run.region hL hT [] (by cbv) ?_ ?_
  · exact (hq trivial (hq trivial hq0))
  refine Run.seq ?_
  refine Run.region hL hT [] (by cbv) ?_ ?_
  · exact hq0
  refine Run.seq ?_
  refine Run.seq ?_
  refine Run.region hL hT [] (by cbv) ?_ ?_
  · exact hq0
  refine Run.block ?_
  refine Run.loop7 (fun (z9 : Int) (z10 : Int) (z11 : List Int) (z12 : Int) (z13 : List (List Row)) (z14 : List Mut) (z15 : Int) => ⟨43, 100000, [(0, .pt 0 0 0), (5, .pt 1 0 0), (6, .rf 2), (7, .t (.s (.int .i64 z15)))], [(0, .box 82 [.t (.im true (eu8_c a0v_b)), .t (.s (.int .i64 z9)), .t (.s (.int .i64 z10))]), (1, .box 62 [.t (.im false (eInt_c z11)), .t (.s (.int .i64 z12)), .t (.im false (eRowS_i z13))]), (2, .row 0 121 4 (eMut_o z14))]⟩) (x0 := a0v_i) (x1 := a0v_h) (x2 := a1v_Schemav_Cols) (x3 := a1v_Version) (x4 := a1v_Tables) (x5 := []) (x6 := 0) h (Weak.of _ [(0, 0), (1, 4098), (2, 8193)] hA (by cbv) ?_) (fun _ _ _ _ _ _ _ => rfl) ?_
  · repeat (first | exact hq0 | refine hq (by first | exact True.intro | rfl) ?_)
  · intro k z9 z10 z11 z12 z13 z14 z15 h
    rw [spec_l7DrawBatch.l0] at h
    refine Run.seq ?_
    refine Run.seq ?_
    obtain ⟨⟨⟨r16v_1v_b, r16v_1v_i, r16v_1v_h⟩, r16v_2⟩, h_r16, h⟩ := bnd h
    refine Run.region hL hT [(2, .call [true, false] [.v (.bx 82 [.im true (eu8_c a0v_b), .s (.int .i64 r16v_1v_i), .s (.int .i64 r16v_1v_h)]), .v (.jk)] [.v (.s (.int .i64 r16v_2))])] (by cbv) ?_ ?_
    · exact (hq (hC (spec_l1Below_ac h_r16)) (hq trivial (hq trivial hq0)))
    refine Run.cond (by cbv) (hq0) (fun c17 => ?_) (fun c17 => ?_)
    · have h := if_t c17 h
      refine Run.skip ?_
      refine Run.seq ?_
      refine Run.block ?_
      refine Run.seq ?_
      obtain ⟨⟨⟨r18v_1v_b, r18v_1v_i, r18v_1v_h⟩, ⟨r18v_2v_Kind, r18v_2v_Table, ⟨r18v_2v_Rowv_Id, r18v_2v_Rowv_Cells⟩⟩⟩, h_r18, h⟩ := bnd h
      refine Run.region hL hT [(2, .call [true, false] [.v (.bx 82 [.im true (eu8_c a0v_b), .s (.int .i64 r18v_1v_i), .s (.int .i64 r18v_1v_h)]), .ag [.jk, .jk, .jk]] [.ag [.s (.int .i64 r18v_2v_Kind), .s (.int .i64 r18v_2v_Table), .s (.int .i64 r18v_2v_Rowv_Id), .ow 3 (eInt_c r18v_2v_Rowv_Cells)]])] (by cbv) ?_ ?_
      · exact (hq trivial (hq (hC (spec_l7DrawMut_ac h_r18)) (hq trivial hq0)))
      refine Run.seq ?_
      obtain ⟨⟨⟨⟨r19v_1v_Schemav_Cols⟩, r19v_1v_Version, r19v_1v_Tables⟩, ⟨r19v_2v_1v_Table, r19v_2v_1v_Had, r19v_2v_1v_Has, ⟨r19v_2v_1v_Oldv_Id, r19v_2v_1v_Oldv_Cells⟩, ⟨r19v_2v_1v_Newv_Id, r19v_2v_1v_Newv_Cells⟩⟩, r19v_2v_2⟩, h_r19, h⟩ := bnd h
      refine Run.region hL hT [(2, .call [false, false] [.ag [.jk, .jk, .jk], .ag [.jk, .jk, .jk, .jk]] [.ag [.ow 3 (eInt_c r19v_1v_Schemav_Cols), .s (.int .i64 r19v_1v_Version), .ow 46 (eRowS_o r19v_1v_Tables)], .ag [.s (.int .i64 r19v_2v_1v_Table), .s (.bool r19v_2v_1v_Had), .s (.bool r19v_2v_1v_Has), .s (.int .i64 r19v_2v_1v_Oldv_Id), .ow 3 (eInt_c r19v_2v_1v_Oldv_Cells), .s (.int .i64 r19v_2v_1v_Newv_Id), .ow 3 (eInt_c r19v_2v_1v_Newv_Cells)], .v (.s (.bool r19v_2v_2))])] (by cbv) ?_ ?_
      · exact (hq trivial (hq trivial (hq (hC (AC.args (spec_MutDo_ac h_r19) (ALe.ag rfl LLe.r (ALe.ag rfl (LLe.c (LLe.c (LLe.c (LLe.cons (LLe.im (RLe.eq (fr_row Int_c_z _))) LLe.nil)))) ALe.nil)))) (hq trivial (hq trivial hq0)))))
      obtain ⟨K23, h_K23, h⟩ := joinE h
      refine Run.join3 K23 (r := r) (fun (y20 : List Int) (y21 : Int) (y22 : List (List Row)) => ⟨43, 100000, [(0, .pt 0 0 0), (5, .pt 1 0 0), (6, .rf 2), (7, .t (.s (.int .i64 z15))), (8, .pt 3 0 0), (11, .t (.s (.bool r19v_2v_2)))], [(0, .box 82 [.t (.im true (eu8_c a0v_b)), .t (.s (.int .i64 r18v_1v_i)), .t (.s (.int .i64 r18v_1v_h))]), (1, .box 62 [.t (.im false (eInt_c y20)), .t (.s (.int .i64 y21)), .t (.im false (eRowS_i y22))]), (2, .row 0 121 4 (eMut_o z14)), (3, .box 121 [.t (.s (.int .i64 r18v_2v_Kind)), .t (.s (.int .i64 r18v_2v_Table)), .t (.s (.int .i64 r18v_2v_Rowv_Id)), .rf 4]), (4, .row 0 3 1 (eInt_c r18v_2v_Rowv_Cells))]⟩) ?_ ?_
      · skip
        refine Run.seq ?_
        refine Run.region hL hT [] (by cbv) ?_ ?_
        · exact hq0
        refine Run.cond (by cbv) (hq0) (fun c24 => ?_) (fun c24 => ?_)
        · have h := if_t c24 h
          refine Run.region hL hT [] (by cbv) ?_ ?_
          · exact (hq trivial (hq trivial hq0))
          refine ⟨r19v_1v_Schemav_Cols, r19v_1v_Version, r19v_1v_Tables, h, (Weak.frz (rows := eInt_c r19v_1v_Schemav_Cols) 108194 (by cbv) (eInt_c r19v_1v_Schemav_Cols) (fr_row Int_c_z _)).trans ((Weak.frz (rows := eRowS_o r19v_1v_Tables) 108450 (by cbv) (eRowS_i r19v_1v_Tables) (fr_row RowS_o_z _)).trans (Weak.of _ [(0, 0), (1, 1), (2, 2), (3, 104099), (4, 104098)] hA (by cbv) ?_))⟩
          repeat (first | exact hq0 | refine hq (by first | exact True.intro | rfl) ?_)
        · have h := if_f c24 h
          refine Run.skip ?_
          refine ⟨z11, z12, z13, h, Weak.of _ [(0, 0), (1, 1), (2, 2), (3, 104099), (4, 104098)] hA (by cbv) ?_⟩
          repeat (first | exact hq0 | refine hq (by first | exact True.intro | rfl) ?_)
      · intro y20 y21 y22 h
        rw [h_K23] at h
        refine Run.seq ?_
        obtain ⟨⟨⟨r25v_1v_b, r25v_1v_i, r25v_1v_h⟩, r25v_2⟩, h_r25, h⟩ := bnd h
        refine Run.region hL hT [(3, .call [true, false] [.v (.bx 82 [.im true (eu8_c a0v_b), .s (.int .i64 r25v_1v_i), .s (.int .i64 r25v_1v_h)]), .v (.jk)] [.v (.s (.bool r25v_2))])] (by cbv) ?_ ?_
        · exact (hq (fun _ => hq0) (hq (fun g27 => (hq g27 (hq (hC (spec_l1Once_ac (gd_t h_r25 g27))) hq0))) (hq trivial (hq trivial (hq trivial (hq (fun _ => hq0) (hq (fun q29 => (hq (bo_m q29) hq0)) hq0)))))))
        refine Run.cond (by cbv) (hq0) (fun c30 => ?_) (fun c30 => ?_)
        · have h := if_t c30 h
          obtain ⟨l31, h_l31, h⟩ := bnd h
          obtain ⟨l32, h_l32, h⟩ := bnd h
          refine Run.region hL hT [] (by cbv) ?_ ?_
          · exact (hq trivial (hq (app_mb (P := Try.prog) (f := Mut_o) RLe.r (some_le (f := Mut_o) h_l31 (RLe.cons rfl LLe.r RLe.nil)) h_l32) hq0))
          refine Run.row (rows := (ap (eMut_o z14) ([[.s (.int .i64 r18v_2v_Kind), .s (.int .i64 r18v_2v_Table), .s (.int .i64 r18v_2v_Rowv_Id), .ow 3 (eInt_c r18v_2v_Rowv_Cells)]]))) 104099 (eMut_o l32) (by cbv) (app_le (f := Mut_o) RLe.r (some_le (f := Mut_o) h_l31 (RLe.cons rfl LLe.r RLe.nil)) h_l32) ?_
          refine Run.region hL hT [] (by cbv) ?_ ?_
          · exact (hq trivial hq0)
          refine ⟨(ci (bo r19v_2v_2 false true) r25v_1v_i r18v_1v_i), (ci (bo r19v_2v_2 false true) r25v_1v_h r18v_1v_h), y20, y21, y22, l32, (ar .add .i64 z15 1), h, Weak.of _ [(0, 0), (1, 1), (2, 104099)] hA (by cbv) ?_⟩
          repeat (first | exact hq0 | refine hq (by first | exact True.intro | rfl) ?_)
        · have h := if_f c30 h
          refine Run.skip ?_
          refine Run.region hL hT [] (by cbv) ?_ ?_
          · exact (hq trivial hq0)
          refine ⟨(ci (bo r19v_2v_2 false true) r25v_1v_i r18v_1v_i), (ci (bo r19v_2v_2 false true) r25v_1v_h r18v_1v_h), y20, y21, y22, z14, (ar .add .i64 z15 1), h, Weak.of _ [(0, 0), (1, 1), (2, 2)] hA (by cbv) ?_⟩
          repeat (first | exact hq0 | refine hq (by first | exact True.intro | rfl) ?_)
    · have h := if_f c17 h
      refine Run.exit ?_
      refine Run.seq ?_
      refine Run.region hL hT [] (by cbv) ?_ ?_
      · exact hq0
      refine Run.ret ?_
      cases h
      refine ⟨_, _, by cbv, ?_, ?_⟩
      · exact LLe.r
      · exact (ALe.v LLe.r ALe.nil)

set_option maxRecDepth 8000 in
theorem spec_l12Draw_ac {a0v_b : List Int} {a0v_i : Int} {a0v_h : Int} {r : l1Cur × Store × Query × (List Change)} (h : spec_l12Draw.f (l1Cur.mk a0v_b a0v_i a0v_h) = some r) : AC Try.prog 24 [.v (.bx 82 [.im true (rowsOf u8_c a0v_b), .s (.int .i64 a0v_i), .s (.int .i64 a0v_h)])] [.v (.bx 82 [.im true (rowsOf u8_c a0v_b), .s (.int .i64 r.1.i), .s (.int .i64 r.1.h)])] [.ag [.ow 3 (rowsOf Int_c r.2.1.Schema.Cols), .s (.int .i64 r.2.1.Version), .ow 46 (rowsOf RowS_o r.2.1.Tables)], .ag [.s (.int .i64 r.2.2.1.Table), .ow 90 (rowsOf Cond_c r.2.2.1.Where), .s (.int .i64 r.2.2.1.Order), .s (.bool r.2.2.1.Down), .s (.int .i64 r.2.2.1.First), .ow 3 (rowsOf Int_c r.2.2.1.Show), .s (.bool r.2.2.1.Kids), .s (.int .i64 r.2.2.1.KidTable), .s (.int .i64 r.2.2.1.KidCol)], .v (.ow 31 (rowsOf Change_o r.2.2.2))] := by
  unfold spec_l12Draw.f at h
  let ar := Ls.ar; let cm := Ls.cm; let bo := Ls.bo; let sc := Ls.sc; let sa := Ls.sa; let sx := Ls.sx; let ss := Ls.ss; let sl := Ls.sl; let bs := Ls.bs; let sb := Ls.sb; let ln := Ls.ln; let sr := Ls.sr; let ap := Ls.ap; let up := Ls.up; let rp := Ls.rp; let fr := Ls.fr; let ge := Ls.ge; let le := Ls.le; let lt := Ls.lt; let nz := Ls.nz; let mm := Ls.mm; let ma := Ls.ma; let sm := Ls.sm; let fl := Ls.fl; let al := Ls.al; let ci := Ls.ci
  let eChange_o := rowsOf Change_o
  let eCond_c := rowsOf Cond_c
  let eInt_c := rowsOf Int_c
  let eMut_o := rowsOf Mut_o
  let eRowS_o := rowsOf RowS_o
  let eu8_c := rowsOf u8_c
  have hL : (⟨ar, cm, bo, sc, sa, sx, ss, sl, bs, sb, ln, sr, ap, up, rp, fr, ge, le, lt, nz, mm, ma, sm, fl, al, ci⟩ : Lf) = Ls := rfl
  show AC Try.prog 24 [.v (.bx 82 [.im true (eu8_c a0v_b), .s (.int .i64 a0v_i), .s (.int .i64 a0v_h)])] _ _
  refine AC.of_run2 tab_ok Try.func24 (by rfl) (by rfl) (by cbv) ⟨by decide, rfl⟩ fun F hP hA => ?_
  have hT : TabOk F.P tab := hP ▸ tab_ok
  have hM : F.P.follows .mixedOrders = true := hP ▸ mixed
  have hC : ∀ {f a o r}, AC Try.prog f a o r → AC F.P f a o r := fun h => hP ▸ h
  refine Run.seq ?_
  refine Run.region hL hT [] (by cbv) ?_ ?_
  · exact hq0
  refine Run.seq ?_
  obtain ⟨⟨⟨r1v_1v_b, r1v_1v_i, r1v_1v_h⟩, ⟨⟨r1v_2v_Schemav_Cols⟩, r1v_2v_Version, r1v_2v_Tables⟩⟩, h_r1, h⟩ := bnd h
  refine Run.region hL hT [(1, .call [true] [.v (.bx 82 [.im true (eu8_c a0v_b), .s (.int .i64 r1v_1v_i), .s (.int .i64 r1v_1v_h)])] [.ag [.ow 3 (eInt_c r1v_2v_Schemav_Cols), .s (.int .i64 r1v_2v_Version), .ow 46 (eRowS_o r1v_2v_Tables)]])] (by cbv) ?_ ?_
  · exact (hq (hC (spec_l7DrawRight_ac h_r1)) (hq trivial hq0))
  refine Run.seq ?_
  obtain ⟨⟨⟨r2v_1v_b, r2v_1v_i, r2v_1v_h⟩, ⟨r2v_2v_Table, r2v_2v_Where, r2v_2v_Order, r2v_2v_Down, r2v_2v_First, r2v_2v_Show, r2v_2v_Kids, r2v_2v_KidTable, r2v_2v_KidCol⟩⟩, h_r2, h⟩ := bnd h
  refine Run.region hL hT [(3, .call [true, false] [.v (.bx 82 [.im true (eu8_c a0v_b), .s (.int .i64 r2v_1v_i), .s (.int .i64 r2v_1v_h)]), .ag [.jk]] [.ag [.s (.int .i64 r2v_2v_Table), .ow 90 (eCond_c r2v_2v_Where), .s (.int .i64 r2v_2v_Order), .s (.bool r2v_2v_Down), .s (.int .i64 r2v_2v_First), .ow 3 (eInt_c r2v_2v_Show), .s (.bool r2v_2v_Kids), .s (.int .i64 r2v_2v_KidTable), .s (.int .i64 r2v_2v_KidCol)]])] (by cbv) ?_ ?_
  · exact (hq trivial (hq (hC (AC.args (spec_l9DrawRight_ac h_r2) (ALe.v LLe.r (ALe.ag rfl (LLe.cons (LLe.im (RLe.eq (fr_row Int_c_z _))) LLe.nil) ALe.nil)))) (hq trivial hq0)))
  refine Run.seq ?_
  obtain ⟨⟨⟨r3v_1v_b, r3v_1v_i, r3v_1v_h⟩, r3v_2⟩, h_r3, h⟩ := bnd h
  obtain ⟨⟨⟨⟨r4v_1v_Schemav_Cols⟩, r4v_1v_Version, r4v_1v_Tables⟩, r4v_2v_1, r4v_2v_2⟩, h_r4, h⟩ := bnd h
  refine Run.draw hL hT hM [(3, .call [true, false] [.v (.bx 82 [.im true (eu8_c a0v_b), .s (.int .i64 r3v_1v_i), .s (.int .i64 r3v_1v_h)]), .ag [.jk, .jk, .jk]] [.v (.ow 121 (eMut_o r3v_2))]), (4, .call [false, false] [.ag [.jk, .jk, .jk], .v (.jk)] [.ag [.ow 3 (eInt_c r4v_1v_Schemav_Cols), .s (.int .i64 r4v_1v_Version), .ow 46 (eRowS_o r4v_1v_Tables)], .v (.ow 31 (eChange_o r4v_2v_1)), .v (.s (.bool r4v_2v_2))])] (by cbv) (by cbv) (by cbv) (by cbv) (by cbv) ?_ ?_
  · exact (hq trivial (hq trivial (hq (hC (AC.args (spec_l7DrawBatch_ac h_r3) (ALe.v LLe.r (ALe.ag rfl (LLe.cons (LLe.im (RLe.eq (fr_row Int_c_z _))) (LLe.c (LLe.cons (LLe.im (RLe.eq (fr_row RowS_o_z _))) LLe.nil))) ALe.nil)))) (hq (hC (AC.args (spec_BatchDo_ac h_r4) (ALe.ag rfl (LLe.cons (LLe.im (RLe.eq (fr_row Int_c_z _))) (LLe.c (LLe.cons (LLe.im (RLe.eq (fr_row RowS_o_z _))) LLe.nil))) (ALe.v (LLe.im (RLe.eq (fr_row Mut_o_z _))) ALe.nil)))) (hq trivial hq0)))))
  refine Run.seq ?_
  refine Run.draw hL hT hM [] (by cbv) (by cbv) (by cbv) (by cbv) (by cbv) ?_ ?_
  · exact (hq trivial (hq trivial (hq trivial (hq trivial hq0))))
  refine Run.ret ?_
  cases h
  refine ⟨_, _, by cbv, ?_, ?_⟩
  · exact LLe.r
  · exact (ALe.ag rfl LLe.r (ALe.ag rfl LLe.r (ALe.v LLe.r ALe.nil)))

set_option maxRecDepth 8000 in
theorem spec_DrawTouchesAny_ac {a0 : List Int} {r : Query × (List Change)} (h : spec_DrawTouchesAny.f a0 = some r) : AC Try.prog 14 [.v (.im true (rowsOf u8_c a0))] [.v (.jk)] [.ag [.s (.int .i64 r.1.Table), .ow 90 (rowsOf Cond_c r.1.Where), .s (.int .i64 r.1.Order), .s (.bool r.1.Down), .s (.int .i64 r.1.First), .ow 3 (rowsOf Int_c r.1.Show), .s (.bool r.1.Kids), .s (.int .i64 r.1.KidTable), .s (.int .i64 r.1.KidCol)], .v (.ow 31 (rowsOf Change_o r.2))] := by
  unfold spec_DrawTouchesAny.f at h
  let ar := Ls.ar; let cm := Ls.cm; let bo := Ls.bo; let sc := Ls.sc; let sa := Ls.sa; let sx := Ls.sx; let ss := Ls.ss; let sl := Ls.sl; let bs := Ls.bs; let sb := Ls.sb; let ln := Ls.ln; let sr := Ls.sr; let ap := Ls.ap; let up := Ls.up; let rp := Ls.rp; let fr := Ls.fr; let ge := Ls.ge; let le := Ls.le; let lt := Ls.lt; let nz := Ls.nz; let mm := Ls.mm; let ma := Ls.ma; let sm := Ls.sm; let fl := Ls.fl; let al := Ls.al; let ci := Ls.ci
  let eChange_o := rowsOf Change_o
  let eCond_c := rowsOf Cond_c
  let eInt_c := rowsOf Int_c
  let eRowS_o := rowsOf RowS_o
  let eu8_c := rowsOf u8_c
  have hL : (⟨ar, cm, bo, sc, sa, sx, ss, sl, bs, sb, ln, sr, ap, up, rp, fr, ge, le, lt, nz, mm, ma, sm, fl, al, ci⟩ : Lf) = Ls := rfl
  show AC Try.prog 14 [.v (.im true (eu8_c a0))] _ _
  refine AC.of_run2 tab_ok Try.func14 (by rfl) (by rfl) (by cbv) ⟨by decide, rfl⟩ fun F hP hA => ?_
  have hT : TabOk F.P tab := hP ▸ tab_ok
  have hM : F.P.follows .mixedOrders = true := hP ▸ mixed
  have hC : ∀ {f a o r}, AC Try.prog f a o r → AC F.P f a o r := fun h => hP ▸ h
  refine Run.seq ?_
  refine Run.region hL hT [] (by cbv) ?_ ?_
  · exact hq0
  refine Run.seq ?_
  obtain ⟨⟨r1v_b, r1v_i, r1v_h⟩, h_r1, h⟩ := bnd h
  obtain ⟨⟨⟨r2v_1v_b, r2v_1v_i, r2v_1v_h⟩, ⟨⟨r2v_2v_1v_Schemav_Cols⟩, r2v_2v_1v_Version, r2v_2v_1v_Tables⟩, ⟨r2v_2v_2v_1v_Table, r2v_2v_2v_1v_Where, r2v_2v_2v_1v_Order, r2v_2v_2v_1v_Down, r2v_2v_2v_1v_First, r2v_2v_2v_1v_Show, r2v_2v_2v_1v_Kids, r2v_2v_2v_1v_KidTable, r2v_2v_2v_1v_KidCol⟩, r2v_2v_2v_2⟩, h_r2, h⟩ := bnd h
  refine Run.region hL hT [(1, .call [true] [.v (.jk)] [.v (.bx 82 [.im true (eu8_c r1v_b), .s (.int .i64 r1v_i), .s (.int .i64 r1v_h)])]), (2, .call [true] [.v (.bx 82 [.im true (eu8_c r1v_b), .s (.int .i64 r2v_1v_i), .s (.int .i64 r2v_1v_h)])] [.ag [.ow 3 (eInt_c r2v_2v_1v_Schemav_Cols), .s (.int .i64 r2v_2v_1v_Version), .ow 46 (eRowS_o r2v_2v_1v_Tables)], .ag [.s (.int .i64 r2v_2v_2v_1v_Table), .ow 90 (eCond_c r2v_2v_2v_1v_Where), .s (.int .i64 r2v_2v_2v_1v_Order), .s (.bool r2v_2v_2v_1v_Down), .s (.int .i64 r2v_2v_2v_1v_First), .ow 3 (eInt_c r2v_2v_2v_1v_Show), .s (.bool r2v_2v_2v_1v_Kids), .s (.int .i64 r2v_2v_2v_1v_KidTable), .s (.int .i64 r2v_2v_2v_1v_KidCol)], .v (.ow 31 (eChange_o r2v_2v_2v_2))])] (by cbv) ?_ ?_
  · exact (hq (hC (spec_l1New_ac h_r1)) (hq (hC (spec_l12Draw_ac h_r2)) (hq trivial (hq trivial hq0))))
  refine Run.seq ?_
  refine Run.region hL hT [] (by cbv) ?_ ?_
  · exact (hq trivial (hq trivial hq0))
  refine Run.ret ?_
  cases h
  refine ⟨_, _, by cbv, ?_, ?_⟩
  · exact LLe.r
  · exact (ALe.ag rfl LLe.r (ALe.v LLe.r ALe.nil))

set_option maxRecDepth 8000 in
theorem laws_big_ac {a0 : List Int} {r : Bool} (h : laws_big.f a0 = some r) : AC Try.prog 5 [.v (.im false (rowsOf u8_c a0))] [.v (.jk)] [.v (.s (.bool r))] := by
  unfold laws_big.f at h
  let ar := Ls.ar; let cm := Ls.cm; let bo := Ls.bo; let sc := Ls.sc; let sa := Ls.sa; let sx := Ls.sx; let ss := Ls.ss; let sl := Ls.sl; let bs := Ls.bs; let sb := Ls.sb; let ln := Ls.ln; let sr := Ls.sr; let ap := Ls.ap; let up := Ls.up; let rp := Ls.rp; let fr := Ls.fr; let ge := Ls.ge; let le := Ls.le; let lt := Ls.lt; let nz := Ls.nz; let mm := Ls.mm; let ma := Ls.ma; let sm := Ls.sm; let fl := Ls.fl; let al := Ls.al; let ci := Ls.ci
  let eu8_c := rowsOf u8_c
  let lenI_u8 := @lenI Int
  have hL : (⟨ar, cm, bo, sc, sa, sx, ss, sl, bs, sb, ln, sr, ap, up, rp, fr, ge, le, lt, nz, mm, ma, sm, fl, al, ci⟩ : Lf) = Ls := rfl
  show AC Try.prog 5 [.v (.im false (eu8_c a0))] _ _
  refine AC.of_run2 tab_ok Try.func5 (by rfl) (by rfl) (by cbv) ⟨by decide, rfl⟩ fun F hP hA => ?_
  have hT : TabOk F.P tab := hP ▸ tab_ok
  have hM : F.P.follows .mixedOrders = true := hP ▸ mixed
  have hC : ∀ {f a o r}, AC Try.prog f a o r → AC F.P f a o r := fun h => hP ▸ h
  refine Run.seq ?_
  refine Run.region hL hT [] (by cbv) ?_ ?_
  · exact hq0
  refine Run.seq ?_
  refine Run.region hL hT [] (by cbv) ?_ ?_
  · exact (hq trivial hq0)
  rw [show ln (eu8_c a0) = lenI_u8 a0 from ln_eq u8_c _]
  refine Run.ret ?_
  cases h
  refine ⟨_, _, by cbv, ?_, ?_⟩
  · exact LLe.r
  · exact (ALe.v LLe.r ALe.nil)

set_option maxRecDepth 8000 in
theorem spec_DrawTouches_ac {a0 : List Int} {r : Query × Change} (h : spec_DrawTouches.f a0 = some r) : AC Try.prog 6 [.v (.im true (rowsOf u8_c a0))] [.v (.jk)] [.ag [.s (.int .i64 r.1.Table), .ow 90 (rowsOf Cond_c r.1.Where), .s (.int .i64 r.1.Order), .s (.bool r.1.Down), .s (.int .i64 r.1.First), .ow 3 (rowsOf Int_c r.1.Show), .s (.bool r.1.Kids), .s (.int .i64 r.1.KidTable), .s (.int .i64 r.1.KidCol)], .ag [.s (.int .i64 r.2.Table), .s (.bool r.2.Had), .s (.bool r.2.Has), .s (.int .i64 r.2.Old.Id), .ow 3 (rowsOf Int_c r.2.Old.Cells), .s (.int .i64 r.2.New.Id), .ow 3 (rowsOf Int_c r.2.New.Cells)]] := by
  unfold spec_DrawTouches.f at h
  let ar := Ls.ar; let cm := Ls.cm; let bo := Ls.bo; let sc := Ls.sc; let sa := Ls.sa; let sx := Ls.sx; let ss := Ls.ss; let sl := Ls.sl; let bs := Ls.bs; let sb := Ls.sb; let ln := Ls.ln; let sr := Ls.sr; let ap := Ls.ap; let up := Ls.up; let rp := Ls.rp; let fr := Ls.fr; let ge := Ls.ge; let le := Ls.le; let lt := Ls.lt; let nz := Ls.nz; let mm := Ls.mm; let ma := Ls.ma; let sm := Ls.sm; let fl := Ls.fl; let al := Ls.al; let ci := Ls.ci
  let eChange_o := rowsOf Change_o
  let eCond_c := rowsOf Cond_c
  let eInt_c := rowsOf Int_c
  let eRowS_o := rowsOf RowS_o
  let eu8_c := rowsOf u8_c
  let lenI_Change := @lenI Change
  have hL : (⟨ar, cm, bo, sc, sa, sx, ss, sl, bs, sb, ln, sr, ap, up, rp, fr, ge, le, lt, nz, mm, ma, sm, fl, al, ci⟩ : Lf) = Ls := rfl
  show AC Try.prog 6 [.v (.im true (eu8_c a0))] _ _
  refine AC.of_run2 tab_ok Try.func6 (by rfl) (by rfl) (by cbv) ⟨by decide, rfl⟩ fun F hP hA => ?_
  have hT : TabOk F.P tab := hP ▸ tab_ok
  have hM : F.P.follows .mixedOrders = true := hP ▸ mixed
  have hC : ∀ {f a o r}, AC Try.prog f a o r → AC F.P f a o r := fun h => hP ▸ h
  refine Run.seq ?_
  refine Run.region hL hT [] (by cbv) ?_ ?_
  · exact hq0
  refine Run.seq ?_
  obtain ⟨⟨r1v_b, r1v_i, r1v_h⟩, h_r1, h⟩ := bnd h
  refine Run.region hL hT [(1, .call [true] [.v (.jk)] [.v (.bx 82 [.im true (eu8_c r1v_b), .s (.int .i64 r1v_i), .s (.int .i64 r1v_h)])])] (by cbv) ?_ ?_
  · exact (hq (hC (spec_l1New_ac h_r1)) hq0)
  refine Run.seq ?_
  obtain ⟨⟨⟨r2v_1v_b, r2v_1v_i, r2v_1v_h⟩, ⟨⟨r2v_2v_1v_Schemav_Cols⟩, r2v_2v_1v_Version, r2v_2v_1v_Tables⟩, ⟨r2v_2v_2v_1v_Table, r2v_2v_2v_1v_Where, r2v_2v_2v_1v_Order, r2v_2v_2v_1v_Down, r2v_2v_2v_1v_First, r2v_2v_2v_1v_Show, r2v_2v_2v_1v_Kids, r2v_2v_2v_1v_KidTable, r2v_2v_2v_1v_KidCol⟩, r2v_2v_2v_2⟩, h_r2, h⟩ := bnd h
  refine Run.region hL hT [(1, .call [true] [.v (.bx 82 [.im true (eu8_c r1v_b), .s (.int .i64 r2v_1v_i), .s (.int .i64 r2v_1v_h)])] [.ag [.ow 3 (eInt_c r2v_2v_1v_Schemav_Cols), .s (.int .i64 r2v_2v_1v_Version), .ow 46 (eRowS_o r2v_2v_1v_Tables)], .ag [.s (.int .i64 r2v_2v_2v_1v_Table), .ow 90 (eCond_c r2v_2v_2v_1v_Where), .s (.int .i64 r2v_2v_2v_1v_Order), .s (.bool r2v_2v_2v_1v_Down), .s (.int .i64 r2v_2v_2v_1v_First), .ow 3 (eInt_c r2v_2v_2v_1v_Show), .s (.bool r2v_2v_2v_1v_Kids), .s (.int .i64 r2v_2v_2v_1v_KidTable), .s (.int .i64 r2v_2v_2v_1v_KidCol)], .v (.ow 31 (eChange_o r2v_2v_2v_2))])] (by cbv) ?_ ?_
  · exact (hq (hC (spec_l12Draw_ac h_r2)) (hq trivial (hq trivial hq0)))
  refine Run.seq ?_
  obtain ⟨⟨⟨r3v_1v_b, r3v_1v_i, r3v_1v_h⟩, r3v_2⟩, h_r3, h⟩ := bnd h
  obtain ⟨⟨⟨r4v_1v_b, r4v_1v_i, r4v_1v_h⟩, r4v_2⟩, h_r4, h⟩ := bnd h
  obtain ⟨⟨⟨r5v_1v_b, r5v_1v_i, r5v_1v_h⟩, r5v_2⟩, h_r5, h⟩ := bnd h
  refine Run.region hL hT [(1, .call [true, false] [.v (.bx 82 [.im true (eu8_c r1v_b), .s (.int .i64 r3v_1v_i), .s (.int .i64 r3v_1v_h)]), .v (.jk)] [.v (.s (.int .i64 r3v_2))]), (3, .call [true, false] [.v (.bx 82 [.im true (eu8_c r1v_b), .s (.int .i64 r4v_1v_i), .s (.int .i64 r4v_1v_h)]), .v (.jk)] [.v (.s (.bool r4v_2))]), (5, .call [true, false] [.v (.bx 82 [.im true (eu8_c r1v_b), .s (.int .i64 r5v_1v_i), .s (.int .i64 r5v_1v_h)]), .v (.jk)] [.v (.s (.bool r5v_2))])] (by cbv) ?_ ?_
  · exact (hq (hC (spec_l1Below_ac h_r3)) (hq (hC (spec_l1Once_ac h_r4)) (hq (hC (spec_l1Once_ac h_r5)) (hq trivial hq0))))
  refine Run.seq ?_
  refine Run.seq ?_
  obtain ⟨⟨⟨r6v_1v_b, r6v_1v_i, r6v_1v_h⟩, r6v_2⟩, h_r6, h⟩ := bnd h
  refine Run.region hL hT [(5, .call [true, false] [.v (.bx 82 [.im true (eu8_c r1v_b), .s (.int .i64 r6v_1v_i), .s (.int .i64 r6v_1v_h)]), .v (.jk)] [.v (.s (.bool r6v_2))])] (by cbv) ?_ ?_
  · exact (hq trivial (hq (fun _ => hq0) (hq (fun g8 => (by have g8C := g8; rw [show ln (eChange_o r2v_2v_2v_2) = lenI_Change r2v_2v_2v_2 from ln_eq Change_o _] at g8C; exact (hq g8 (hq (hC (spec_l1Once_ac (gd_t h_r6 g8C))) hq0)))) (hq trivial (hq trivial (hq trivial (hq (fun g9 => (by have g9C := g9; rw [show ln (eChange_o r2v_2v_2v_2) = lenI_Change r2v_2v_2v_2 from ln_eq Change_o _] at g9C; exact (hq g9 hq0))) (hq (fun q10 => (by have q10C := q10; rw [show ln (eChange_o r2v_2v_2v_2) = lenI_Change r2v_2v_2v_2 from ln_eq Change_o _] at q10C; exact (hq q10 hq0))) (hq (fun _ => hq0) hq0)))))))))
  rw [show ln (eChange_o r2v_2v_2v_2) = lenI_Change r2v_2v_2v_2 from ln_eq Change_o _]
  refine Run.cond (by cbv) (hq0) (fun c12 => ?_) (fun c12 => ?_)
  · have h := if_t c12 h
    obtain ⟨⟨⟨r13v_1v_b, r13v_1v_i, r13v_1v_h⟩, r13v_2⟩, h_r13, h⟩ := bnd h
    obtain ⟨⟨x14v_Table, x14v_Had, x14v_Has, ⟨x14v_Oldv_Id, x14v_Oldv_Cells⟩, ⟨x14v_Newv_Id, x14v_Newv_Cells⟩⟩, h_x14, h⟩ := bnd h
    refine Run.region hL hT [(4, .call [true, false] [.v (.bx 82 [.im true (eu8_c r1v_b), .s (.int .i64 r13v_1v_i), .s (.int .i64 r13v_1v_h)]), .v (.jk)] [.v (.s (.int .i64 r13v_2))]), (6, .hd [9217] (.ag [.t (.s (.int .i64 x14v_Table)), .t (.s (.bool x14v_Had)), .t (.s (.bool x14v_Has)), .t (.s (.int .i64 x14v_Oldv_Id)), .rf 20486, .t (.s (.int .i64 x14v_Newv_Id)), .rf 20742]) [(20742, .row 0 3 1 (eInt_c x14v_Newv_Cells)), (20486, .row 0 3 1 (eInt_c x14v_Oldv_Cells)), (9217, .dead)])] (by cbv) ?_ ?_
    · exact (hq (by rw [show ln (eChange_o r2v_2v_2v_2) = lenI_Change r2v_2v_2v_2 from ln_eq Change_o _]; exact (hC (spec_l1Below_ac h_r13))) (hq (get_le h_x14) (hq (get_lt (f := Change_o) h_x14) (hq (hand_load_take (nid := 20486) (i := r13v_2) (es := [.s (.int .i64 x14v_Table), .s (.bool x14v_Had), .s (.bool x14v_Has), .s (.int .i64 x14v_Oldv_Id), .ow 3 (eInt_c x14v_Oldv_Cells), .s (.int .i64 x14v_Newv_Id), .ow 3 (eInt_c x14v_Newv_Cells)]) hT (by rfl) (by rfl) (by rfl) (get_le h_x14) (get_lt (f := Change_o) h_x14) (get_ge (f := Change_o) h_x14) (by rfl) (by rfl) (by rfl)) (hq trivial hq0)))))
    rw [show ln (eChange_o r2v_2v_2v_2) = lenI_Change r2v_2v_2v_2 from ln_eq Change_o _]
    refine Run.seq ?_
    refine Run.draw hL hT hM [] (by cbv) (by cbv) (by cbv) (by cbv) (by cbv) ?_ ?_
    · exact (hq trivial (hq trivial (hq trivial (hq trivial hq0))))
    refine Run.ret ?_
    cases h
    refine ⟨_, _, by cbv, ?_, ?_⟩
    · exact LLe.r
    · exact (ALe.ag rfl LLe.r (ALe.ag rfl LLe.r ALe.nil))
  · have h := if_f c12 h
    refine Run.skip ?_
    refine Run.seq ?_
    refine Run.draw hL hT hM [] (by cbv) (by cbv) (by cbv) (by cbv) (by cbv) ?_ ?_
    · exact (hq trivial (hq trivial (hq trivial (hq trivial hq0))))
    refine Run.ret ?_
    cases h
    refine ⟨_, _, by cbv, ?_, ?_⟩
    · exact LLe.r
    · exact (ALe.ag rfl LLe.r (ALe.ag rfl (LLe.c (LLe.c (LLe.c (LLe.c (LLe.cons LLe.nilO (LLe.c (LLe.cons LLe.nilO LLe.nil))))))) ALe.nil))

set_option maxRecDepth 8000 in
theorem spec_l9Draw_ac {a0v_b : List Int} {a0v_i : Int} {a0v_h : Int} {a1v_Cols : List Int} {r : l1Cur × Query} (h : spec_l9Draw.f (l1Cur.mk a0v_b a0v_i a0v_h) (Schema.mk a1v_Cols) = some r) : AC Try.prog 31 [.v (.bx 82 [.im true (rowsOf u8_c a0v_b), .s (.int .i64 a0v_i), .s (.int .i64 a0v_h)]), .ag [.im false (rowsOf Int_c a1v_Cols)]] [.v (.bx 82 [.im true (rowsOf u8_c a0v_b), .s (.int .i64 r.1.i), .s (.int .i64 r.1.h)]), .ag [.jk]] [.ag [.s (.int .i64 r.2.Table), .ow 90 (rowsOf Cond_c r.2.Where), .s (.int .i64 r.2.Order), .s (.bool r.2.Down), .s (.int .i64 r.2.First), .ow 3 (rowsOf Int_c r.2.Show), .s (.bool r.2.Kids), .s (.int .i64 r.2.KidTable), .s (.int .i64 r.2.KidCol)]] := by
  unfold spec_l9Draw.f at h
  let ar := Ls.ar; let cm := Ls.cm; let bo := Ls.bo; let sc := Ls.sc; let sa := Ls.sa; let sx := Ls.sx; let ss := Ls.ss; let sl := Ls.sl; let bs := Ls.bs; let sb := Ls.sb; let ln := Ls.ln; let sr := Ls.sr; let ap := Ls.ap; let up := Ls.up; let rp := Ls.rp; let fr := Ls.fr; let ge := Ls.ge; let le := Ls.le; let lt := Ls.lt; let nz := Ls.nz; let mm := Ls.mm; let ma := Ls.ma; let sm := Ls.sm; let fl := Ls.fl; let al := Ls.al; let ci := Ls.ci
  let eCond_c := rowsOf Cond_c
  let eInt_c := rowsOf Int_c
  let eu8_c := rowsOf u8_c
  have hL : (⟨ar, cm, bo, sc, sa, sx, ss, sl, bs, sb, ln, sr, ap, up, rp, fr, ge, le, lt, nz, mm, ma, sm, fl, al, ci⟩ : Lf) = Ls := rfl
  show AC Try.prog 31 [.v (.bx 82 [.im true (eu8_c a0v_b), .s (.int .i64 a0v_i), .s (.int .i64 a0v_h)]), .ag [.im false (eInt_c a1v_Cols)]] _ _
  refine AC.of_run2 tab_ok Try.func31 (by rfl) (by rfl) (by cbv) ⟨by decide, rfl⟩ fun F hP hA => ?_
  have hT : TabOk F.P tab := hP ▸ tab_ok
  have hM : F.P.follows .mixedOrders = true := hP ▸ mixed
  have hC : ∀ {f a o r}, AC Try.prog f a o r → AC F.P f a o r := fun h => hP ▸ h
  refine Run.seq ?_
  refine Run.region hL hT [] (by cbv) ?_ ?_
  · exact hq0
  refine Run.seq ?_
  obtain ⟨⟨⟨r1v_1v_b, r1v_1v_i, r1v_1v_h⟩, ⟨r1v_2v_Table, r1v_2v_Where, r1v_2v_Order, r1v_2v_Down, r1v_2v_First, r1v_2v_Show, r1v_2v_Kids, r1v_2v_KidTable, r1v_2v_KidCol⟩⟩, h_r1, h⟩ := bnd h
  refine Run.region hL hT [(2, .call [true, false] [.v (.bx 82 [.im true (eu8_c a0v_b), .s (.int .i64 r1v_1v_i), .s (.int .i64 r1v_1v_h)]), .ag [.jk]] [.ag [.s (.int .i64 r1v_2v_Table), .ow 90 (eCond_c r1v_2v_Where), .s (.int .i64 r1v_2v_Order), .s (.bool r1v_2v_Down), .s (.int .i64 r1v_2v_First), .ow 3 (eInt_c r1v_2v_Show), .s (.bool r1v_2v_Kids), .s (.int .i64 r1v_2v_KidTable), .s (.int .i64 r1v_2v_KidCol)]])] (by cbv) ?_ ?_
  · exact (hq trivial (hq (hC (spec_l9DrawRight_ac h_r1)) (hq trivial hq0)))
  refine Run.seq ?_
  refine Run.seq ?_
  obtain ⟨⟨⟨r2v_1v_b, r2v_1v_i, r2v_1v_h⟩, r2v_2⟩, h_r2, h⟩ := bnd h
  refine Run.region hL hT [(1, .call [true, false] [.v (.bx 82 [.im true (eu8_c a0v_b), .s (.int .i64 r2v_1v_i), .s (.int .i64 r2v_1v_h)]), .v (.jk)] [.v (.s (.int .i64 r2v_2))])] (by cbv) ?_ ?_
  · exact (hq (hC (spec_l1Below_ac h_r2)) hq0)
  refine Run.block ?_
  refine Run.seq ?_
  refine Run.region hL hT [] (by cbv) ?_ ?_
  · exact (hq trivial hq0)
  refine Run.cond (by cbv) (hq0) (fun c3 => ?_) (fun c3 => ?_)
  · have h := if_t c3 h
    obtain ⟨⟨⟨r4v_1v_b, r4v_1v_i, r4v_1v_h⟩, r4v_2⟩, h_r4, h⟩ := bnd h
    refine Run.region hL hT [(1, .call [true, false] [.v (.bx 82 [.im true (eu8_c a0v_b), .s (.int .i64 r4v_1v_i), .s (.int .i64 r4v_1v_h)]), .v (.jk)] [.v (.s (.int .i64 r4v_2))])] (by cbv) ?_ ?_
    · exact (hq (hC (spec_l1Below_ac h_r4)) (hq trivial (hq trivial hq0)))
    refine Run.seq ?_
    refine Run.region hL hT [] (by cbv) ?_ ?_
    · exact (hq trivial (hq trivial hq0))
    refine Run.ret ?_
    cases h
    refine ⟨_, _, by cbv, ?_, ?_⟩
    · exact LLe.r
    · exact (ALe.ag rfl LLe.r ALe.nil)
  · have h := if_f c3 h
    refine Run.seq ?_
    refine Run.region hL hT [] (by cbv) ?_ ?_
    · exact (hq trivial hq0)
    refine Run.cond (by cbv) (hq0) (fun c5 => ?_) (fun c5 => ?_)
    · have h := if_t c5 h
      obtain ⟨⟨⟨r6v_1v_b, r6v_1v_i, r6v_1v_h⟩, r6v_2⟩, h_r6, h⟩ := bnd h
      obtain ⟨⟨⟨r7v_1v_b, r7v_1v_i, r7v_1v_h⟩, r7v_2⟩, h_r7, h⟩ := bnd h
      obtain ⟨l8, h_l8, h⟩ := bnd h
      obtain ⟨⟨⟨r9v_1v_b, r9v_1v_i, r9v_1v_h⟩, r9v_2⟩, h_r9, h⟩ := bnd h
      obtain ⟨l10, h_l10, h⟩ := bnd h
      obtain ⟨l11, h_l11, h⟩ := bnd h
      refine Run.draw hL hT hM [(3, .call [true, false] [.v (.bx 82 [.im true (eu8_c a0v_b), .s (.int .i64 r6v_1v_i), .s (.int .i64 r6v_1v_h)]), .v (.jk)] [.v (.s (.int .i64 r6v_2))]), (6, .call [true, false] [.v (.bx 82 [.im true (eu8_c a0v_b), .s (.int .i64 r7v_1v_i), .s (.int .i64 r7v_1v_h)]), .v (.jk)] [.v (.s (.int .i64 r7v_2))]), (9, .call [true, false] [.v (.bx 82 [.im true (eu8_c a0v_b), .s (.int .i64 r9v_1v_i), .s (.int .i64 r9v_1v_h)]), .v (.jk)] [.v (.s (.int .i64 r9v_2))])] (by cbv) (by cbv) (by cbv) (by cbv) (by cbv) ?_ ?_
      · exact (hq trivial (hq (hC (spec_l1Below_ac h_r6)) (hq trivial (hq (hC (spec_l1Below_ac h_r7)) (hq (hC (AC.args (spec_l1PickInt_ac h_r9) (ALe.v LLe.r (ALe.v (fr_lit rfl (some_le (f := Int_c) h_l8 (RLe.cons rfl LLe.r (RLe.cons rfl LLe.r RLe.nil)))) ALe.nil)))) (hq (app_mb (P := Try.prog) (f := Cond_c) RLe.r (some_le (f := Cond_c) h_l10 (RLe.cons rfl LLe.r RLe.nil)) h_l11) (hq trivial hq0)))))))
      refine Run.row (rows := [[.s (.int .i64 0)], [.s (.int .i64 1000000001)]]) 20489 (eInt_c l8) (by cbv) (some_le (f := Int_c) h_l8 (RLe.cons rfl LLe.r (RLe.cons rfl LLe.r RLe.nil))) ?_
      refine Run.row (rows := (ap (eCond_c r1v_2v_Where) ([[.s (.int .i64 (ar .sub .i64 r6v_2 1)), .s (.int .i64 r7v_2), .s (.int .i64 r9v_2)]]))) 20493 (eCond_c l11) (by cbv) (app_le (f := Cond_c) RLe.r (some_le (f := Cond_c) h_l10 (RLe.cons rfl LLe.r RLe.nil)) h_l11) ?_
      refine Run.seq ?_
      refine Run.region hL hT [] (by cbv) ?_ ?_
      · exact (hq trivial (hq trivial hq0))
      refine Run.ret ?_
      cases h
      refine ⟨_, _, by cbv, ?_, ?_⟩
      · exact LLe.r
      · exact (ALe.ag rfl LLe.r ALe.nil)
    · have h := if_f c5 h
      refine Run.seq ?_
      refine Run.region hL hT [] (by cbv) ?_ ?_
      · exact (hq trivial hq0)
      refine Run.cond (by cbv) (hq0) (fun c12 => ?_) (fun c12 => ?_)
      · have h := if_t c12 h
        obtain ⟨⟨⟨r13v_1v_b, r13v_1v_i, r13v_1v_h⟩, r13v_2⟩, h_r13, h⟩ := bnd h
        refine Run.region hL hT [(1, .call [true, false] [.v (.bx 82 [.im true (eu8_c a0v_b), .s (.int .i64 r13v_1v_i), .s (.int .i64 r13v_1v_h)]), .v (.jk)] [.v (.s (.int .i64 r13v_2))])] (by cbv) ?_ ?_
        · exact (hq (hC (spec_l1Below_ac h_r13)) (hq trivial (hq trivial hq0)))
        refine Run.seq ?_
        refine Run.region hL hT [] (by cbv) ?_ ?_
        · exact (hq trivial (hq trivial hq0))
        refine Run.ret ?_
        cases h
        refine ⟨_, _, by cbv, ?_, ?_⟩
        · exact LLe.r
        · exact (ALe.ag rfl LLe.r ALe.nil)
      · have h := if_f c12 h
        refine Run.seq ?_
        refine Run.region hL hT [] (by cbv) ?_ ?_
        · exact (hq trivial hq0)
        refine Run.cond (by cbv) (hq0) (fun c14 => ?_) (fun c14 => ?_)
        · have h := if_t c14 h
          obtain ⟨l15, h_l15, h⟩ := bnd h
          obtain ⟨⟨⟨r16v_1v_b, r16v_1v_i, r16v_1v_h⟩, r16v_2⟩, h_r16, h⟩ := bnd h
          refine Run.region hL hT [(2, .call [true, false] [.v (.bx 82 [.im true (eu8_c a0v_b), .s (.int .i64 r16v_1v_i), .s (.int .i64 r16v_1v_h)]), .v (.jk)] [.v (.s (.int .i64 r16v_2))])] (by cbv) ?_ ?_
          · exact (hq (hC (AC.args (spec_l1PickInt_ac h_r16) (ALe.v LLe.r (ALe.v (fr_lit rfl (some_le (f := Int_c) h_l15 (RLe.cons rfl LLe.r (RLe.cons rfl LLe.r (RLe.cons rfl LLe.r RLe.nil))))) ALe.nil)))) (hq trivial hq0))
          refine Run.row (rows := [[.s (.int .i64 (-1))], [.s (.int .i64 24)], [.s (.int .i64 25)]]) 28674 (eInt_c l15) (by cbv) (some_le (f := Int_c) h_l15 (RLe.cons rfl LLe.r (RLe.cons rfl LLe.r (RLe.cons rfl LLe.r RLe.nil)))) ?_
          refine Run.seq ?_
          refine Run.region hL hT [] (by cbv) ?_ ?_
          · exact (hq trivial (hq trivial hq0))
          refine Run.ret ?_
          cases h
          refine ⟨_, _, by cbv, ?_, ?_⟩
          · exact LLe.r
          · exact (ALe.ag rfl LLe.r ALe.nil)
        · have h := if_f c14 h
          refine Run.seq ?_
          refine Run.region hL hT [] (by cbv) ?_ ?_
          · exact (hq trivial hq0)
          refine Run.cond (by cbv) (hq0) (fun c17 => ?_) (fun c17 => ?_)
          · have h := if_t c17 h
            obtain ⟨⟨⟨r18v_1v_b, r18v_1v_i, r18v_1v_h⟩, r18v_2⟩, h_r18, h⟩ := bnd h
            obtain ⟨l19, h_l19, h⟩ := bnd h
            obtain ⟨l20, h_l20, h⟩ := bnd h
            refine Run.draw hL hT hM [(3, .call [true, false] [.v (.bx 82 [.im true (eu8_c a0v_b), .s (.int .i64 r18v_1v_i), .s (.int .i64 r18v_1v_h)]), .v (.jk)] [.v (.s (.int .i64 r18v_2))])] (by cbv) (by cbv) (by cbv) (by cbv) (by cbv) ?_ ?_
            · exact (hq trivial (hq (hC (spec_l1Below_ac h_r18)) (hq (app_mb (P := Try.prog) (f := Int_c) RLe.r (some_le (f := Int_c) h_l19 (RLe.cons rfl LLe.r RLe.nil)) h_l20) (hq trivial hq0))))
            refine Run.row (rows := (ap (eInt_c r1v_2v_Show) ([[.s (.int .i64 r18v_2)]]))) 32774 (eInt_c l20) (by cbv) (app_le (f := Int_c) RLe.r (some_le (f := Int_c) h_l19 (RLe.cons rfl LLe.r RLe.nil)) h_l20) ?_
            refine Run.seq ?_
            refine Run.region hL hT [] (by cbv) ?_ ?_
            · exact (hq trivial (hq trivial hq0))
            refine Run.ret ?_
            cases h
            refine ⟨_, _, by cbv, ?_, ?_⟩
            · exact LLe.r
            · exact (ALe.ag rfl LLe.r ALe.nil)
          · have h := if_f c17 h
            refine Run.seq ?_
            refine Run.region hL hT [] (by cbv) ?_ ?_
            · exact (hq trivial hq0)
            refine Run.cond (by cbv) (hq0) (fun c21 => ?_) (fun c21 => ?_)
            · have h := if_t c21 h
              obtain ⟨⟨⟨r22v_1v_b, r22v_1v_i, r22v_1v_h⟩, r22v_2⟩, h_r22, h⟩ := bnd h
              refine Run.region hL hT [(1, .call [true, false] [.v (.bx 82 [.im true (eu8_c a0v_b), .s (.int .i64 r22v_1v_i), .s (.int .i64 r22v_1v_h)]), .v (.jk)] [.v (.s (.int .i64 r22v_2))])] (by cbv) ?_ ?_
              · exact (hq (hC (spec_l1Below_ac h_r22)) (hq trivial (hq trivial hq0)))
              refine Run.seq ?_
              refine Run.region hL hT [] (by cbv) ?_ ?_
              · exact (hq trivial (hq trivial hq0))
              refine Run.ret ?_
              cases h
              refine ⟨_, _, by cbv, ?_, ?_⟩
              · exact LLe.r
              · exact (ALe.ag rfl LLe.r ALe.nil)
            · have h := if_f c21 h
              refine Run.skip ?_
              refine Run.seq ?_
              refine Run.region hL hT [] (by cbv) ?_ ?_
              · exact (hq trivial (hq trivial hq0))
              refine Run.ret ?_
              cases h
              refine ⟨_, _, by cbv, ?_, ?_⟩
              · exact LLe.r
              · exact (ALe.ag rfl LLe.r ALe.nil)

set_option maxRecDepth 8000 in
theorem spec_DrawConcerned_ac {a0 : List Int} {r : Schema × (List Query) × (List Change)} (h : spec_DrawConcerned.f a0 = some r) : AC Try.prog 9 [.v (.im true (rowsOf u8_c a0))] [.v (.jk)] [.ag [.ow 3 (rowsOf Int_c r.1.Cols)], .v (.ow 27 (rowsOf Query_o r.2.1)), .v (.ow 31 (rowsOf Change_o r.2.2))] := by
  unfold spec_DrawConcerned.f at h
  let ar := Ls.ar; let cm := Ls.cm; let bo := Ls.bo; let sc := Ls.sc; let sa := Ls.sa; let sx := Ls.sx; let ss := Ls.ss; let sl := Ls.sl; let bs := Ls.bs; let sb := Ls.sb; let ln := Ls.ln; let sr := Ls.sr; let ap := Ls.ap; let up := Ls.up; let rp := Ls.rp; let fr := Ls.fr; let ge := Ls.ge; let le := Ls.le; let lt := Ls.lt; let nz := Ls.nz; let mm := Ls.mm; let ma := Ls.ma; let sm := Ls.sm; let fl := Ls.fl; let al := Ls.al; let ci := Ls.ci
  let eChange_o := rowsOf Change_o
  let eCond_c := rowsOf Cond_c
  let eInt_c := rowsOf Int_c
  let eQuery_o := rowsOf Query_o
  let eRowS_o := rowsOf RowS_o
  let eu8_c := rowsOf u8_c
  have hL : (⟨ar, cm, bo, sc, sa, sx, ss, sl, bs, sb, ln, sr, ap, up, rp, fr, ge, le, lt, nz, mm, ma, sm, fl, al, ci⟩ : Lf) = Ls := rfl
  show AC Try.prog 9 [.v (.im true (eu8_c a0))] _ _
  refine AC.of_run2 tab_ok Try.func9 (by rfl) (by rfl) (by cbv) ⟨by decide, rfl⟩ fun F hP hA => ?_
  have hT : TabOk F.P tab := hP ▸ tab_ok
  have hM : F.P.follows .mixedOrders = true := hP ▸ mixed
  have hC : ∀ {f a o r}, AC Try.prog f a o r → AC F.P f a o r := fun h => hP ▸ h
  refine Run.seq ?_
  refine Run.region hL hT [] (by cbv) ?_ ?_
  · exact hq0
  refine Run.seq ?_
  obtain ⟨⟨r1v_b, r1v_i, r1v_h⟩, h_r1, h⟩ := bnd h
  refine Run.region hL hT [(1, .call [true] [.v (.jk)] [.v (.bx 82 [.im true (eu8_c r1v_b), .s (.int .i64 r1v_i), .s (.int .i64 r1v_h)])])] (by cbv) ?_ ?_
  · exact (hq (hC (spec_l1New_ac h_r1)) hq0)
  refine Run.seq ?_
  obtain ⟨⟨⟨r2v_1v_b, r2v_1v_i, r2v_1v_h⟩, ⟨⟨r2v_2v_1v_Schemav_Cols⟩, r2v_2v_1v_Version, r2v_2v_1v_Tables⟩, ⟨r2v_2v_2v_1v_Table, r2v_2v_2v_1v_Where, r2v_2v_2v_1v_Order, r2v_2v_2v_1v_Down, r2v_2v_2v_1v_First, r2v_2v_2v_1v_Show, r2v_2v_2v_1v_Kids, r2v_2v_2v_1v_KidTable, r2v_2v_2v_1v_KidCol⟩, r2v_2v_2v_2⟩, h_r2, h⟩ := bnd h
  refine Run.region hL hT [(1, .call [true] [.v (.bx 82 [.im true (eu8_c r1v_b), .s (.int .i64 r2v_1v_i), .s (.int .i64 r2v_1v_h)])] [.ag [.ow 3 (eInt_c r2v_2v_1v_Schemav_Cols), .s (.int .i64 r2v_2v_1v_Version), .ow 46 (eRowS_o r2v_2v_1v_Tables)], .ag [.s (.int .i64 r2v_2v_2v_1v_Table), .ow 90 (eCond_c r2v_2v_2v_1v_Where), .s (.int .i64 r2v_2v_2v_1v_Order), .s (.bool r2v_2v_2v_1v_Down), .s (.int .i64 r2v_2v_2v_1v_First), .ow 3 (eInt_c r2v_2v_2v_1v_Show), .s (.bool r2v_2v_2v_1v_Kids), .s (.int .i64 r2v_2v_2v_1v_KidTable), .s (.int .i64 r2v_2v_2v_1v_KidCol)], .v (.ow 31 (eChange_o r2v_2v_2v_2))])] (by cbv) ?_ ?_
  · exact (hq (hC (spec_l12Draw_ac h_r2)) (hq trivial (hq trivial hq0)))
  refine Run.seq ?_
  obtain ⟨l3, h_l3, h⟩ := bnd h
  refine Run.region hL hT [] (by cbv) ?_ ?_
  · exact (hq trivial hq0)
  refine Run.row (rows := [[.s (.int .i64 r2v_2v_2v_1v_Table), .ow 90 (eCond_c r2v_2v_2v_1v_Where), .s (.int .i64 r2v_2v_2v_1v_Order), .s (.bool r2v_2v_2v_1v_Down), .s (.int .i64 r2v_2v_2v_1v_First), .ow 3 (eInt_c r2v_2v_2v_1v_Show), .s (.bool r2v_2v_2v_1v_Kids), .s (.int .i64 r2v_2v_2v_1v_KidTable), .s (.int .i64 r2v_2v_2v_1v_KidCol)]]) 12289 (eQuery_o l3) (by cbv) (some_le (f := Query_o) h_l3 (RLe.cons rfl LLe.r RLe.nil)) ?_
  refine Run.seq ?_
  refine Run.seq ?_
  refine Run.region hL hT [] (by cbv) ?_ ?_
  · exact hq0
  refine Run.block ?_
  refine Run.loop4 (fun (z13 : Int) (z14 : Int) (z15 : List Query) (z16 : Int) => ⟨38, 100000, [(2, .pt 1 0 0), (5, .pt 2 0 0), (6, .pt 3 0 0), (8, .rf 6), (9, .rf 7), (10, .t (.s (.int .i64 z16)))], [(1, .box 36 [.t (.s (.slice none 0 0))]), (2, .box 82 [.t (.im true (eu8_c r1v_b)), .t (.s (.int .i64 z13)), .t (.s (.int .i64 z14))]), (3, .box 62 [.rf 4, .t (.s (.int .i64 r2v_2v_1v_Version)), .rf 5]), (4, .row 0 3 1 (eInt_c r2v_2v_1v_Schemav_Cols)), (5, .row 0 46 1 (eRowS_o r2v_2v_1v_Tables)), (6, .row 0 31 7 (eChange_o r2v_2v_2v_2)), (7, .row 0 27 9 (eQuery_o z15))]⟩) (x0 := r2v_1v_i) (x1 := r2v_1v_h) (x2 := l3) (x3 := 0) h (Weak.of _ [(1, 0), (2, 4097), (3, 8198), (4, 8193), (5, 8449), (6, 9217), (7, 12289)] hA (by cbv) ?_) (fun _ _ _ _ => rfl) ?_
  · repeat (first | exact hq0 | refine hq (by first | exact True.intro | rfl) ?_)
  · intro k z13 z14 z15 z16 h
    rw [spec_DrawConcerned.l0] at h
    refine Run.seq ?_
    refine Run.seq ?_
    obtain ⟨⟨⟨r17v_1v_b, r17v_1v_i, r17v_1v_h⟩, r17v_2⟩, h_r17, h⟩ := bnd h
    refine Run.region hL hT [(2, .call [true, false] [.v (.bx 82 [.im true (eu8_c r1v_b), .s (.int .i64 r17v_1v_i), .s (.int .i64 r17v_1v_h)]), .v (.jk)] [.v (.s (.int .i64 r17v_2))])] (by cbv) ?_ ?_
    · exact (hq (hC (spec_l1Below_ac h_r17)) (hq trivial hq0))
    refine Run.cond (by cbv) (hq0) (fun c18 => ?_) (fun c18 => ?_)
    · have h := if_t c18 h
      refine Run.skip ?_
      refine Run.seq ?_
      refine Run.block ?_
      obtain ⟨⟨⟨r19v_1v_b, r19v_1v_i, r19v_1v_h⟩, ⟨r19v_2v_Table, r19v_2v_Where, r19v_2v_Order, r19v_2v_Down, r19v_2v_First, r19v_2v_Show, r19v_2v_Kids, r19v_2v_KidTable, r19v_2v_KidCol⟩⟩, h_r19, h⟩ := bnd h
      obtain ⟨l20, h_l20, h⟩ := bnd h
      obtain ⟨l21, h_l21, h⟩ := bnd h
      refine Run.region hL hT [(4, .call [true, false] [.v (.bx 82 [.im true (eu8_c r1v_b), .s (.int .i64 r19v_1v_i), .s (.int .i64 r19v_1v_h)]), .ag [.jk]] [.ag [.s (.int .i64 r19v_2v_Table), .ow 90 (eCond_c r19v_2v_Where), .s (.int .i64 r19v_2v_Order), .s (.bool r19v_2v_Down), .s (.int .i64 r19v_2v_First), .ow 3 (eInt_c r19v_2v_Show), .s (.bool r19v_2v_Kids), .s (.int .i64 r19v_2v_KidTable), .s (.int .i64 r19v_2v_KidCol)]])] (by cbv) ?_ ?_
      · exact (hq trivial (hq (hC (AC.args (spec_l9Draw_ac h_r19) (ALe.v LLe.r (ALe.ag rfl (LLe.cons (LLe.im (RLe.eq (fr_row Int_c_z _))) LLe.nil) ALe.nil)))) (hq (app_mb (P := Try.prog) (f := Query_o) RLe.r (some_le (f := Query_o) h_l20 (RLe.cons rfl LLe.r RLe.nil)) h_l21) hq0)))
      refine Run.row (rows := (ap (eQuery_o z15) ([[.s (.int .i64 r19v_2v_Table), .ow 90 (eCond_c r19v_2v_Where), .s (.int .i64 r19v_2v_Order), .s (.bool r19v_2v_Down), .s (.int .i64 r19v_2v_First), .ow 3 (eInt_c r19v_2v_Show), .s (.bool r19v_2v_Kids), .s (.int .i64 r19v_2v_KidTable), .s (.int .i64 r19v_2v_KidCol)]]))) 104102 (eQuery_o l21) (by cbv) (app_le (f := Query_o) RLe.r (some_le (f := Query_o) h_l20 (RLe.cons rfl LLe.r RLe.nil)) h_l21) ?_
      refine Run.region hL hT [] (by cbv) ?_ ?_
      · exact (hq trivial hq0)
      refine ⟨r19v_1v_i, r19v_1v_h, l21, (ar .add .i64 z16 1), h, Weak.of _ [(1, 1), (2, 2), (3, 3), (4, 4), (5, 5), (6, 6), (7, 104102)] hA (by cbv) ?_⟩
      repeat (first | exact hq0 | refine hq (by first | exact True.intro | rfl) ?_)
    · have h := if_f c18 h
      refine Run.exit ?_
      refine Run.seq ?_
      refine Run.region hL hT [] (by cbv) ?_ ?_
      · exact (hq trivial (hq trivial hq0))
      refine Run.ret ?_
      cases h
      refine ⟨_, _, by cbv, ?_, ?_⟩
      · exact LLe.r
      · exact (ALe.ag rfl LLe.r (ALe.v LLe.r (ALe.v LLe.r ALe.nil)))

set_option maxRecDepth 8000 in
theorem laws_FnTouched_ac {a0 : List Int} {r : Bool} (h : laws_FnTouched.f a0 = some r) : AC Try.prog 3 [.v (.im true (rowsOf u8_c a0))] [.v (.jk)] [.v (.s (.bool r))] := by
  unfold laws_FnTouched.f at h
  let ar := Ls.ar; let cm := Ls.cm; let bo := Ls.bo; let sc := Ls.sc; let sa := Ls.sa; let sx := Ls.sx; let ss := Ls.ss; let sl := Ls.sl; let bs := Ls.bs; let sb := Ls.sb; let ln := Ls.ln; let sr := Ls.sr; let ap := Ls.ap; let up := Ls.up; let rp := Ls.rp; let fr := Ls.fr; let ge := Ls.ge; let le := Ls.le; let lt := Ls.lt; let nz := Ls.nz; let mm := Ls.mm; let ma := Ls.ma; let sm := Ls.sm; let fl := Ls.fl; let al := Ls.al; let ci := Ls.ci
  let eChange_o := rowsOf Change_o
  let eCond_c := rowsOf Cond_c
  let eInt_c := rowsOf Int_c
  let eQuery_o := rowsOf Query_o
  let eu8_c := rowsOf u8_c
  let lenI_Int := @lenI Int
  have hL : (⟨ar, cm, bo, sc, sa, sx, ss, sl, bs, sb, ln, sr, ap, up, rp, fr, ge, le, lt, nz, mm, ma, sm, fl, al, ci⟩ : Lf) = Ls := rfl
  show AC Try.prog 3 [.v (.im true (eu8_c a0))] _ _
  refine AC.of_run2 tab_ok Try.func3 (by rfl) (by rfl) (by cbv) ⟨by decide, rfl⟩ fun F hP hA => ?_
  have hT : TabOk F.P tab := hP ▸ tab_ok
  have hM : F.P.follows .mixedOrders = true := hP ▸ mixed
  have hC : ∀ {f a o r}, AC Try.prog f a o r → AC F.P f a o r := fun h => hP ▸ h
  refine Run.seq ?_
  refine Run.region hL hT [] (by cbv) ?_ ?_
  · exact hq0
  refine Run.seq ?_
  refine Run.seq ?_
  obtain ⟨r1, h_r1, h⟩ := bnd h
  refine Run.region hL hT [(1, .call [false] [.v (.jk)] [.v (.s (.bool r1))])] (by cbv) ?_ ?_
  · exact (hq (hC (laws_big_ac h_r1)) hq0)
  refine Run.cond (by cbv) (hq0) (fun c2 => ?_) (fun c2 => ?_)
  · have h := if_t c2 h
    refine Run.seq ?_
    refine Run.region hL hT [] (by cbv) ?_ ?_
    · exact hq0
    refine Run.ret ?_
    cases h
    refine ⟨_, _, by cbv, ?_, ?_⟩
    · exact LLe.r
    · exact (ALe.v LLe.r ALe.nil)
  · have h := if_f c2 h
    refine Run.skip ?_
    refine Run.seq ?_
    obtain ⟨⟨⟨r3v_1v_Table, r3v_1v_Where, r3v_1v_Order, r3v_1v_Down, r3v_1v_First, r3v_1v_Show, r3v_1v_Kids, r3v_1v_KidTable, r3v_1v_KidCol⟩, ⟨r3v_2v_Table, r3v_2v_Had, r3v_2v_Has, ⟨r3v_2v_Oldv_Id, r3v_2v_Oldv_Cells⟩, ⟨r3v_2v_Newv_Id, r3v_2v_Newv_Cells⟩⟩⟩, h_r3, h⟩ := bnd h
    refine Run.region hL hT [(1, .call [true] [.v (.jk)] [.ag [.s (.int .i64 r3v_1v_Table), .ow 90 (eCond_c r3v_1v_Where), .s (.int .i64 r3v_1v_Order), .s (.bool r3v_1v_Down), .s (.int .i64 r3v_1v_First), .ow 3 (eInt_c r3v_1v_Show), .s (.bool r3v_1v_Kids), .s (.int .i64 r3v_1v_KidTable), .s (.int .i64 r3v_1v_KidCol)], .ag [.s (.int .i64 r3v_2v_Table), .s (.bool r3v_2v_Had), .s (.bool r3v_2v_Has), .s (.int .i64 r3v_2v_Oldv_Id), .ow 3 (eInt_c r3v_2v_Oldv_Cells), .s (.int .i64 r3v_2v_Newv_Id), .ow 3 (eInt_c r3v_2v_Newv_Cells)]])] (by cbv) ?_ ?_
    · exact (hq (hC (spec_DrawTouches_ac h_r3)) (hq trivial (hq trivial hq0)))
    refine Run.seq ?_
    obtain ⟨r4, h_r4, h⟩ := bnd h
    refine Run.region hL hT [(2, .call [false, false] [.ag [.jk, .jk, .jk, .jk, .jk, .jk, .jk, .jk, .jk], .ag [.jk, .jk, .jk, .jk, .jk, .jk, .jk]] [.v (.s (.bool r4))])] (by cbv) ?_ ?_
    · exact (hq trivial (hq trivial (hq (hC (AC.args (impl_Touches_ac h_r4) (ALe.ag rfl (LLe.c (LLe.cons (LLe.im (RLe.eq (fr_row Cond_c_z _))) (LLe.c (LLe.c (LLe.c (LLe.cons (LLe.im (RLe.eq (fr_row Int_c_z _))) (LLe.c (LLe.c (LLe.c LLe.nil))))))))) (ALe.ag rfl (LLe.c (LLe.c (LLe.c (LLe.c (LLe.cons (LLe.im (RLe.eq (fr_row Int_c_z _))) (LLe.c (LLe.cons (LLe.im (RLe.eq (fr_row Int_c_z _))) LLe.nil))))))) ALe.nil)))) hq0)))
    refine Run.seq ?_
    refine Run.seq ?_
    obtain ⟨r5, h_r5, h⟩ := bnd h
    refine Run.region hL hT [(3, .call [false, false] [.ag [.jk, .jk, .jk, .jk, .jk, .jk, .jk, .jk, .jk], .ag [.jk, .jk, .jk, .jk, .jk, .jk, .jk]] [.v (.s (.bool r5))])] (by cbv) ?_ ?_
    · exact (hq trivial (hq trivial (hq (hC (AC.args (spec_Touches_ac h_r5) (ALe.ag rfl (LLe.c (LLe.cons (LLe.im (RLe.eq (fr_row Cond_c_z _))) (LLe.c (LLe.c (LLe.c (LLe.cons (LLe.im (RLe.eq (fr_row Int_c_z _))) (LLe.c (LLe.c (LLe.c LLe.nil))))))))) (ALe.ag rfl (LLe.c (LLe.c (LLe.c (LLe.c (LLe.cons (LLe.im (RLe.eq (fr_row Int_c_z _))) (LLe.c (LLe.cons (LLe.im (RLe.eq (fr_row Int_c_z _))) LLe.nil))))))) ALe.nil)))) (hq (fun _ => hq0) (hq (fun g7 => (hq g7 hq0)) (hq (fun _ => hq0) (hq (fun g9 => (hq g9 (hq trivial hq0))) (hq (fun _ => hq0) (hq (fun g11 => (hq g11 (hq trivial hq0))) (hq (fun g12 => (hq g12 (hq g12 (hq trivial hq0)))) (hq (fun g13 => (hq g13 (hq (fun q14 => (hq (bo_a g13 q14) hq0)) (hq (fun _ => hq0) hq0)))) (hq (fun g16 => (hq g16 hq0)) (hq (fun _ => hq0) (hq (fun g18 => (hq g18 (hq trivial hq0))) (hq (fun g19 => (hq g19 hq0)) (hq (fun g20 => (hq g20 hq0)) (hq (fun _ => hq0) (hq (fun g22 => (hq g22 (hq trivial hq0))) (hq (fun _ => hq0) (hq (fun g24 => (hq g24 (hq trivial hq0))) (hq (fun g25 => (hq g25 (hq g25 (hq trivial hq0)))) (hq (fun g26 => (hq g26 (hq (fun _ => hq0) (hq (fun q28 => (hq (bo_a g26 (bo_m q28)) hq0)) hq0)))) (hq (fun g29 => (hq g29 (hq (fun q30 => (hq (bo_a g29 q30) hq0)) (hq (fun _ => hq0) hq0)))) (hq (fun _ => hq0) (hq (fun q33 => (hq (bo_m q33) hq0)) hq0)))))))))))))))))))))))))
    refine Run.cond (by cbv) (hq0) (fun c34 => ?_) (fun c34 => ?_)
    · have h := if_t c34 h
      refine Run.seq ?_
      refine Run.region hL hT [] (by cbv) ?_ ?_
      · exact hq0
      refine Run.ret ?_
      cases h
      refine ⟨_, _, by cbv, ?_, ?_⟩
      · exact LLe.r
      · exact (ALe.v LLe.r ALe.nil)
    · have h := if_f c34 h
      refine Run.skip ?_
      refine Run.seq ?_
      obtain ⟨⟨⟨r35v_1v_Cols⟩, r35v_2v_1, r35v_2v_2⟩, h_r35, h⟩ := bnd h
      refine Run.region hL hT [(1, .call [true] [.v (.jk)] [.ag [.ow 3 (eInt_c r35v_1v_Cols)], .v (.ow 27 (eQuery_o r35v_2v_1)), .v (.ow 31 (eChange_o r35v_2v_2))])] (by cbv) ?_ ?_
      · exact (hq (hC (spec_DrawConcerned_ac h_r35)) (hq trivial hq0))
      refine Run.seq ?_
      obtain ⟨r36, h_r36, h⟩ := bnd h
      refine Run.region hL hT [(3, .call [false, false, false] [.ag [.jk], .v (.jk), .v (.jk)] [.v (.ow 3 (eInt_c r36))])] (by cbv) ?_ ?_
      · exact (hq trivial (hq (hC (AC.args (impl_Concerned_ac h_r36) (ALe.ag rfl (LLe.cons (LLe.im (RLe.eq (fr_row Int_c_z _))) LLe.nil) (ALe.v (LLe.im (RLe.eq (fr_row Query_o_z _))) (ALe.v (LLe.im (RLe.eq (fr_row Change_o_z _))) ALe.nil))))) hq0))
      refine Run.seq ?_
      refine Run.seq ?_
      obtain ⟨r37, h_r37, h⟩ := bnd h
      obtain ⟨r38, h_r38, h⟩ := bnd h
      refine Run.region hL hT [(4, .call [false, false, false] [.ag [.jk], .v (.jk), .v (.jk)] [.v (.ow 3 (eInt_c r37))]), (5, .call [false, false] [.v (.jk), .v (.jk)] [.v (.s (.bool r38))])] (by cbv) ?_ ?_
      · exact (hq trivial (hq (hC (AC.args (spec_Concerned_ac h_r37) (ALe.ag rfl (LLe.cons (LLe.im (RLe.eq (fr_row Int_c_z _))) LLe.nil) (ALe.v (LLe.im (RLe.eq (fr_row Query_o_z _))) (ALe.v (LLe.im (RLe.eq (fr_row Change_o_z _))) ALe.nil))))) (hq (hC (AC.args (laws_sameInts_ac h_r38) (ALe.v (LLe.im (RLe.eq (fr_row Int_c_z _))) (ALe.v (LLe.im (RLe.eq (fr_row Int_c_z _))) ALe.nil)))) hq0)))
      refine Run.cond (by cbv) (hq0) (fun c39 => ?_) (fun c39 => ?_)
      · have h := if_t c39 h
        refine Run.seq ?_
        refine Run.region hL hT [] (by cbv) ?_ ?_
        · exact hq0
        refine Run.ret ?_
        cases h
        refine ⟨_, _, by cbv, ?_, ?_⟩
        · exact LLe.r
        · exact (ALe.v LLe.r ALe.nil)
      · have h := if_f c39 h
        refine Run.skip ?_
        obtain ⟨K41, h_K41, h⟩ := joinE h
        refine Run.join1 K41 (r := r) (fun (y40 : Unit) => ⟨111, 100000, [(0, .t (.im true (eu8_c a0)))], []⟩) ?_ ?_
        · skip
          refine Run.seq ?_
          refine Run.region hL hT [] (by cbv) ?_ ?_
          · exact hq0
          refine Run.block ?_
          refine Run.loop1 (fun (z47 : Int) => ⟨111, 100000, [(0, .t (.im true (eu8_c a0))), (7, .rf 1), (8, .rf 2), (9, .rf 3), (10, .t (.s (.int .i64 z47)))], [(1, .row 0 27 9 (eQuery_o r35v_2v_1)), (2, .row 0 31 7 (eChange_o r35v_2v_2)), (3, .row 0 3 1 (eInt_c r36))]⟩) (x0 := 0) h (Weak.of _ [(1, 20737), (2, 20993), (3, 24579)] hA (by cbv) ?_) (fun _ => rfl) ?_
          · repeat (first | exact hq0 | refine hq (by first | exact True.intro | rfl) ?_)
          · intro k z47 h
            rw [laws_FnTouched.l0] at h
            refine Run.seq ?_
            refine Run.seq ?_
            refine Run.region hL hT [] (by cbv) ?_ ?_
            · exact (hq trivial hq0)
            rw [show ln (eInt_c r36) = lenI_Int r36 from ln_eq Int_c _]
            refine Run.cond (by cbv) (hq0) (fun c48 => ?_) (fun c48 => ?_)
            · have h := if_t c48 h
              refine Run.skip ?_
              refine Run.seq ?_
              refine Run.block ?_
              refine Run.seq ?_
              obtain ⟨x49, h_x49, h⟩ := bnd h
              obtain ⟨x50, h_x50, h⟩ := bnd h
              obtain ⟨x51, h_x51, h⟩ := bnd h
              obtain ⟨⟨x52v_Table, x52v_Where, x52v_Order, x52v_Down, x52v_First, x52v_Show, x52v_Kids, x52v_KidTable, x52v_KidCol⟩, h_x52, h⟩ := bnd h
              obtain ⟨r53, h_r53, h⟩ := bnd h
              refine Run.draw hL hT hM [(7, .el [.s (.int .i64 x49)]), (11, .el [.s (.int .i64 x50)]), (19, .el [.s (.int .i64 x51)]), (21, .el [.s (.int .i64 x52v_Table), .ow 90 (eCond_c x52v_Where), .s (.int .i64 x52v_Order), .s (.bool x52v_Down), .s (.int .i64 x52v_First), .ow 3 (eInt_c x52v_Show), .s (.bool x52v_Kids), .s (.int .i64 x52v_KidTable), .s (.int .i64 x52v_KidCol)]), (23, .call [false, false] [.ag [.jk, .jk, .jk, .jk, .jk, .jk, .jk, .jk, .jk], .v (.jk)] [.v (.s (.bool r53))])] (by cbv) (by cbv) (by cbv) (by cbv) (by cbv) ?_ ?_
              · exact (hq trivial (hq (fun _ => hq0) (hq (fun _ => hq0) (hq (fun g56 => (hq g56 (hq trivial hq0))) (hq (fun g57 => (hq g57 (hq g57 (hq (get_le (gd_t h_x49 g57)) (hq (get_lt (f := Int_c) (gd_t h_x49 g57)) hq0))))) (hq (fun g58 => (hq g58 (hq (get_le (gd_t h_x49 g58)) (hq (get_lt (f := Int_c) (gd_t h_x49 g58)) (hq (get_ge (f := Int_c) (gd_t h_x49 g58)) hq0))))) (hq (fun _ => hq0) (hq (fun _ => hq0) (hq (fun g61 => (hq g61 (hq g61 (hq (get_le (gd_t h_x50 g61)) (hq (get_lt (f := Int_c) (gd_t h_x50 g61)) hq0))))) (hq (fun g62 => (hq g62 (hq (get_le (gd_t h_x50 g62)) (hq (get_lt (f := Int_c) (gd_t h_x50 g62)) (hq (get_ge (f := Int_c) (gd_t h_x50 g62)) hq0))))) (hq (fun g63 => (hq g63 (hq g63 (hq trivial hq0)))) (hq (fun q64 => (hq q64 hq0)) (hq (fun _ => hq0) (hq (fun _ => hq0) (hq (fun _ => hq0) (hq (fun _ => hq0) (hq (fun g69 => (hq g69 (hq g69 (hq (get_le (gd_t h_x51 g69)) (hq (get_lt (f := Int_c) (gd_t h_x51 g69)) hq0))))) (hq (fun g70 => (hq g70 (hq (get_le (gd_t h_x51 g70)) (hq (get_lt (f := Int_c) (gd_t h_x51 g70)) (hq (get_ge (f := Int_c) (gd_t h_x51 g70)) hq0))))) (hq (fun g71 => (hq g71 (hq g71 (hq (get_le (gd_t h_x52 g71)) (hq (get_lt (f := Query_o) (gd_t h_x52 g71)) hq0))))) (hq (fun g72 => (hq g72 (hq (get_le (gd_t h_x52 g72)) (hq (get_lt (f := Query_o) (gd_t h_x52 g72)) (hq (get_ge (f := Query_o) (gd_t h_x52 g72)) hq0))))) (hq (fun _ => hq0) (hq (fun g74 => (hq g74 (hq g74 (hq (hC (AC.args (impl_TouchesAny_ac (gd_t h_r53 g74)) (ALe.ag rfl (LLe.c (LLe.cons (LLe.im (RLe.eq (fr_row Cond_c_z _))) (LLe.c (LLe.c (LLe.c (LLe.cons (LLe.im (RLe.eq (fr_row Int_c_z _))) (LLe.c (LLe.c (LLe.c LLe.nil))))))))) (ALe.v (LLe.im (RLe.eq (fr_row Change_o_z _))) ALe.nil)))) hq0)))) (hq (fun g75 => (hq g75 hq0)) (hq (fun _ => hq0) (hq (fun q77 => (hq (bo_m q77) hq0)) hq0)))))))))))))))))))))))))
              refine Run.cond (by cbv) (hq0) (fun c78 => ?_) (fun c78 => ?_)
              · have h := if_t c78 h
                refine Run.seq ?_
                refine Run.region hL hT [] (by cbv) ?_ ?_
                · exact hq0
                refine Run.ret ?_
                cases h
                refine ⟨_, _, by cbv, ?_, ?_⟩
                · exact LLe.r
                · exact (ALe.v LLe.r ALe.nil)
              · have h := if_f c78 h
                refine Run.skip ?_
                refine Run.region hL hT [] (by cbv) ?_ ?_
                · exact (hq trivial hq0)
                refine ⟨(ar .add .i64 z47 1), h, Weak.of _ [(1, 1), (2, 2), (3, 3)] hA (by cbv) ?_⟩
                repeat (first | exact hq0 | refine hq (by first | exact True.intro | rfl) ?_)
            · have h := if_f c48 h
              refine Run.exit ?_
              refine ⟨(), h, Weak.of _ [] hA (by cbv) ?_⟩
              repeat (first | exact hq0 | refine hq (by first | exact True.intro | rfl) ?_)
        · intro y40 h
          rw [h_K41] at h
          refine Run.seq ?_
          obtain ⟨⟨⟨r79v_1v_Table, r79v_1v_Where, r79v_1v_Order, r79v_1v_Down, r79v_1v_First, r79v_1v_Show, r79v_1v_Kids, r79v_1v_KidTable, r79v_1v_KidCol⟩, r79v_2⟩, h_r79, h⟩ := bnd h
          refine Run.region hL hT [(1, .call [true] [.v (.jk)] [.ag [.s (.int .i64 r79v_1v_Table), .ow 90 (eCond_c r79v_1v_Where), .s (.int .i64 r79v_1v_Order), .s (.bool r79v_1v_Down), .s (.int .i64 r79v_1v_First), .ow 3 (eInt_c r79v_1v_Show), .s (.bool r79v_1v_Kids), .s (.int .i64 r79v_1v_KidTable), .s (.int .i64 r79v_1v_KidCol)], .v (.ow 31 (eChange_o r79v_2))])] (by cbv) ?_ ?_
          · exact (hq (hC (spec_DrawTouchesAny_ac h_r79)) (hq trivial hq0))
          refine Run.seq ?_
          obtain ⟨r80, h_r80, h⟩ := bnd h
          obtain ⟨r81, h_r81, h⟩ := bnd h
          refine Run.draw hL hT hM [(2, .call [false, false] [.ag [.jk, .jk, .jk, .jk, .jk, .jk, .jk, .jk, .jk], .v (.jk)] [.v (.s (.bool r80))]), (5, .call [false, false] [.ag [.jk, .jk, .jk, .jk, .jk, .jk, .jk, .jk, .jk], .v (.jk)] [.v (.s (.bool r81))])] (by cbv) (by cbv) (by cbv) (by cbv) (by cbv) ?_ ?_
          · exact (hq trivial (hq (hC (AC.args (impl_TouchesAny_ac h_r80) (ALe.ag rfl (LLe.c (LLe.cons (LLe.im (RLe.eq (fr_row Cond_c_z _))) (LLe.c (LLe.c (LLe.c (LLe.cons (LLe.im (RLe.eq (fr_row Int_c_z _))) (LLe.c (LLe.c (LLe.c LLe.nil))))))))) (ALe.v (LLe.im (RLe.eq (fr_row Change_o_z _))) ALe.nil)))) (hq trivial (hq (hC (AC.args (spec_TouchesAny_ac h_r81) (ALe.ag rfl (LLe.c (LLe.cons (LLe.im (RLe.eq (fr_row Cond_c_z _))) (LLe.c (LLe.c (LLe.c (LLe.cons (LLe.im (RLe.eq (fr_row Int_c_z _))) (LLe.c (LLe.c (LLe.c LLe.nil))))))))) (ALe.v (LLe.im (RLe.eq (fr_row Change_o_z _))) ALe.nil)))) hq0))))
          refine Run.ret ?_
          cases h
          refine ⟨_, _, by cbv, ?_, ?_⟩
          · exact LLe.r
          · exact (ALe.v LLe.r ALe.nil)


end Go.Proofs.Ytblacmggjfinhaa.L
