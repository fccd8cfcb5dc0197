/- The contracts of the program's functions. -/
import Derived.Test.YtibmfkomdhnhbaaProg
import Derived.Test.YtibmfkomdhnhbaaFxMutDoC0
import Derived.KernelRfl
namespace Go.Proofs.Ytibmfkomdhnhbaa.L
open Go Go.Proofs
set_option linter.unusedVariables false
set_option linter.unusedSimpArgs false
set_option maxRecDepth 8000 in
theorem impl_MutDo_ac {a0v_Schemav_Cols : List Int} {a0v_Version : Int} {a0v_Tables : List (List Row)} {a1v_Kind : Int} {a1v_Table : Int} {a1v_Rowv_Id : Int} {a1v_Rowv_Cells : List Int} {r : Store × Change × Bool} (h : impl_MutDo.f (Store.mk (Schema.mk a0v_Schemav_Cols) a0v_Version a0v_Tables) (Mut.mk a1v_Kind a1v_Table (Row.mk a1v_Rowv_Id a1v_Rowv_Cells)) = some r) : AC Try.prog 54 [.ag [.im false (rowsOf Int_c a0v_Schemav_Cols), .s (.int .i64 a0v_Version), .im false (rowsOf RowS_i a0v_Tables)], .ag [.s (.int .i64 a1v_Kind), .s (.int .i64 a1v_Table), .s (.int .i64 a1v_Rowv_Id), .im false (rowsOf Int_c a1v_Rowv_Cells)]] [.ag [.jk, .jk, .jk], .ag [.jk, .jk, .jk, .jk]] [.ag [.ow 3 (rowsOf Int_c r.1.Schema.Cols), .s (.int .i64 r.1.Version), .ow 54 (rowsOf RowS_o r.1.Tables)], .ag [.s (.int .i64 r.2.1.Table), .s (.bool r.2.1.Had), .s (.bool r.2.1.Has), .s (.int .i64 r.2.1.Old.Id), .ow 3 (rowsOf Int_c r.2.1.Old.Cells), .s (.int .i64 r.2.1.New.Id), .ow 3 (rowsOf Int_c r.2.1.New.Cells)], .v (.s (.bool r.2.2))] := by
  unfold impl_MutDo.f at h
  let ar := Ls.ar; let cm := Ls.cm; let bo := Ls.bo; let sc := Ls.sc; let sa := Ls.sa; let sx := Ls.sx; let ss := Ls.ss; let sl := Ls.sl; let bs := Ls.bs; let sb := Ls.sb; let ln := Ls.ln; let sr := Ls.sr; let ap := Ls.ap; let up := Ls.up; let rp := Ls.rp; let fr := Ls.fr; let ge := Ls.ge; let le := Ls.le; let lt := Ls.lt; let nz := Ls.nz; let mm := Ls.mm; let ma := Ls.ma; let sm := Ls.sm; let fl := Ls.fl; let al := Ls.al
  let eInt_c := rowsOf Int_c
  let eRowS_i := rowsOf RowS_i
  let eRowS_o := rowsOf RowS_o
  let eRow_i := rowsOf Row_i
  let eRow_o := rowsOf Row_o
  let lenI_Row := @lenI Row
  have hL : (⟨ar, cm, bo, sc, sa, sx, ss, sl, bs, sb, ln, sr, ap, up, rp, fr, ge, le, lt, nz, mm, ma, sm, fl, al⟩ : Lf) = Ls := rfl
  show AC Try.prog 54 [.ag [.im false (eInt_c a0v_Schemav_Cols), .s (.int .i64 a0v_Version), .im false (eRowS_i a0v_Tables)], .ag [.s (.int .i64 a1v_Kind), .s (.int .i64 a1v_Table), .s (.int .i64 a1v_Rowv_Id), .im false (eInt_c a1v_Rowv_Cells)]] _ _
  refine AC.of_run2 tab_ok Try.func54 (by rfl) (by rfl) (by cbv) ⟨by decide, rfl⟩ fun F hP hA => ?_
  have hT : TabOk F.P tab := hP ▸ tab_ok
  have hM : F.P.follows .mixedOrders = true := hP ▸ mixed
  have hC : ∀ {f a o r}, AC Try.prog f a o r → AC F.P f a o r := fun h => hP ▸ h
  refine Run.seq ?_
  refine Run.region hL hT [] (by cbv) ?_ ?_
  · exact hq0
  refine Run.seq ?_
  refine Run.seq ?_
  obtain ⟨r1, h_r1, h⟩ := bnd h
  obtain ⟨r2, h_r2, h⟩ := bnd h
  refine Run.region hL hT [(1, .call [false] [.ag [.jk, .jk, .jk]] [.v (.s (.bool r1))]), (7, .call [false, false] [.ag [.jk], .ag [.jk, .jk, .jk, .jk]] [.v (.s (.bool r2))])] (by cbv) ?_ ?_
  · exact (hq trivial (hq (hC (impl_StoreOk_ac h_r1)) (hq (fun _ => hq0) (hq (fun g4 => (hq g4 (hq trivial hq0))) (hq (fun g5 => (hq trivial hq0)) (hq (fun g6 => (hq g6 (hq g6 (hq (hC (impl_MutOk_ac (gd_t h_r2 g6))) hq0)))) (hq (fun g7 => (hq g7 hq0)) (hq (fun _ => hq0) (hq (fun q9 => (hq (bo_m q9) hq0)) hq0)))))))))
  refine Run.cond (by cbv) (hq0) (fun c10 => ?_) (fun c10 => ?_)
  · have h := if_t c10 h
    refine Run.seq ?_
    obtain ⟨⟨⟨r11v_Schemav_Cols⟩, r11v_Version, r11v_Tables⟩, h_r11, h⟩ := bnd h
    refine Run.region hL hT [(1, .call [false] [.ag [.jk, .jk, .jk]] [.ag [.ow 3 (eInt_c r11v_Schemav_Cols), .s (.int .i64 r11v_Version), .ow 54 (eRowS_o r11v_Tables)]])] (by cbv) ?_ ?_
    · exact (hq trivial (hq (hC (impl_asWas_ac h_r11)) (hq trivial (hq trivial hq0))))
    refine Run.ret ?_
    cases h
    refine ⟨_, _, by cbv, ?_, ?_⟩
    · exact LLe.r
    · exact (ALe.ag rfl LLe.r (ALe.ag rfl (LLe.c (LLe.c (LLe.c (LLe.c (LLe.cons LLe.nilO (LLe.c (LLe.cons LLe.nilO LLe.nil))))))) (ALe.v LLe.r ALe.nil)))
  · have h := if_f c10 h
    refine Run.skip ?_
    refine Run.seq ?_
    obtain ⟨x12, h_x12, h⟩ := bnd h
    refine Run.region hL hT [(4, .el [.im false (eRow_i x12)])] (by cbv) ?_ ?_
    · exact (hq trivial (hq trivial (hq (get_le h_x12) (hq (get_lt (f := RowS_i) h_x12) (hq (get_ge (f := RowS_i) h_x12) hq0)))))
    refine Run.seq ?_
    obtain ⟨r13, h_r13, h⟩ := bnd h
    refine Run.region hL hT [(4, .call [false, false] [.v (.jk), .v (.jk)] [.v (.s (.int .i64 r13))])] (by cbv) ?_ ?_
    · exact (hq trivial (hq (hC (impl_RowAt_ac h_r13)) hq0))
    refine Run.seq ?_
    refine Run.seq ?_
    refine Run.region hL hT [] (by cbv) ?_ ?_
    · exact (hq trivial (hq trivial (hq trivial (hq (fun _ => hq0) (hq (fun g15 => (hq g15 (hq trivial hq0))) (hq (fun g16 => (hq g16 (hq trivial hq0))) (hq (fun g17 => (hq g17 hq0)) (hq (fun _ => hq0) (hq (fun g19 => (hq g19 hq0)) (hq (fun g20 => (hq g20 (hq trivial hq0))) (hq (fun g21 => (hq g21 (hq (fun q22 => (hq (bo_a g21 q22) hq0)) (hq (fun _ => hq0) hq0)))) (hq (fun _ => hq0) (hq (fun q25 => (hq (bo_m q25) hq0)) hq0)))))))))))))
    rw [show ln (eRow_i x12) = lenI_Row x12 from ln_eq Row_i _]
    refine Run.cond (by cbv) (hq0) (fun c26 => ?_) (fun c26 => ?_)
    · have h := if_t c26 h
      refine Run.seq ?_
      obtain ⟨⟨⟨r27v_Schemav_Cols⟩, r27v_Version, r27v_Tables⟩, h_r27, h⟩ := bnd h
      refine Run.region hL hT [(1, .call [false] [.ag [.jk, .jk, .jk]] [.ag [.ow 3 (eInt_c r27v_Schemav_Cols), .s (.int .i64 r27v_Version), .ow 54 (eRowS_o r27v_Tables)]])] (by cbv) ?_ ?_
      · exact (hq trivial (hq (hC (impl_copyStore_ac h_r27)) (hq trivial (hq trivial hq0))))
      refine Run.ret ?_
      cases h
      refine ⟨_, _, by cbv, ?_, ?_⟩
      · exact LLe.r
      · exact (ALe.ag rfl LLe.r (ALe.ag rfl (LLe.c (LLe.c (LLe.c (LLe.c (LLe.cons LLe.nilO (LLe.c (LLe.cons LLe.nilO LLe.nil))))))) (ALe.v LLe.r ALe.nil)))
    · have h := if_f c26 h
      refine Run.skip ?_
      refine Run.seq ?_
      obtain ⟨⟨⟨r28v_Schemav_Cols⟩, r28v_Version, r28v_Tables⟩, h_r28, h⟩ := bnd h
      refine Run.region hL hT [(1, .call [false] [.ag [.jk, .jk, .jk]] [.ag [.ow 3 (eInt_c r28v_Schemav_Cols), .s (.int .i64 r28v_Version), .ow 54 (eRowS_o r28v_Tables)]])] (by cbv) ?_ ?_
      · exact (hq trivial (hq (hC (impl_copyStore_ac h_r28)) (hq trivial hq0)))
      refine Run.seq ?_
      refine Run.region hL hT [] (by cbv) ?_ ?_
      · exact (hq trivial (hq trivial hq0))
      obtain ⟨K32, h_K32, h⟩ := joinE h
      refine Run.join3 K32 (r := r) (fun (y29 : Bool) (y30 : Int) (y31 : List Int) => ⟨97, 100000, [(3, .pt 1 0 0), (4, .pt 2 0 0), (5, .pt 3 0 0), (7, .t (.im false (eRow_i x12))), (9, .pt 4 0 0), (10, .pt 7 0 0)], [(1, .box 98 [.t (.s (.int .i64 a1v_Kind)), .t (.s (.int .i64 a1v_Table)), .t (.s (.int .i64 a1v_Rowv_Id)), .t (.im false (eInt_c a1v_Rowv_Cells))]), (2, .box 37 [.t (.s (.slice none 0 0)), .t (.s (.int .i64 0)), .t (.s (.slice none 0 0))]), (3, .box 94 [.t (.s (.int .i64 0)), .t (.s (.bool false)), .t (.s (.bool false)), .t (.s (.int .i64 0)), .t (.s (.slice none 0 0)), .t (.s (.int .i64 0)), .t (.s (.slice none 0 0))]), (4, .box 37 [.rf 5, .t (.s (.int .i64 r28v_Version)), .rf 6]), (5, .row 0 3 1 (eInt_c r28v_Schemav_Cols)), (6, .row 0 54 1 (eRowS_o r28v_Tables)), (7, .box 94 [.t (.s (.int .i64 a1v_Table)), .t (.s (.bool y29)), .t (.s (.bool false)), .t (.s (.int .i64 y30)), .rf 8, .t (.s (.int .i64 0)), .t (.s (.slice none 0 0))]), (8, .row 0 3 1 (eInt_c y31))]⟩) ?_ ?_
      · skip
        refine Run.seq ?_
        refine Run.region hL hT [] (by cbv) ?_ ?_
        · exact (hq trivial hq0)
        refine Run.cond (by cbv) (hq0) (fun c33 => ?_) (fun c33 => ?_)
        · have h := if_t c33 h
          obtain ⟨⟨x34v_Id, x34v_Cells⟩, h_x34, h⟩ := bnd h
          obtain ⟨⟨r35v_Id, r35v_Cells⟩, h_r35, h⟩ := bnd h
          refine Run.region hL hT [(2, .el [.s (.int .i64 x34v_Id), .im false (eInt_c x34v_Cells)]), (4, .call [false] [.ag [.jk, .jk]] [.ag [.s (.int .i64 r35v_Id), .ow 3 (eInt_c r35v_Cells)]])] (by cbv) ?_ ?_
          · exact (hq (get_le h_x34) (hq (get_lt (f := Row_i) h_x34) (hq (get_ge (f := Row_i) h_x34) (hq (hC (impl_copyRow_ac h_r35)) (hq trivial (hq trivial hq0))))))
          refine ⟨true, r35v_Id, r35v_Cells, h, Weak.of _ [(1, 1), (2, 2), (3, 3), (4, 20482), (5, 20481), (6, 20737), (7, 24579), (8, 32772)] hA (by cbv) ?_⟩
          repeat (first | exact hq0 | refine hq (by first | exact True.intro | rfl) ?_)
        · have h := if_f c33 h
          refine Run.skip ?_
          refine ⟨false, 0, [], h, (Weak.nilB (l := [.t (.s (.int .i64 a1v_Table)), .t (.s (.bool false)), .t (.s (.bool false)), .t (.s (.int .i64 0))]) hT 24579 4 90000 3 rfl (by cbv) (by cbv) (by cbv)).trans (Weak.of _ [(1, 1), (2, 2), (3, 3), (4, 20482), (5, 20481), (6, 20737), (7, 24579), (8, 90000)] hA (by cbv) ?_)⟩
          repeat (first | exact hq0 | refine hq (by first | exact True.intro | rfl) ?_)
      · intro y29 y30 y31 h
        rw [h_K32] at h
        refine Run.seq ?_
        refine Run.seq ?_
        refine Run.region hL hT [] (by cbv) ?_ ?_
        · exact (hq trivial (hq trivial hq0))
        refine Run.cond (by cbv) (hq0) (fun c36 => ?_) (fun c36 => ?_)
        · have h := if_t c36 h
          obtain ⟨r37, h_r37, h⟩ := bnd h
          obtain ⟨x38, h_x38, h⟩ := bnd h
          obtain ⟨l39, h_l39, h⟩ := bnd h
          refine Run.draw hL hT hM [(8, .call [false, false] [.v (.jk), .v (.jk)] [.v (.ow 92 (eRow_o r37))])] (by cbv) (by cbv) (by cbv) (by cbv) (by cbv) ?_ ?_
          · exact (hq trivial (hq trivial (hq trivial (hq (hC (impl_RowDrop_ac h_r37)) (hq (get_le h_x38) (hq (get_lt (f := RowS_o) h_x38) (hq (get_le h_x38) (hq (get_lt (f := RowS_o) h_x38) hq0))))))))
          refine Run.row (rows := (up (eRowS_o r28v_Tables) a1v_Table 0 [.ow 92 (eRow_o r37)])) 6 (eRowS_o l39) (by cbv) (sto_le (f := RowS_o) h_x38 h_l39 rfl LLe.r) ?_
          refine Run.seq ?_
          refine Run.draw hL hT hM [] (by cbv) (by cbv) (by cbv) (by cbv) (by cbv) ?_ ?_
          · exact (hq trivial (hq trivial (hq trivial (hq trivial hq0))))
          refine Run.ret ?_
          cases h
          refine ⟨_, _, by cbv, ?_, ?_⟩
          · exact LLe.r
          · exact (ALe.ag rfl LLe.r (ALe.ag rfl (LLe.c (LLe.c (LLe.c (LLe.c (LLe.c (LLe.c (LLe.cons LLe.nilO LLe.nil))))))) (ALe.v LLe.r ALe.nil)))
        · have h := if_f c36 h
          refine Run.seq ?_
          obtain ⟨⟨r40v_Id, r40v_Cells⟩, h_r40, h⟩ := bnd h
          refine Run.region hL hT [(2, .call [false] [.ag [.jk, .jk]] [.ag [.s (.int .i64 r40v_Id), .ow 3 (eInt_c r40v_Cells)]])] (by cbv) ?_ ?_
          · exact (hq trivial (hq (hC (impl_copyRow_ac h_r40)) (hq trivial (hq trivial hq0))))
          obtain ⟨r41, h_r41, h⟩ := bnd h
          obtain ⟨x42, h_x42, h⟩ := bnd h
          obtain ⟨l43, h_l43, h⟩ := bnd h
          refine Run.draw hL hT hM [(7, .call [false, false] [.v (.jk), .ag [.jk, .jk]] [.v (.ow 92 (eRow_o r41))])] (by cbv) (by cbv) (by cbv) (by cbv) (by cbv) ?_ ?_
          · exact (hq trivial (hq trivial (hq trivial (hq (hC (impl_RowPut_ac h_r41)) (hq (get_le h_x42) (hq (get_lt (f := RowS_o) h_x42) (hq (get_le h_x42) (hq (get_lt (f := RowS_o) h_x42) hq0))))))))
          refine Run.row (rows := (up (eRowS_o r28v_Tables) a1v_Table 0 [.ow 92 (eRow_o r41)])) 6 (eRowS_o l43) (by cbv) (sto_le (f := RowS_o) h_x42 h_l43 rfl LLe.r) ?_
          refine Run.seq ?_
          refine Run.draw hL hT hM [] (by cbv) (by cbv) (by cbv) (by cbv) (by cbv) ?_ ?_
          · exact (hq trivial (hq trivial (hq trivial (hq trivial hq0))))
          refine Run.ret ?_
          cases h
          refine ⟨_, _, by cbv, ?_, ?_⟩
          · exact LLe.r
          · exact (ALe.ag rfl LLe.r (ALe.ag rfl LLe.r (ALe.v LLe.r ALe.nil)))

set_option maxRecDepth 8000 in
theorem laws_eqChange_ac {a0v_Table : Int} {a0v_Had : Bool} {a0v_Has : Bool} {a0v_Oldv_Id : Int} {a0v_Oldv_Cells : List Int} {a0v_Newv_Id : Int} {a0v_Newv_Cells : List Int} {a1v_Table : Int} {a1v_Had : Bool} {a1v_Has : Bool} {a1v_Oldv_Id : Int} {a1v_Oldv_Cells : List Int} {a1v_Newv_Id : Int} {a1v_Newv_Cells : List Int} {r : Bool} (h : laws_eqChange.f (Change.mk a0v_Table a0v_Had a0v_Has (Row.mk a0v_Oldv_Id a0v_Oldv_Cells) (Row.mk a0v_Newv_Id a0v_Newv_Cells)) (Change.mk a1v_Table a1v_Had a1v_Has (Row.mk a1v_Oldv_Id a1v_Oldv_Cells) (Row.mk a1v_Newv_Id a1v_Newv_Cells)) = some r) : AC Try.prog 55 [.ag [.s (.int .i64 a0v_Table), .s (.bool a0v_Had), .s (.bool a0v_Has), .s (.int .i64 a0v_Oldv_Id), .im false (rowsOf Int_c a0v_Oldv_Cells), .s (.int .i64 a0v_Newv_Id), .im false (rowsOf Int_c a0v_Newv_Cells)], .ag [.s (.int .i64 a1v_Table), .s (.bool a1v_Had), .s (.bool a1v_Has), .s (.int .i64 a1v_Oldv_Id), .im false (rowsOf Int_c a1v_Oldv_Cells), .s (.int .i64 a1v_Newv_Id), .im false (rowsOf Int_c a1v_Newv_Cells)]] [.ag [.jk, .jk, .jk, .jk, .jk, .jk, .jk], .ag [.jk, .jk, .jk, .jk, .jk, .jk, .jk]] [.v (.s (.bool r))] := by
  unfold laws_eqChange.f at h
  let ar := Ls.ar; let cm := Ls.cm; let bo := Ls.bo; let sc := Ls.sc; let sa := Ls.sa; let sx := Ls.sx; let ss := Ls.ss; let sl := Ls.sl; let bs := Ls.bs; let sb := Ls.sb; let ln := Ls.ln; let sr := Ls.sr; let ap := Ls.ap; let up := Ls.up; let rp := Ls.rp; let fr := Ls.fr; let ge := Ls.ge; let le := Ls.le; let lt := Ls.lt; let nz := Ls.nz; let mm := Ls.mm; let ma := Ls.ma; let sm := Ls.sm; let fl := Ls.fl; let al := Ls.al
  let eInt_c := rowsOf Int_c
  have hL : (⟨ar, cm, bo, sc, sa, sx, ss, sl, bs, sb, ln, sr, ap, up, rp, fr, ge, le, lt, nz, mm, ma, sm, fl, al⟩ : Lf) = Ls := rfl
  show AC Try.prog 55 [.ag [.s (.int .i64 a0v_Table), .s (.bool a0v_Had), .s (.bool a0v_Has), .s (.int .i64 a0v_Oldv_Id), .im false (eInt_c a0v_Oldv_Cells), .s (.int .i64 a0v_Newv_Id), .im false (eInt_c a0v_Newv_Cells)], .ag [.s (.int .i64 a1v_Table), .s (.bool a1v_Had), .s (.bool a1v_Has), .s (.int .i64 a1v_Oldv_Id), .im false (eInt_c a1v_Oldv_Cells), .s (.int .i64 a1v_Newv_Id), .im false (eInt_c a1v_Newv_Cells)]] _ _
  refine AC.of_run2 tab_ok Try.func55 (by rfl) (by rfl) (by cbv) ⟨by decide, rfl⟩ fun F hP hA => ?_
  have hT : TabOk F.P tab := hP ▸ tab_ok
  have hM : F.P.follows .mixedOrders = true := hP ▸ mixed
  have hC : ∀ {f a o r}, AC Try.prog f a o r → AC F.P f a o r := fun h => hP ▸ h
  refine Run.seq ?_
  refine Run.region hL hT [] (by cbv) ?_ ?_
  · exact hq0
  refine Run.seq ?_
  refine Run.seq ?_
  refine Run.region hL hT [] (by cbv) ?_ ?_
  · exact (hq trivial (hq trivial (hq trivial hq0)))
  refine Run.cond (by cbv) (hq0) (fun c1 => ?_) (fun c1 => ?_)
  · have h := if_t c1 h
    refine Run.seq ?_
    refine Run.region hL hT [] (by cbv) ?_ ?_
    · exact hq0
    refine Run.ret ?_
    cases h
    refine ⟨_, _, by cbv, ?_, ?_⟩
    · exact LLe.r
    · exact (ALe.v LLe.r ALe.nil)
  · have h := if_f c1 h
    refine Run.skip ?_
    refine Run.seq ?_
    refine Run.seq ?_
    refine Run.region hL hT [] (by cbv) ?_ ?_
    · exact (hq trivial (hq trivial hq0))
    refine Run.cond (by cbv) (hq0) (fun c2 => ?_) (fun c2 => ?_)
    · have h := if_t c2 h
      refine Run.seq ?_
      refine Run.region hL hT [] (by cbv) ?_ ?_
      · exact hq0
      refine Run.ret ?_
      cases h
      refine ⟨_, _, by cbv, ?_, ?_⟩
      · exact LLe.r
      · exact (ALe.v LLe.r ALe.nil)
    · have h := if_f c2 h
      refine Run.skip ?_
      refine Run.seq ?_
      refine Run.seq ?_
      refine Run.region hL hT [] (by cbv) ?_ ?_
      · exact (hq trivial (hq trivial hq0))
      refine Run.cond (by cbv) (hq0) (fun c3 => ?_) (fun c3 => ?_)
      · have h := if_t c3 h
        refine Run.seq ?_
        refine Run.region hL hT [] (by cbv) ?_ ?_
        · exact hq0
        refine Run.ret ?_
        cases h
        refine ⟨_, _, by cbv, ?_, ?_⟩
        · exact LLe.r
        · exact (ALe.v LLe.r ALe.nil)
      · have h := if_f c3 h
        refine Run.skip ?_
        refine Run.seq ?_
        refine Run.seq ?_
        obtain ⟨r4, h_r4, h⟩ := bnd h
        refine Run.region hL hT [(4, .call [false, false] [.ag [.jk, .jk], .ag [.jk, .jk]] [.v (.s (.bool r4))])] (by cbv) ?_ ?_
        · exact (hq trivial (hq trivial (hq (hC (laws_eqRow_ac h_r4)) hq0)))
        refine Run.cond (by cbv) (hq0) (fun c5 => ?_) (fun c5 => ?_)
        · have h := if_t c5 h
          refine Run.seq ?_
          refine Run.region hL hT [] (by cbv) ?_ ?_
          · exact hq0
          refine Run.ret ?_
          cases h
          refine ⟨_, _, by cbv, ?_, ?_⟩
          · exact LLe.r
          · exact (ALe.v LLe.r ALe.nil)
        · have h := if_f c5 h
          refine Run.skip ?_
          refine Run.seq ?_
          refine Run.seq ?_
          obtain ⟨r6, h_r6, h⟩ := bnd h
          refine Run.region hL hT [(4, .call [false, false] [.ag [.jk, .jk], .ag [.jk, .jk]] [.v (.s (.bool r6))])] (by cbv) ?_ ?_
          · exact (hq trivial (hq trivial (hq (hC (laws_eqRow_ac h_r6)) hq0)))
          refine Run.cond (by cbv) (hq0) (fun c7 => ?_) (fun c7 => ?_)
          · have h := if_t c7 h
            refine Run.seq ?_
            refine Run.region hL hT [] (by cbv) ?_ ?_
            · exact hq0
            refine Run.ret ?_
            cases h
            refine ⟨_, _, by cbv, ?_, ?_⟩
            · exact LLe.r
            · exact (ALe.v LLe.r ALe.nil)
          · have h := if_f c7 h
            refine Run.skip ?_
            refine Run.seq ?_
            refine Run.region hL hT [] (by cbv) ?_ ?_
            · exact hq0
            refine Run.ret ?_
            cases h
            refine ⟨_, _, by cbv, ?_, ?_⟩
            · exact LLe.r
            · exact (ALe.v LLe.r ALe.nil)

set_option maxRecDepth 8000 in
theorem laws_eqMut_ac {a0v_Kind : Int} {a0v_Table : Int} {a0v_Rowv_Id : Int} {a0v_Rowv_Cells : List Int} {a1v_Kind : Int} {a1v_Table : Int} {a1v_Rowv_Id : Int} {a1v_Rowv_Cells : List Int} {r : Bool} (h : laws_eqMut.f (Mut.mk a0v_Kind a0v_Table (Row.mk a0v_Rowv_Id a0v_Rowv_Cells)) (Mut.mk a1v_Kind a1v_Table (Row.mk a1v_Rowv_Id a1v_Rowv_Cells)) = some r) : AC Try.prog 56 [.ag [.s (.int .i64 a0v_Kind), .s (.int .i64 a0v_Table), .s (.int .i64 a0v_Rowv_Id), .im false (rowsOf Int_c a0v_Rowv_Cells)], .ag [.s (.int .i64 a1v_Kind), .s (.int .i64 a1v_Table), .s (.int .i64 a1v_Rowv_Id), .im false (rowsOf Int_c a1v_Rowv_Cells)]] [.ag [.jk, .jk, .jk, .jk], .ag [.jk, .jk, .jk, .jk]] [.v (.s (.bool r))] := by
  unfold laws_eqMut.f at h
  let ar := Ls.ar; let cm := Ls.cm; let bo := Ls.bo; let sc := Ls.sc; let sa := Ls.sa; let sx := Ls.sx; let ss := Ls.ss; let sl := Ls.sl; let bs := Ls.bs; let sb := Ls.sb; let ln := Ls.ln; let sr := Ls.sr; let ap := Ls.ap; let up := Ls.up; let rp := Ls.rp; let fr := Ls.fr; let ge := Ls.ge; let le := Ls.le; let lt := Ls.lt; let nz := Ls.nz; let mm := Ls.mm; let ma := Ls.ma; let sm := Ls.sm; let fl := Ls.fl; let al := Ls.al
  let eInt_c := rowsOf Int_c
  have hL : (⟨ar, cm, bo, sc, sa, sx, ss, sl, bs, sb, ln, sr, ap, up, rp, fr, ge, le, lt, nz, mm, ma, sm, fl, al⟩ : Lf) = Ls := rfl
  show AC Try.prog 56 [.ag [.s (.int .i64 a0v_Kind), .s (.int .i64 a0v_Table), .s (.int .i64 a0v_Rowv_Id), .im false (eInt_c a0v_Rowv_Cells)], .ag [.s (.int .i64 a1v_Kind), .s (.int .i64 a1v_Table), .s (.int .i64 a1v_Rowv_Id), .im false (eInt_c a1v_Rowv_Cells)]] _ _
  refine AC.of_run2 tab_ok Try.func56 (by rfl) (by rfl) (by cbv) ⟨by decide, rfl⟩ fun F hP hA => ?_
  have hT : TabOk F.P tab := hP ▸ tab_ok
  have hM : F.P.follows .mixedOrders = true := hP ▸ mixed
  have hC : ∀ {f a o r}, AC Try.prog f a o r → AC F.P f a o r := fun h => hP ▸ h
  refine Run.seq ?_
  refine Run.region hL hT [] (by cbv) ?_ ?_
  · exact hq0
  refine Run.seq ?_
  refine Run.seq ?_
  refine Run.region hL hT [] (by cbv) ?_ ?_
  · exact (hq trivial (hq trivial (hq trivial hq0)))
  refine Run.cond (by cbv) (hq0) (fun c1 => ?_) (fun c1 => ?_)
  · have h := if_t c1 h
    refine Run.seq ?_
    refine Run.region hL hT [] (by cbv) ?_ ?_
    · exact hq0
    refine Run.ret ?_
    cases h
    refine ⟨_, _, by cbv, ?_, ?_⟩
    · exact LLe.r
    · exact (ALe.v LLe.r ALe.nil)
  · have h := if_f c1 h
    refine Run.skip ?_
    refine Run.seq ?_
    refine Run.seq ?_
    refine Run.region hL hT [] (by cbv) ?_ ?_
    · exact (hq trivial (hq trivial (hq trivial hq0)))
    refine Run.cond (by cbv) (hq0) (fun c2 => ?_) (fun c2 => ?_)
    · have h := if_t c2 h
      refine Run.seq ?_
      refine Run.region hL hT [] (by cbv) ?_ ?_
      · exact hq0
      refine Run.ret ?_
      cases h
      refine ⟨_, _, by cbv, ?_, ?_⟩
      · exact LLe.r
      · exact (ALe.v LLe.r ALe.nil)
    · have h := if_f c2 h
      refine Run.skip ?_
      refine Run.seq ?_
      refine Run.seq ?_
      obtain ⟨r3, h_r3, h⟩ := bnd h
      refine Run.region hL hT [(4, .call [false, false] [.ag [.jk, .jk], .ag [.jk, .jk]] [.v (.s (.bool r3))])] (by cbv) ?_ ?_
      · exact (hq trivial (hq trivial (hq (hC (laws_eqRow_ac h_r3)) hq0)))
      refine Run.cond (by cbv) (hq0) (fun c4 => ?_) (fun c4 => ?_)
      · have h := if_t c4 h
        refine Run.seq ?_
        refine Run.region hL hT [] (by cbv) ?_ ?_
        · exact hq0
        refine Run.ret ?_
        cases h
        refine ⟨_, _, by cbv, ?_, ?_⟩
        · exact LLe.r
        · exact (ALe.v LLe.r ALe.nil)
      · have h := if_f c4 h
        refine Run.skip ?_
        refine Run.seq ?_
        refine Run.region hL hT [] (by cbv) ?_ ?_
        · exact hq0
        refine Run.ret ?_
        cases h
        refine ⟨_, _, by cbv, ?_, ?_⟩
        · exact LLe.r
        · exact (ALe.v LLe.r ALe.nil)

set_option maxRecDepth 8000 in
theorem laws_markRow_ac {a0v_Id : Int} {a0v_Cells : List Int} {a1 : Int} {r : Row × Int} (h : laws_markRow.f (Row.mk a0v_Id a0v_Cells) a1 = some r) : AC Try.prog 133 [.ag [.s (.int .i64 a0v_Id), .ow 3 (rowsOf Int_c a0v_Cells)], .v (.s (.int .i64 a1))] [.ag [.jk, .ow 3 (rowsOf Int_c r.1.Cells)], .v (.jk)] [.v (.s (.int .i64 r.2))] := by
  unfold laws_markRow.f at h
  let ar := Ls.ar; let cm := Ls.cm; let bo := Ls.bo; let sc := Ls.sc; let sa := Ls.sa; let sx := Ls.sx; let ss := Ls.ss; let sl := Ls.sl; let bs := Ls.bs; let sb := Ls.sb; let ln := Ls.ln; let sr := Ls.sr; let ap := Ls.ap; let up := Ls.up; let rp := Ls.rp; let fr := Ls.fr; let ge := Ls.ge; let le := Ls.le; let lt := Ls.lt; let nz := Ls.nz; let mm := Ls.mm; let ma := Ls.ma; let sm := Ls.sm; let fl := Ls.fl; let al := Ls.al
  let eInt_c := rowsOf Int_c
  have hL : (⟨ar, cm, bo, sc, sa, sx, ss, sl, bs, sb, ln, sr, ap, up, rp, fr, ge, le, lt, nz, mm, ma, sm, fl, al⟩ : Lf) = Ls := rfl
  show AC Try.prog 133 [.ag [.s (.int .i64 a0v_Id), .ow 3 (eInt_c a0v_Cells)], .v (.s (.int .i64 a1))] _ _
  refine AC.of_run2 tab_ok Try.func133 (by rfl) (by rfl) (by cbv) ⟨by decide, rfl⟩ fun F hP hA => ?_
  have hT : TabOk F.P tab := hP ▸ tab_ok
  have hM : F.P.follows .mixedOrders = true := hP ▸ mixed
  have hC : ∀ {f a o r}, AC Try.prog f a o r → AC F.P f a o r := fun h => hP ▸ h
  refine Run.seq ?_
  refine Run.region hL hT [] (by cbv) ?_ ?_
  · exact hq0
  refine Run.seq ?_
  obtain ⟨⟨r1v_1, r1v_2⟩, h_r1, h⟩ := bnd h
  refine Run.region hL hT [(3, .call [true, false] [.v (.ow 3 (eInt_c r1v_1)), .v (.jk)] [.v (.s (.int .i64 r1v_2))])] (by cbv) ?_ ?_
  · exact (hq trivial (hq (hC (laws_markIntS_ac h_r1)) hq0))
  refine Run.seq ?_
  refine Run.region hL hT [] (by cbv) ?_ ?_
  · exact hq0
  refine Run.ret ?_
  cases h
  refine ⟨_, _, by cbv, ?_, ?_⟩
  · exact LLe.r
  · exact (ALe.v LLe.r ALe.nil)

set_option maxRecDepth 8000 in
theorem laws_markMut_ac {a0v_Kind : Int} {a0v_Table : Int} {a0v_Rowv_Id : Int} {a0v_Rowv_Cells : List Int} {a1 : Int} {r : Mut × Int} (h : laws_markMut.f (Mut.mk a0v_Kind a0v_Table (Row.mk a0v_Rowv_Id a0v_Rowv_Cells)) a1 = some r) : AC Try.prog 57 [.ag [.s (.int .i64 a0v_Kind), .s (.int .i64 a0v_Table), .s (.int .i64 a0v_Rowv_Id), .ow 3 (rowsOf Int_c a0v_Rowv_Cells)], .v (.s (.int .i64 a1))] [.ag [.jk, .jk, .jk, .ow 3 (rowsOf Int_c r.1.Row.Cells)], .v (.jk)] [.v (.s (.int .i64 r.2))] := by
  unfold laws_markMut.f at h
  let ar := Ls.ar; let cm := Ls.cm; let bo := Ls.bo; let sc := Ls.sc; let sa := Ls.sa; let sx := Ls.sx; let ss := Ls.ss; let sl := Ls.sl; let bs := Ls.bs; let sb := Ls.sb; let ln := Ls.ln; let sr := Ls.sr; let ap := Ls.ap; let up := Ls.up; let rp := Ls.rp; let fr := Ls.fr; let ge := Ls.ge; let le := Ls.le; let lt := Ls.lt; let nz := Ls.nz; let mm := Ls.mm; let ma := Ls.ma; let sm := Ls.sm; let fl := Ls.fl; let al := Ls.al
  let eInt_c := rowsOf Int_c
  have hL : (⟨ar, cm, bo, sc, sa, sx, ss, sl, bs, sb, ln, sr, ap, up, rp, fr, ge, le, lt, nz, mm, ma, sm, fl, al⟩ : Lf) = Ls := rfl
  show AC Try.prog 57 [.ag [.s (.int .i64 a0v_Kind), .s (.int .i64 a0v_Table), .s (.int .i64 a0v_Rowv_Id), .ow 3 (eInt_c a0v_Rowv_Cells)], .v (.s (.int .i64 a1))] _ _
  refine AC.of_run2 tab_ok Try.func57 (by rfl) (by rfl) (by cbv) ⟨by decide, rfl⟩ fun F hP hA => ?_
  have hT : TabOk F.P tab := hP ▸ tab_ok
  have hM : F.P.follows .mixedOrders = true := hP ▸ mixed
  have hC : ∀ {f a o r}, AC Try.prog f a o r → AC F.P f a o r := fun h => hP ▸ h
  refine Run.seq ?_
  refine Run.region hL hT [] (by cbv) ?_ ?_
  · exact hq0
  refine Run.seq ?_
  obtain ⟨⟨⟨r1v_1v_Id, r1v_1v_Cells⟩, r1v_2⟩, h_r1, h⟩ := bnd h
  refine Run.region hL hT [(3, .call [true, false] [.ag [.jk, .ow 3 (eInt_c r1v_1v_Cells)], .v (.jk)] [.v (.s (.int .i64 r1v_2))])] (by cbv) ?_ ?_
  · exact (hq trivial (hq (hC (laws_markRow_ac h_r1)) hq0))
  refine Run.seq ?_
  refine Run.region hL hT [] (by cbv) ?_ ?_
  · exact hq0
  refine Run.ret ?_
  cases h
  refine ⟨_, _, by cbv, ?_, ?_⟩
  · exact LLe.r
  · exact (ALe.v LLe.r ALe.nil)

set_option maxRecDepth 8000 in
theorem laws_markChange_ac {a0v_Table : Int} {a0v_Had : Bool} {a0v_Has : Bool} {a0v_Oldv_Id : Int} {a0v_Oldv_Cells : List Int} {a0v_Newv_Id : Int} {a0v_Newv_Cells : List Int} {a1 : Int} {r : Change × Int} (h : laws_markChange.f (Change.mk a0v_Table a0v_Had a0v_Has (Row.mk a0v_Oldv_Id a0v_Oldv_Cells) (Row.mk a0v_Newv_Id a0v_Newv_Cells)) a1 = some r) : AC Try.prog 58 [.ag [.s (.int .i64 a0v_Table), .s (.bool a0v_Had), .s (.bool a0v_Has), .s (.int .i64 a0v_Oldv_Id), .ow 3 (rowsOf Int_c a0v_Oldv_Cells), .s (.int .i64 a0v_Newv_Id), .ow 3 (rowsOf Int_c a0v_Newv_Cells)], .v (.s (.int .i64 a1))] [.ag [.jk, .jk, .jk, .jk, .ow 3 (rowsOf Int_c r.1.Old.Cells), .jk, .ow 3 (rowsOf Int_c r.1.New.Cells)], .v (.jk)] [.v (.s (.int .i64 r.2))] := by
  unfold laws_markChange.f at h
  let ar := Ls.ar; let cm := Ls.cm; let bo := Ls.bo; let sc := Ls.sc; let sa := Ls.sa; let sx := Ls.sx; let ss := Ls.ss; let sl := Ls.sl; let bs := Ls.bs; let sb := Ls.sb; let ln := Ls.ln; let sr := Ls.sr; let ap := Ls.ap; let up := Ls.up; let rp := Ls.rp; let fr := Ls.fr; let ge := Ls.ge; let le := Ls.le; let lt := Ls.lt; let nz := Ls.nz; let mm := Ls.mm; let ma := Ls.ma; let sm := Ls.sm; let fl := Ls.fl; let al := Ls.al
  let eInt_c := rowsOf Int_c
  have hL : (⟨ar, cm, bo, sc, sa, sx, ss, sl, bs, sb, ln, sr, ap, up, rp, fr, ge, le, lt, nz, mm, ma, sm, fl, al⟩ : Lf) = Ls := rfl
  show AC Try.prog 58 [.ag [.s (.int .i64 a0v_Table), .s (.bool a0v_Had), .s (.bool a0v_Has), .s (.int .i64 a0v_Oldv_Id), .ow 3 (eInt_c a0v_Oldv_Cells), .s (.int .i64 a0v_Newv_Id), .ow 3 (eInt_c a0v_Newv_Cells)], .v (.s (.int .i64 a1))] _ _
  refine AC.of_run2 tab_ok Try.func58 (by rfl) (by rfl) (by cbv) ⟨by decide, rfl⟩ fun F hP hA => ?_
  have hT : TabOk F.P tab := hP ▸ tab_ok
  have hM : F.P.follows .mixedOrders = true := hP ▸ mixed
  have hC : ∀ {f a o r}, AC Try.prog f a o r → AC F.P f a o r := fun h => hP ▸ h
  refine Run.seq ?_
  refine Run.region hL hT [] (by cbv) ?_ ?_
  · exact hq0
  refine Run.seq ?_
  obtain ⟨⟨⟨r1v_1v_Id, r1v_1v_Cells⟩, r1v_2⟩, h_r1, h⟩ := bnd h
  refine Run.region hL hT [(3, .call [true, false] [.ag [.jk, .ow 3 (eInt_c r1v_1v_Cells)], .v (.jk)] [.v (.s (.int .i64 r1v_2))])] (by cbv) ?_ ?_
  · exact (hq trivial (hq (hC (laws_markRow_ac h_r1)) hq0))
  refine Run.seq ?_
  obtain ⟨⟨⟨r2v_1v_Id, r2v_1v_Cells⟩, r2v_2⟩, h_r2, h⟩ := bnd h
  refine Run.region hL hT [(3, .call [true, false] [.ag [.jk, .ow 3 (eInt_c r2v_1v_Cells)], .v (.jk)] [.v (.s (.int .i64 r2v_2))])] (by cbv) ?_ ?_
  · exact (hq trivial (hq (hC (laws_markRow_ac h_r2)) hq0))
  refine Run.seq ?_
  refine Run.region hL hT [] (by cbv) ?_ ?_
  · exact hq0
  refine Run.ret ?_
  cases h
  refine ⟨_, _, by cbv, ?_, ?_⟩
  · exact LLe.r
  · exact (ALe.v LLe.r ALe.nil)

set_option maxRecDepth 8000 in
theorem laws_heldIntS_ac {a0 : List Int} {a1 : Int} {r : Int} (h : laws_heldIntS.f a0 a1 = some r) : AC Try.prog 50 [.v (.im false (rowsOf Int_c a0)), .v (.s (.int .i64 a1))] [.v (.jk), .v (.jk)] [.v (.s (.int .i64 r))] := by
  unfold laws_heldIntS.f at h
  let ar := Ls.ar; let cm := Ls.cm; let bo := Ls.bo; let sc := Ls.sc; let sa := Ls.sa; let sx := Ls.sx; let ss := Ls.ss; let sl := Ls.sl; let bs := Ls.bs; let sb := Ls.sb; let ln := Ls.ln; let sr := Ls.sr; let ap := Ls.ap; let up := Ls.up; let rp := Ls.rp; let fr := Ls.fr; let ge := Ls.ge; let le := Ls.le; let lt := Ls.lt; let nz := Ls.nz; let mm := Ls.mm; let ma := Ls.ma; let sm := Ls.sm; let fl := Ls.fl; let al := Ls.al
  let eInt_c := rowsOf Int_c
  let lenI_Int := @lenI Int
  have hL : (⟨ar, cm, bo, sc, sa, sx, ss, sl, bs, sb, ln, sr, ap, up, rp, fr, ge, le, lt, nz, mm, ma, sm, fl, al⟩ : Lf) = Ls := rfl
  show AC Try.prog 50 [.v (.im false (eInt_c a0)), .v (.s (.int .i64 a1))] _ _
  refine AC.of_run2 tab_ok Try.func50 (by rfl) (by rfl) (by cbv) ⟨by decide, rfl⟩ fun F hP hA => ?_
  have hT : TabOk F.P tab := hP ▸ tab_ok
  have hM : F.P.follows .mixedOrders = true := hP ▸ mixed
  have hC : ∀ {f a o r}, AC Try.prog f a o r → AC F.P f a o r := fun h => hP ▸ h
  refine Run.seq ?_
  refine Run.region hL hT [] (by cbv) ?_ ?_
  · exact hq0
  refine Run.seq ?_
  refine Run.seq ?_
  refine Run.region hL hT [] (by cbv) ?_ ?_
  · exact hq0
  refine Run.block ?_
  refine Run.loop2 (fun (z4 : Int) (z5 : Int) => ⟨21, 100000, [(0, .t (.im false (eInt_c a0))), (1, .t (.s (.int .i64 z4))), (5, .t (.s (.int .i64 z5)))], []⟩) (x0 := a1) (x1 := 0) h (Weak.of _ [] hA (by cbv) ?_) (fun _ _ => rfl) ?_
  · repeat (first | exact hq0 | refine hq (by first | exact True.intro | rfl) ?_)
  · intro k z4 z5 h
    rw [laws_heldIntS.l0] at h
    refine Run.seq ?_
    refine Run.seq ?_
    refine Run.region hL hT [] (by cbv) ?_ ?_
    · exact (hq trivial hq0)
    rw [show ln (eInt_c a0) = lenI_Int a0 from ln_eq Int_c _]
    refine Run.cond (by cbv) (hq0) (fun c6 => ?_) (fun c6 => ?_)
    · have h := if_t c6 h
      refine Run.skip ?_
      refine Run.seq ?_
      refine Run.block ?_
      refine Run.seq ?_
      refine Run.seq ?_
      obtain ⟨x7, h_x7, h⟩ := bnd h
      refine Run.region hL hT [(2, .el [.s (.int .i64 x7)])] (by cbv) ?_ ?_
      · exact (hq (get_le h_x7) (hq (get_lt (f := Int_c) h_x7) (hq (get_ge (f := Int_c) h_x7) (hq trivial hq0))))
      refine Run.cond (by cbv) (hq0) (fun c8 => ?_) (fun c8 => ?_)
      · have h := if_t c8 h
        refine Run.seq ?_
        refine Run.region hL hT [] (by cbv) ?_ ?_
        · exact hq0
        refine Run.ret ?_
        cases h
        refine ⟨_, _, by cbv, ?_, ?_⟩
        · exact LLe.r
        · exact (ALe.v LLe.r ALe.nil)
      · have h := if_f c8 h
        refine Run.skip ?_
        refine Run.region hL hT [] (by cbv) ?_ ?_
        · exact (hq trivial hq0)
        refine Run.region hL hT [] (by cbv) ?_ ?_
        · exact (hq trivial hq0)
        refine ⟨(ar .add .i64 z4 1), (ar .add .i64 z5 1), h, Weak.of _ [] hA (by cbv) ?_⟩
        repeat (first | exact hq0 | refine hq (by first | exact True.intro | rfl) ?_)
    · have h := if_f c6 h
      refine Run.exit ?_
      refine Run.seq ?_
      refine Run.region hL hT [] (by cbv) ?_ ?_
      · exact hq0
      refine Run.ret ?_
      cases h
      refine ⟨_, _, by cbv, ?_, ?_⟩
      · exact LLe.r
      · exact (ALe.v LLe.r ALe.nil)

set_option maxRecDepth 8000 in
theorem laws_heldSchema_ac {a0v_Cols : List Int} {a1 : Int} {r : Int} (h : laws_heldSchema.f (Schema.mk a0v_Cols) a1 = some r) : AC Try.prog 134 [.ag [.im false (rowsOf Int_c a0v_Cols)], .v (.s (.int .i64 a1))] [.ag [.jk], .v (.jk)] [.v (.s (.int .i64 r))] := by
  unfold laws_heldSchema.f at h
  let ar := Ls.ar; let cm := Ls.cm; let bo := Ls.bo; let sc := Ls.sc; let sa := Ls.sa; let sx := Ls.sx; let ss := Ls.ss; let sl := Ls.sl; let bs := Ls.bs; let sb := Ls.sb; let ln := Ls.ln; let sr := Ls.sr; let ap := Ls.ap; let up := Ls.up; let rp := Ls.rp; let fr := Ls.fr; let ge := Ls.ge; let le := Ls.le; let lt := Ls.lt; let nz := Ls.nz; let mm := Ls.mm; let ma := Ls.ma; let sm := Ls.sm; let fl := Ls.fl; let al := Ls.al
  let eInt_c := rowsOf Int_c
  have hL : (⟨ar, cm, bo, sc, sa, sx, ss, sl, bs, sb, ln, sr, ap, up, rp, fr, ge, le, lt, nz, mm, ma, sm, fl, al⟩ : Lf) = Ls := rfl
  show AC Try.prog 134 [.ag [.im false (eInt_c a0v_Cols)], .v (.s (.int .i64 a1))] _ _
  refine AC.of_run2 tab_ok Try.func134 (by rfl) (by rfl) (by cbv) ⟨by decide, rfl⟩ fun F hP hA => ?_
  have hT : TabOk F.P tab := hP ▸ tab_ok
  have hM : F.P.follows .mixedOrders = true := hP ▸ mixed
  have hC : ∀ {f a o r}, AC Try.prog f a o r → AC F.P f a o r := fun h => hP ▸ h
  refine Run.seq ?_
  refine Run.region hL hT [] (by cbv) ?_ ?_
  · exact hq0
  refine Run.seq ?_
  obtain ⟨r1, h_r1, h⟩ := bnd h
  refine Run.region hL hT [(3, .call [false, false] [.v (.jk), .v (.jk)] [.v (.s (.int .i64 r1))])] (by cbv) ?_ ?_
  · exact (hq trivial (hq (hC (laws_heldIntS_ac h_r1)) hq0))
  refine Run.seq ?_
  refine Run.seq ?_
  refine Run.region hL hT [] (by cbv) ?_ ?_
  · exact (hq trivial hq0)
  refine Run.cond (by cbv) (hq0) (fun c2 => ?_) (fun c2 => ?_)
  · have h := if_t c2 h
    refine Run.seq ?_
    refine Run.region hL hT [] (by cbv) ?_ ?_
    · exact hq0
    refine Run.ret ?_
    cases h
    refine ⟨_, _, by cbv, ?_, ?_⟩
    · exact LLe.r
    · exact (ALe.v LLe.r ALe.nil)
  · have h := if_f c2 h
    refine Run.skip ?_
    refine Run.seq ?_
    refine Run.region hL hT [] (by cbv) ?_ ?_
    · exact hq0
    refine Run.ret ?_
    cases h
    refine ⟨_, _, by cbv, ?_, ?_⟩
    · exact LLe.r
    · exact (ALe.v LLe.r ALe.nil)

set_option maxRecDepth 8000 in
theorem laws_heldRowS_ac {a0 : List Row} {a1 : Int} {r : Int} (h : laws_heldRowS.f a0 a1 = some r) : AC Try.prog 157 [.v (.im false (rowsOf Row_i a0)), .v (.s (.int .i64 a1))] [.v (.jk), .v (.jk)] [.v (.s (.int .i64 r))] := by
  unfold laws_heldRowS.f at h
  let ar := Ls.ar; let cm := Ls.cm; let bo := Ls.bo; let sc := Ls.sc; let sa := Ls.sa; let sx := Ls.sx; let ss := Ls.ss; let sl := Ls.sl; let bs := Ls.bs; let sb := Ls.sb; let ln := Ls.ln; let sr := Ls.sr; let ap := Ls.ap; let up := Ls.up; let rp := Ls.rp; let fr := Ls.fr; let ge := Ls.ge; let le := Ls.le; let lt := Ls.lt; let nz := Ls.nz; let mm := Ls.mm; let ma := Ls.ma; let sm := Ls.sm; let fl := Ls.fl; let al := Ls.al
  let eInt_c := rowsOf Int_c
  let eRow_i := rowsOf Row_i
  let lenI_Row := @lenI Row
  have hL : (⟨ar, cm, bo, sc, sa, sx, ss, sl, bs, sb, ln, sr, ap, up, rp, fr, ge, le, lt, nz, mm, ma, sm, fl, al⟩ : Lf) = Ls := rfl
  show AC Try.prog 157 [.v (.im false (eRow_i a0)), .v (.s (.int .i64 a1))] _ _
  refine AC.of_run2 tab_ok Try.func157 (by rfl) (by rfl) (by cbv) ⟨by decide, rfl⟩ fun F hP hA => ?_
  have hT : TabOk F.P tab := hP ▸ tab_ok
  have hM : F.P.follows .mixedOrders = true := hP ▸ mixed
  have hC : ∀ {f a o r}, AC Try.prog f a o r → AC F.P f a o r := fun h => hP ▸ h
  refine Run.seq ?_
  refine Run.region hL hT [] (by cbv) ?_ ?_
  · exact hq0
  refine Run.seq ?_
  refine Run.seq ?_
  refine Run.region hL hT [] (by cbv) ?_ ?_
  · exact hq0
  refine Run.block ?_
  refine Run.loop2 (fun (z4 : Int) (z5 : Int) => ⟨31, 100000, [(0, .t (.im false (eRow_i a0))), (1, .t (.s (.int .i64 z4))), (5, .t (.s (.int .i64 z5)))], []⟩) (x0 := a1) (x1 := 0) h (Weak.of _ [] hA (by cbv) ?_) (fun _ _ => rfl) ?_
  · repeat (first | exact hq0 | refine hq (by first | exact True.intro | rfl) ?_)
  · intro k z4 z5 h
    rw [laws_heldRowS.l0] at h
    refine Run.seq ?_
    refine Run.seq ?_
    refine Run.region hL hT [] (by cbv) ?_ ?_
    · exact (hq trivial hq0)
    rw [show ln (eRow_i a0) = lenI_Row a0 from ln_eq Row_i _]
    refine Run.cond (by cbv) (hq0) (fun c6 => ?_) (fun c6 => ?_)
    · have h := if_t c6 h
      refine Run.skip ?_
      refine Run.seq ?_
      refine Run.block ?_
      refine Run.seq ?_
      refine Run.seq ?_
      obtain ⟨⟨x7v_Id, x7v_Cells⟩, h_x7, h⟩ := bnd h
      refine Run.region hL hT [(2, .el [.s (.int .i64 x7v_Id), .im false (eInt_c x7v_Cells)])] (by cbv) ?_ ?_
      · exact (hq (get_le h_x7) (hq (get_lt (f := Row_i) h_x7) (hq (get_ge (f := Row_i) h_x7) (hq trivial hq0))))
      refine Run.cond (by cbv) (hq0) (fun c8 => ?_) (fun c8 => ?_)
      · have h := if_t c8 h
        refine Run.seq ?_
        refine Run.region hL hT [] (by cbv) ?_ ?_
        · exact hq0
        refine Run.ret ?_
        cases h
        refine ⟨_, _, by cbv, ?_, ?_⟩
        · exact LLe.r
        · exact (ALe.v LLe.r ALe.nil)
      · have h := if_f c8 h
        refine Run.skip ?_
        refine Run.seq ?_
        refine Run.region hL hT [] (by cbv) ?_ ?_
        · exact (hq trivial hq0)
        refine Run.seq ?_
        obtain ⟨r9, h_r9, h⟩ := bnd h
        refine Run.region hL hT [(2, .el [.s (.int .i64 x7v_Id), .im false (eInt_c x7v_Cells)]), (6, .call [false, false] [.v (.jk), .v (.jk)] [.v (.s (.int .i64 r9))])] (by cbv) ?_ ?_
        · exact (hq (get_le h_x7) (hq (get_lt (f := Row_i) h_x7) (hq (get_ge (f := Row_i) h_x7) (hq (hC (laws_heldIntS_ac h_r9)) hq0))))
        refine Run.seq ?_
        refine Run.region hL hT [] (by cbv) ?_ ?_
        · exact (hq trivial hq0)
        refine Run.cond (by cbv) (hq0) (fun c10 => ?_) (fun c10 => ?_)
        · have h := if_t c10 h
          refine Run.seq ?_
          refine Run.region hL hT [] (by cbv) ?_ ?_
          · exact hq0
          refine Run.ret ?_
          cases h
          refine ⟨_, _, by cbv, ?_, ?_⟩
          · exact LLe.r
          · exact (ALe.v LLe.r ALe.nil)
        · have h := if_f c10 h
          refine Run.skip ?_
          refine Run.region hL hT [] (by cbv) ?_ ?_
          · exact (hq trivial hq0)
          refine ⟨r9, (ar .add .i64 z5 1), h, Weak.of _ [] hA (by cbv) ?_⟩
          repeat (first | exact hq0 | refine hq (by first | exact True.intro | rfl) ?_)
    · have h := if_f c6 h
      refine Run.exit ?_
      refine Run.seq ?_
      refine Run.region hL hT [] (by cbv) ?_ ?_
      · exact hq0
      refine Run.ret ?_
      cases h
      refine ⟨_, _, by cbv, ?_, ?_⟩
      · exact LLe.r
      · exact (ALe.v LLe.r ALe.nil)

set_option maxRecDepth 8000 in
theorem laws_heldRowSS_ac {a0 : List (List Row)} {a1 : Int} {r : Int} (h : laws_heldRowSS.f a0 a1 = some r) : AC Try.prog 135 [.v (.im false (rowsOf RowS_i a0)), .v (.s (.int .i64 a1))] [.v (.jk), .v (.jk)] [.v (.s (.int .i64 r))] := by
  unfold laws_heldRowSS.f at h
  let ar := Ls.ar; let cm := Ls.cm; let bo := Ls.bo; let sc := Ls.sc; let sa := Ls.sa; let sx := Ls.sx; let ss := Ls.ss; let sl := Ls.sl; let bs := Ls.bs; let sb := Ls.sb; let ln := Ls.ln; let sr := Ls.sr; let ap := Ls.ap; let up := Ls.up; let rp := Ls.rp; let fr := Ls.fr; let ge := Ls.ge; let le := Ls.le; let lt := Ls.lt; let nz := Ls.nz; let mm := Ls.mm; let ma := Ls.ma; let sm := Ls.sm; let fl := Ls.fl; let al := Ls.al
  let eRowS_i := rowsOf RowS_i
  let eRow_i := rowsOf Row_i
  let lenI_RowS := @lenI (List Row)
  have hL : (⟨ar, cm, bo, sc, sa, sx, ss, sl, bs, sb, ln, sr, ap, up, rp, fr, ge, le, lt, nz, mm, ma, sm, fl, al⟩ : Lf) = Ls := rfl
  show AC Try.prog 135 [.v (.im false (eRowS_i a0)), .v (.s (.int .i64 a1))] _ _
  refine AC.of_run2 tab_ok Try.func135 (by rfl) (by rfl) (by cbv) ⟨by decide, rfl⟩ fun F hP hA => ?_
  have hT : TabOk F.P tab := hP ▸ tab_ok
  have hM : F.P.follows .mixedOrders = true := hP ▸ mixed
  have hC : ∀ {f a o r}, AC Try.prog f a o r → AC F.P f a o r := fun h => hP ▸ h
  refine Run.seq ?_
  refine Run.region hL hT [] (by cbv) ?_ ?_
  · exact hq0
  refine Run.seq ?_
  refine Run.seq ?_
  refine Run.region hL hT [] (by cbv) ?_ ?_
  · exact hq0
  refine Run.block ?_
  refine Run.loop2 (fun (z4 : Int) (z5 : Int) => ⟨21, 100000, [(0, .t (.im false (eRowS_i a0))), (1, .t (.s (.int .i64 z4))), (5, .t (.s (.int .i64 z5)))], []⟩) (x0 := a1) (x1 := 0) h (Weak.of _ [] hA (by cbv) ?_) (fun _ _ => rfl) ?_
  · repeat (first | exact hq0 | refine hq (by first | exact True.intro | rfl) ?_)
  · intro k z4 z5 h
    rw [laws_heldRowSS.l0] at h
    refine Run.seq ?_
    refine Run.seq ?_
    refine Run.region hL hT [] (by cbv) ?_ ?_
    · exact (hq trivial hq0)
    rw [show ln (eRowS_i a0) = lenI_RowS a0 from ln_eq RowS_i _]
    refine Run.cond (by cbv) (hq0) (fun c6 => ?_) (fun c6 => ?_)
    · have h := if_t c6 h
      refine Run.skip ?_
      refine Run.seq ?_
      refine Run.block ?_
      refine Run.seq ?_
      obtain ⟨x7, h_x7, h⟩ := bnd h
      obtain ⟨r8, h_r8, h⟩ := bnd h
      refine Run.region hL hT [(2, .el [.im false (eRow_i x7)]), (5, .call [false, false] [.v (.jk), .v (.jk)] [.v (.s (.int .i64 r8))])] (by cbv) ?_ ?_
      · exact (hq (get_le h_x7) (hq (get_lt (f := RowS_i) h_x7) (hq (get_ge (f := RowS_i) h_x7) (hq (hC (laws_heldRowS_ac h_r8)) hq0))))
      refine Run.seq ?_
      refine Run.region hL hT [] (by cbv) ?_ ?_
      · exact (hq trivial hq0)
      refine Run.cond (by cbv) (hq0) (fun c9 => ?_) (fun c9 => ?_)
      · have h := if_t c9 h
        refine Run.seq ?_
        refine Run.region hL hT [] (by cbv) ?_ ?_
        · exact hq0
        refine Run.ret ?_
        cases h
        refine ⟨_, _, by cbv, ?_, ?_⟩
        · exact LLe.r
        · exact (ALe.v LLe.r ALe.nil)
      · have h := if_f c9 h
        refine Run.skip ?_
        refine Run.region hL hT [] (by cbv) ?_ ?_
        · exact (hq trivial hq0)
        refine ⟨r8, (ar .add .i64 z5 1), h, Weak.of _ [] hA (by cbv) ?_⟩
        repeat (first | exact hq0 | refine hq (by first | exact True.intro | rfl) ?_)
    · have h := if_f c6 h
      refine Run.exit ?_
      refine Run.seq ?_
      refine Run.region hL hT [] (by cbv) ?_ ?_
      · exact hq0
      refine Run.ret ?_
      cases h
      refine ⟨_, _, by cbv, ?_, ?_⟩
      · exact LLe.r
      · exact (ALe.v LLe.r ALe.nil)

set_option maxRecDepth 8000 in
theorem laws_heldStore_ac {a0v_Schemav_Cols : List Int} {a0v_Version : Int} {a0v_Tables : List (List Row)} {a1 : Int} {r : Int} (h : laws_heldStore.f (Store.mk (Schema.mk a0v_Schemav_Cols) a0v_Version a0v_Tables) a1 = some r) : AC Try.prog 59 [.ag [.im false (rowsOf Int_c a0v_Schemav_Cols), .s (.int .i64 a0v_Version), .im false (rowsOf RowS_i a0v_Tables)], .v (.s (.int .i64 a1))] [.ag [.jk, .jk, .jk], .v (.jk)] [.v (.s (.int .i64 r))] := by
  unfold laws_heldStore.f at h
  let ar := Ls.ar; let cm := Ls.cm; let bo := Ls.bo; let sc := Ls.sc; let sa := Ls.sa; let sx := Ls.sx; let ss := Ls.ss; let sl := Ls.sl; let bs := Ls.bs; let sb := Ls.sb; let ln := Ls.ln; let sr := Ls.sr; let ap := Ls.ap; let up := Ls.up; let rp := Ls.rp; let fr := Ls.fr; let ge := Ls.ge; let le := Ls.le; let lt := Ls.lt; let nz := Ls.nz; let mm := Ls.mm; let ma := Ls.ma; let sm := Ls.sm; let fl := Ls.fl; let al := Ls.al
  let eInt_c := rowsOf Int_c
  let eRowS_i := rowsOf RowS_i
  have hL : (⟨ar, cm, bo, sc, sa, sx, ss, sl, bs, sb, ln, sr, ap, up, rp, fr, ge, le, lt, nz, mm, ma, sm, fl, al⟩ : Lf) = Ls := rfl
  show AC Try.prog 59 [.ag [.im false (eInt_c a0v_Schemav_Cols), .s (.int .i64 a0v_Version), .im false (eRowS_i a0v_Tables)], .v (.s (.int .i64 a1))] _ _
  refine AC.of_run2 tab_ok Try.func59 (by rfl) (by rfl) (by cbv) ⟨by decide, rfl⟩ fun F hP hA => ?_
  have hT : TabOk F.P tab := hP ▸ tab_ok
  have hM : F.P.follows .mixedOrders = true := hP ▸ mixed
  have hC : ∀ {f a o r}, AC Try.prog f a o r → AC F.P f a o r := fun h => hP ▸ h
  refine Run.seq ?_
  refine Run.region hL hT [] (by cbv) ?_ ?_
  · exact hq0
  refine Run.seq ?_
  obtain ⟨r1, h_r1, h⟩ := bnd h
  refine Run.region hL hT [(3, .call [false, false] [.ag [.jk], .v (.jk)] [.v (.s (.int .i64 r1))])] (by cbv) ?_ ?_
  · exact (hq trivial (hq (hC (laws_heldSchema_ac h_r1)) hq0))
  refine Run.seq ?_
  refine Run.seq ?_
  refine Run.region hL hT [] (by cbv) ?_ ?_
  · exact (hq trivial hq0)
  refine Run.cond (by cbv) (hq0) (fun c2 => ?_) (fun c2 => ?_)
  · have h := if_t c2 h
    refine Run.seq ?_
    refine Run.region hL hT [] (by cbv) ?_ ?_
    · exact hq0
    refine Run.ret ?_
    cases h
    refine ⟨_, _, by cbv, ?_, ?_⟩
    · exact LLe.r
    · exact (ALe.v LLe.r ALe.nil)
  · have h := if_f c2 h
    refine Run.skip ?_
    refine Run.seq ?_
    obtain ⟨r3, h_r3, h⟩ := bnd h
    refine Run.region hL hT [(3, .call [false, false] [.v (.jk), .v (.jk)] [.v (.s (.int .i64 r3))])] (by cbv) ?_ ?_
    · exact (hq trivial (hq (hC (laws_heldRowSS_ac h_r3)) hq0))
    refine Run.seq ?_
    refine Run.seq ?_
    refine Run.region hL hT [] (by cbv) ?_ ?_
    · exact (hq trivial hq0)
    refine Run.cond (by cbv) (hq0) (fun c4 => ?_) (fun c4 => ?_)
    · have h := if_t c4 h
      refine Run.seq ?_
      refine Run.region hL hT [] (by cbv) ?_ ?_
      · exact hq0
      refine Run.ret ?_
      cases h
      refine ⟨_, _, by cbv, ?_, ?_⟩
      · exact LLe.r
      · exact (ALe.v LLe.r ALe.nil)
    · have h := if_f c4 h
      refine Run.skip ?_
      refine Run.seq ?_
      refine Run.region hL hT [] (by cbv) ?_ ?_
      · exact hq0
      refine Run.ret ?_
      cases h
      refine ⟨_, _, by cbv, ?_, ?_⟩
      · exact LLe.r
      · exact (ALe.v LLe.r ALe.nil)

set_option maxRecDepth 8000 in
theorem laws_heldRow_ac {a0v_Id : Int} {a0v_Cells : List Int} {a1 : Int} {r : Int} (h : laws_heldRow.f (Row.mk a0v_Id a0v_Cells) a1 = some r) : AC Try.prog 136 [.ag [.s (.int .i64 a0v_Id), .im false (rowsOf Int_c a0v_Cells)], .v (.s (.int .i64 a1))] [.ag [.jk, .jk], .v (.jk)] [.v (.s (.int .i64 r))] := by
  unfold laws_heldRow.f at h
  let ar := Ls.ar; let cm := Ls.cm; let bo := Ls.bo; let sc := Ls.sc; let sa := Ls.sa; let sx := Ls.sx; let ss := Ls.ss; let sl := Ls.sl; let bs := Ls.bs; let sb := Ls.sb; let ln := Ls.ln; let sr := Ls.sr; let ap := Ls.ap; let up := Ls.up; let rp := Ls.rp; let fr := Ls.fr; let ge := Ls.ge; let le := Ls.le; let lt := Ls.lt; let nz := Ls.nz; let mm := Ls.mm; let ma := Ls.ma; let sm := Ls.sm; let fl := Ls.fl; let al := Ls.al
  let eInt_c := rowsOf Int_c
  have hL : (⟨ar, cm, bo, sc, sa, sx, ss, sl, bs, sb, ln, sr, ap, up, rp, fr, ge, le, lt, nz, mm, ma, sm, fl, al⟩ : Lf) = Ls := rfl
  show AC Try.prog 136 [.ag [.s (.int .i64 a0v_Id), .im false (eInt_c a0v_Cells)], .v (.s (.int .i64 a1))] _ _
  refine AC.of_run2 tab_ok Try.func136 (by rfl) (by rfl) (by cbv) ⟨by decide, rfl⟩ fun F hP hA => ?_
  have hT : TabOk F.P tab := hP ▸ tab_ok
  have hM : F.P.follows .mixedOrders = true := hP ▸ mixed
  have hC : ∀ {f a o r}, AC Try.prog f a o r → AC F.P f a o r := fun h => hP ▸ h
  refine Run.seq ?_
  refine Run.region hL hT [] (by cbv) ?_ ?_
  · exact hq0
  refine Run.seq ?_
  obtain ⟨r1, h_r1, h⟩ := bnd h
  refine Run.region hL hT [(3, .call [false, false] [.v (.jk), .v (.jk)] [.v (.s (.int .i64 r1))])] (by cbv) ?_ ?_
  · exact (hq trivial (hq (hC (laws_heldIntS_ac h_r1)) hq0))
  refine Run.seq ?_
  refine Run.seq ?_
  refine Run.region hL hT [] (by cbv) ?_ ?_
  · exact (hq trivial hq0)
  refine Run.cond (by cbv) (hq0) (fun c2 => ?_) (fun c2 => ?_)
  · have h := if_t c2 h
    refine Run.seq ?_
    refine Run.region hL hT [] (by cbv) ?_ ?_
    · exact hq0
    refine Run.ret ?_
    cases h
    refine ⟨_, _, by cbv, ?_, ?_⟩
    · exact LLe.r
    · exact (ALe.v LLe.r ALe.nil)
  · have h := if_f c2 h
    refine Run.skip ?_
    refine Run.seq ?_
    refine Run.region hL hT [] (by cbv) ?_ ?_
    · exact hq0
    refine Run.ret ?_
    cases h
    refine ⟨_, _, by cbv, ?_, ?_⟩
    · exact LLe.r
    · exact (ALe.v LLe.r ALe.nil)

set_option maxRecDepth 8000 in
theorem laws_heldChange_ac {a0v_Table : Int} {a0v_Had : Bool} {a0v_Has : Bool} {a0v_Oldv_Id : Int} {a0v_Oldv_Cells : List Int} {a0v_Newv_Id : Int} {a0v_Newv_Cells : List Int} {a1 : Int} {r : Int} (h : laws_heldChange.f (Change.mk a0v_Table a0v_Had a0v_Has (Row.mk a0v_Oldv_Id a0v_Oldv_Cells) (Row.mk a0v_Newv_Id a0v_Newv_Cells)) a1 = some r) : AC Try.prog 60 [.ag [.s (.int .i64 a0v_Table), .s (.bool a0v_Had), .s (.bool a0v_Has), .s (.int .i64 a0v_Oldv_Id), .im false (rowsOf Int_c a0v_Oldv_Cells), .s (.int .i64 a0v_Newv_Id), .im false (rowsOf Int_c a0v_Newv_Cells)], .v (.s (.int .i64 a1))] [.ag [.jk, .jk, .jk, .jk, .jk, .jk, .jk], .v (.jk)] [.v (.s (.int .i64 r))] := by
  unfold laws_heldChange.f at h
  let ar := Ls.ar; let cm := Ls.cm; let bo := Ls.bo; let sc := Ls.sc; let sa := Ls.sa; let sx := Ls.sx; let ss := Ls.ss; let sl := Ls.sl; let bs := Ls.bs; let sb := Ls.sb; let ln := Ls.ln; let sr := Ls.sr; let ap := Ls.ap; let up := Ls.up; let rp := Ls.rp; let fr := Ls.fr; let ge := Ls.ge; let le := Ls.le; let lt := Ls.lt; let nz := Ls.nz; let mm := Ls.mm; let ma := Ls.ma; let sm := Ls.sm; let fl := Ls.fl; let al := Ls.al
  let eInt_c := rowsOf Int_c
  have hL : (⟨ar, cm, bo, sc, sa, sx, ss, sl, bs, sb, ln, sr, ap, up, rp, fr, ge, le, lt, nz, mm, ma, sm, fl, al⟩ : Lf) = Ls := rfl
  show AC Try.prog 60 [.ag [.s (.int .i64 a0v_Table), .s (.bool a0v_Had), .s (.bool a0v_Has), .s (.int .i64 a0v_Oldv_Id), .im false (eInt_c a0v_Oldv_Cells), .s (.int .i64 a0v_Newv_Id), .im false (eInt_c a0v_Newv_Cells)], .v (.s (.int .i64 a1))] _ _
  refine AC.of_run2 tab_ok Try.func60 (by rfl) (by rfl) (by cbv) ⟨by decide, rfl⟩ fun F hP hA => ?_
  have hT : TabOk F.P tab := hP ▸ tab_ok
  have hM : F.P.follows .mixedOrders = true := hP ▸ mixed
  have hC : ∀ {f a o r}, AC Try.prog f a o r → AC F.P f a o r := fun h => hP ▸ h
  refine Run.seq ?_
  refine Run.region hL hT [] (by cbv) ?_ ?_
  · exact hq0
  refine Run.seq ?_
  obtain ⟨r1, h_r1, h⟩ := bnd h
  refine Run.region hL hT [(3, .call [false, false] [.ag [.jk, .jk], .v (.jk)] [.v (.s (.int .i64 r1))])] (by cbv) ?_ ?_
  · exact (hq trivial (hq (hC (laws_heldRow_ac h_r1)) hq0))
  refine Run.seq ?_
  refine Run.seq ?_
  refine Run.region hL hT [] (by cbv) ?_ ?_
  · exact (hq trivial hq0)
  refine Run.cond (by cbv) (hq0) (fun c2 => ?_) (fun c2 => ?_)
  · have h := if_t c2 h
    refine Run.seq ?_
    refine Run.region hL hT [] (by cbv) ?_ ?_
    · exact hq0
    refine Run.ret ?_
    cases h
    refine ⟨_, _, by cbv, ?_, ?_⟩
    · exact LLe.r
    · exact (ALe.v LLe.r ALe.nil)
  · have h := if_f c2 h
    refine Run.skip ?_
    refine Run.seq ?_
    obtain ⟨r3, h_r3, h⟩ := bnd h
    refine Run.region hL hT [(3, .call [false, false] [.ag [.jk, .jk], .v (.jk)] [.v (.s (.int .i64 r3))])] (by cbv) ?_ ?_
    · exact (hq trivial (hq (hC (laws_heldRow_ac h_r3)) hq0))
    refine Run.seq ?_
    refine Run.seq ?_
    refine Run.region hL hT [] (by cbv) ?_ ?_
    · exact (hq trivial hq0)
    refine Run.cond (by cbv) (hq0) (fun c4 => ?_) (fun c4 => ?_)
    · have h := if_t c4 h
      refine Run.seq ?_
      refine Run.region hL hT [] (by cbv) ?_ ?_
      · exact hq0
      refine Run.ret ?_
      cases h
      refine ⟨_, _, by cbv, ?_, ?_⟩
      · exact LLe.r
      · exact (ALe.v LLe.r ALe.nil)
    · have h := if_f c4 h
      refine Run.skip ?_
      refine Run.seq ?_
      refine Run.region hL hT [] (by cbv) ?_ ?_
      · exact hq0
      refine Run.ret ?_
      cases h
      refine ⟨_, _, by cbv, ?_, ?_⟩
      · exact LLe.r
      · exact (ALe.v LLe.r ALe.nil)

set_option maxRecDepth 8000 in
theorem laws_FnExactMutDo_ac {a0v_Schemav_Cols : List Int} {a0v_Version : Int} {a0v_Tables : List (List Row)} {a1v_Kind : Int} {a1v_Table : Int} {a1v_Rowv_Id : Int} {a1v_Rowv_Cells : List Int} {r : Bool} (h : laws_FnExactMutDo.f (Store.mk (Schema.mk a0v_Schemav_Cols) a0v_Version a0v_Tables) (Mut.mk a1v_Kind a1v_Table (Row.mk a1v_Rowv_Id a1v_Rowv_Cells)) = some r) : AC Try.prog 7 [.ag [.im false (rowsOf Int_c a0v_Schemav_Cols), .s (.int .i64 a0v_Version), .im false (rowsOf RowS_i a0v_Tables)], .ag [.s (.int .i64 a1v_Kind), .s (.int .i64 a1v_Table), .s (.int .i64 a1v_Rowv_Id), .im false (rowsOf Int_c a1v_Rowv_Cells)]] [.ag [.jk, .jk, .jk], .ag [.jk, .jk, .jk, .jk]] [.v (.s (.bool r))] := by
  unfold laws_FnExactMutDo.f at h
  let ar := Ls.ar; let cm := Ls.cm; let bo := Ls.bo; let sc := Ls.sc; let sa := Ls.sa; let sx := Ls.sx; let ss := Ls.ss; let sl := Ls.sl; let bs := Ls.bs; let sb := Ls.sb; let ln := Ls.ln; let sr := Ls.sr; let ap := Ls.ap; let up := Ls.up; let rp := Ls.rp; let fr := Ls.fr; let ge := Ls.ge; let le := Ls.le; let lt := Ls.lt; let nz := Ls.nz; let mm := Ls.mm; let ma := Ls.ma; let sm := Ls.sm; let fl := Ls.fl; let al := Ls.al
  let eInt_c := rowsOf Int_c
  let eRowS_i := rowsOf RowS_i
  let eRowS_o := rowsOf RowS_o
  have hL : (⟨ar, cm, bo, sc, sa, sx, ss, sl, bs, sb, ln, sr, ap, up, rp, fr, ge, le, lt, nz, mm, ma, sm, fl, al⟩ : Lf) = Ls := rfl
  show AC Try.prog 7 [.ag [.im false (eInt_c a0v_Schemav_Cols), .s (.int .i64 a0v_Version), .im false (eRowS_i a0v_Tables)], .ag [.s (.int .i64 a1v_Kind), .s (.int .i64 a1v_Table), .s (.int .i64 a1v_Rowv_Id), .im false (eInt_c a1v_Rowv_Cells)]] _ _
  refine AC.of_run2 tab_ok Try.func7 (by rfl) (by rfl) (by cbv) ⟨by decide, rfl⟩ fun F hP hA => ?_
  have hT : TabOk F.P tab := hP ▸ tab_ok
  have hM : F.P.follows .mixedOrders = true := hP ▸ mixed
  have hC : ∀ {f a o r}, AC Try.prog f a o r → AC F.P f a o r := fun h => hP ▸ h
  refine Run.seq ?_
  refine Run.region hL hT [] (by cbv) ?_ ?_
  · exact hq0
  refine Run.seq ?_
  refine Run.region hL hT [] (by cbv) ?_ ?_
  · exact hq0
  refine Run.seq ?_
  obtain ⟨r1, h_r1, h⟩ := bnd h
  refine Run.region hL hT [(2, .call [false, false] [.ag [.jk, .jk, .jk], .v (.jk)] [.v (.s (.int .i64 r1))])] (by cbv) ?_ ?_
  · exact (hq trivial (hq (hC (laws_szStore_ac h_r1)) hq0))
  refine Run.seq ?_
  refine Run.seq ?_
  refine Run.region hL hT [] (by cbv) ?_ ?_
  · exact (hq trivial hq0)
  refine Run.cond (by cbv) (hq0) (fun c2 => ?_) (fun c2 => ?_)
  · have h := if_t c2 h
    refine Run.seq ?_
    refine Run.region hL hT [] (by cbv) ?_ ?_
    · exact hq0
    refine Run.ret ?_
    cases h
    refine ⟨_, _, by cbv, ?_, ?_⟩
    · exact LLe.r
    · exact (ALe.v LLe.r ALe.nil)
  · have h := if_f c2 h
    refine Run.skip ?_
    refine Run.seq ?_
    obtain ⟨r3, h_r3, h⟩ := bnd h
    refine Run.region hL hT [(2, .call [false, false] [.ag [.jk, .jk, .jk, .jk], .v (.jk)] [.v (.s (.int .i64 r3))])] (by cbv) ?_ ?_
    · exact (hq trivial (hq (hC (laws_szMut_ac h_r3)) hq0))
    refine Run.seq ?_
    refine Run.seq ?_
    refine Run.region hL hT [] (by cbv) ?_ ?_
    · exact (hq trivial hq0)
    refine Run.cond (by cbv) (hq0) (fun c4 => ?_) (fun c4 => ?_)
    · have h := if_t c4 h
      refine Run.seq ?_
      refine Run.region hL hT [] (by cbv) ?_ ?_
      · exact hq0
      refine Run.ret ?_
      cases h
      refine ⟨_, _, by cbv, ?_, ?_⟩
      · exact LLe.r
      · exact (ALe.v LLe.r ALe.nil)
    · have h := if_f c4 h
      refine Run.skip ?_
      refine Run.seq ?_
      obtain ⟨⟨⟨r5v_Schemav_Cols⟩, r5v_Version, r5v_Tables⟩, h_r5, h⟩ := bnd h
      obtain ⟨⟨r6v_Kind, r6v_Table, ⟨r6v_Rowv_Id, r6v_Rowv_Cells⟩⟩, h_r6, h⟩ := bnd h
      obtain ⟨⟨⟨⟨r7v_1v_Schemav_Cols⟩, r7v_1v_Version, r7v_1v_Tables⟩, ⟨r7v_2v_1v_Table, r7v_2v_1v_Had, r7v_2v_1v_Has, ⟨r7v_2v_1v_Oldv_Id, r7v_2v_1v_Oldv_Cells⟩, ⟨r7v_2v_1v_Newv_Id, r7v_2v_1v_Newv_Cells⟩⟩, r7v_2v_2⟩, h_r7, h⟩ := bnd h
      refine Run.draw hL hT hM [(1, .call [false] [.ag [.jk, .jk, .jk]] [.ag [.ow 3 (eInt_c r5v_Schemav_Cols), .s (.int .i64 r5v_Version), .ow 54 (eRowS_o r5v_Tables)]]), (3, .call [false] [.ag [.jk, .jk, .jk, .jk]] [.ag [.s (.int .i64 r6v_Kind), .s (.int .i64 r6v_Table), .s (.int .i64 r6v_Rowv_Id), .ow 3 (eInt_c r6v_Rowv_Cells)]]), (4, .call [false, false] [.ag [.jk, .jk, .jk], .ag [.jk, .jk, .jk, .jk]] [.ag [.ow 3 (eInt_c r7v_1v_Schemav_Cols), .s (.int .i64 r7v_1v_Version), .ow 54 (eRowS_o r7v_1v_Tables)], .ag [.s (.int .i64 r7v_2v_1v_Table), .s (.bool r7v_2v_1v_Had), .s (.bool r7v_2v_1v_Has), .s (.int .i64 r7v_2v_1v_Oldv_Id), .ow 3 (eInt_c r7v_2v_1v_Oldv_Cells), .s (.int .i64 r7v_2v_1v_Newv_Id), .ow 3 (eInt_c r7v_2v_1v_Newv_Cells)], .v (.s (.bool r7v_2v_2))])] (by cbv) (by cbv) (by cbv) (by cbv) (by cbv) ?_ ?_
      · exact (hq trivial (hq (hC (laws_toStore_ac h_r5)) (hq trivial (hq (hC (laws_toMut_ac h_r6)) (hq (hC (AC.args (spec_MutDo_ac h_r7) (ALe.ag rfl (LLe.cons (LLe.im (RLe.eq (fr_row Int_c_z _))) (LLe.c (LLe.cons (LLe.im (RLe.eq (fr_row RowS_o_z _))) LLe.nil))) (ALe.ag rfl (LLe.c (LLe.c (LLe.c (LLe.cons (LLe.im (RLe.eq (fr_row Int_c_z _))) LLe.nil)))) ALe.nil)))) (hq trivial (hq trivial hq0)))))))
      refine Run.seq ?_
      obtain ⟨⟨⟨r8v_Schemav_Cols⟩, r8v_Version, r8v_Tables⟩, h_r8, h⟩ := bnd h
      refine Run.region hL hT [(1, .call [false] [.ag [.jk, .jk, .jk]] [.ag [.ow 3 (eInt_c r8v_Schemav_Cols), .s (.int .i64 r8v_Version), .ow 54 (eRowS_o r8v_Tables)]])] (by cbv) ?_ ?_
      · exact (hq trivial (hq (hC (laws_toStore_ac h_r8)) (hq trivial hq0)))
      refine Run.seq ?_
      obtain ⟨⟨r9v_Kind, r9v_Table, ⟨r9v_Rowv_Id, r9v_Rowv_Cells⟩⟩, h_r9, h⟩ := bnd h
      refine Run.region hL hT [(1, .call [false] [.ag [.jk, .jk, .jk, .jk]] [.ag [.s (.int .i64 r9v_Kind), .s (.int .i64 r9v_Table), .s (.int .i64 r9v_Rowv_Id), .ow 3 (eInt_c r9v_Rowv_Cells)]])] (by cbv) ?_ ?_
      · exact (hq trivial (hq (hC (laws_toMut_ac h_r9)) (hq trivial hq0)))
      refine Run.seq ?_
      obtain ⟨⟨⟨⟨r10v_1v_Schemav_Cols⟩, r10v_1v_Version, r10v_1v_Tables⟩, ⟨r10v_2v_1v_Table, r10v_2v_1v_Had, r10v_2v_1v_Has, ⟨r10v_2v_1v_Oldv_Id, r10v_2v_1v_Oldv_Cells⟩, ⟨r10v_2v_1v_Newv_Id, r10v_2v_1v_Newv_Cells⟩⟩, r10v_2v_2⟩, h_r10, h⟩ := bnd h
      refine Run.region hL hT [(2, .call [false, false] [.ag [.jk, .jk, .jk], .ag [.jk, .jk, .jk, .jk]] [.ag [.ow 3 (eInt_c r10v_1v_Schemav_Cols), .s (.int .i64 r10v_1v_Version), .ow 54 (eRowS_o r10v_1v_Tables)], .ag [.s (.int .i64 r10v_2v_1v_Table), .s (.bool r10v_2v_1v_Had), .s (.bool r10v_2v_1v_Has), .s (.int .i64 r10v_2v_1v_Oldv_Id), .ow 3 (eInt_c r10v_2v_1v_Oldv_Cells), .s (.int .i64 r10v_2v_1v_Newv_Id), .ow 3 (eInt_c r10v_2v_1v_Newv_Cells)], .v (.s (.bool r10v_2v_2))])] (by cbv) ?_ ?_
      · exact (hq trivial (hq trivial (hq (hC (AC.args (impl_MutDo_ac h_r10) (ALe.ag rfl (LLe.cons (LLe.im (RLe.eq (fr_row Int_c_z _))) (LLe.c (LLe.cons (LLe.im (RLe.eq (fr_row RowS_o_z _))) LLe.nil))) (ALe.ag rfl (LLe.c (LLe.c (LLe.c (LLe.cons (LLe.im (RLe.eq (fr_row Int_c_z _))) LLe.nil)))) ALe.nil)))) (hq trivial (hq trivial hq0)))))
      refine Run.seq ?_
      refine Run.seq ?_
      obtain ⟨r11, h_r11, h⟩ := bnd h
      obtain ⟨r12, h_r12, h⟩ := bnd h
      refine Run.region hL hT [(2, .call [false, false] [.ag [.jk, .jk, .jk], .ag [.jk, .jk, .jk]] [.v (.s (.bool r11))]), (7, .call [false, false] [.ag [.jk, .jk, .jk, .jk, .jk, .jk, .jk], .ag [.jk, .jk, .jk, .jk, .jk, .jk, .jk]] [.v (.s (.bool r12))])] (by cbv) ?_ ?_
      · exact (hq trivial (hq trivial (hq (hC (AC.args (laws_eqStore_ac h_r11) (ALe.ag rfl (LLe.cons (LLe.im (RLe.eq (fr_row Int_c_z _))) (LLe.c (LLe.cons (LLe.im (RLe.eq (fr_row RowS_o_z _))) LLe.nil))) (ALe.ag rfl (LLe.cons (LLe.im (RLe.eq (fr_row Int_c_z _))) (LLe.c (LLe.cons (LLe.im (RLe.eq (fr_row RowS_o_z _))) LLe.nil))) ALe.nil)))) (hq (fun g13 => (hq trivial hq0)) (hq (fun g14 => (hq trivial hq0)) (hq (fun g15 => (hq g15 (hq g15 (hq (hC (AC.args (laws_eqChange_ac (gd_t h_r12 g15)) (ALe.ag rfl (LLe.c (LLe.c (LLe.c (LLe.c (LLe.cons (LLe.im (RLe.eq (fr_row Int_c_z _))) (LLe.c (LLe.cons (LLe.im (RLe.eq (fr_row Int_c_z _))) LLe.nil))))))) (ALe.ag rfl (LLe.c (LLe.c (LLe.c (LLe.c (LLe.cons (LLe.im (RLe.eq (fr_row Int_c_z _))) (LLe.c (LLe.cons (LLe.im (RLe.eq (fr_row Int_c_z _))) LLe.nil))))))) ALe.nil)))) hq0)))) (hq (fun g16 => (hq g16 hq0)) (hq (fun _ => hq0) (hq (fun q18 => (hq (bo_m q18) hq0)) (hq (fun _ => hq0) (hq (fun _ => hq0) (hq (fun g21 => (hq g21 (hq g21 hq0))) (hq (fun _ => hq0) (hq (fun q23 => (hq (bo_m q23) hq0)) hq0))))))))))))))
      refine Run.cond (by cbv) (hq0) (fun c24 => ?_) (fun c24 => ?_)
      · have h := if_t c24 h
        refine Run.seq ?_
        refine Run.region hL hT [] (by cbv) ?_ ?_
        · exact hq0
        refine Run.ret ?_
        cases h
        refine ⟨_, _, by cbv, ?_, ?_⟩
        · exact LLe.r
        · exact (ALe.v LLe.r ALe.nil)
      · have h := if_f c24 h
        refine Run.skip ?_
        refine Run.seq ?_
        refine Run.seq ?_
        obtain ⟨⟨⟨r25v_Schemav_Cols⟩, r25v_Version, r25v_Tables⟩, h_r25, h⟩ := bnd h
        obtain ⟨r26, h_r26, h⟩ := bnd h
        refine Run.draw hL hT hM [(2, .call [false] [.ag [.jk, .jk, .jk]] [.ag [.ow 3 (eInt_c r25v_Schemav_Cols), .s (.int .i64 r25v_Version), .ow 54 (eRowS_o r25v_Tables)]]), (3, .call [false, false] [.ag [.jk, .jk, .jk], .ag [.jk, .jk, .jk]] [.v (.s (.bool r26))])] (by cbv) (by cbv) (by cbv) (by cbv) (by cbv) ?_ ?_
        · exact (hq trivial (hq trivial (hq (hC (laws_toStore_ac h_r25)) (hq (hC (AC.args (laws_eqStore_ac h_r26) (ALe.ag rfl (LLe.cons (LLe.im (RLe.eq (fr_row Int_c_z _))) (LLe.c (LLe.cons (LLe.im (RLe.eq (fr_row RowS_o_z _))) LLe.nil))) (ALe.ag rfl (LLe.cons (LLe.im (RLe.eq (fr_row Int_c_z _))) (LLe.c (LLe.cons (LLe.im (RLe.eq (fr_row RowS_o_z _))) LLe.nil))) ALe.nil)))) hq0))))
        refine Run.cond (by cbv) (hq0) (fun c27 => ?_) (fun c27 => ?_)
        · have h := if_t c27 h
          refine Run.seq ?_
          refine Run.region hL hT [] (by cbv) ?_ ?_
          · exact hq0
          refine Run.ret ?_
          cases h
          refine ⟨_, _, by cbv, ?_, ?_⟩
          · exact LLe.r
          · exact (ALe.v LLe.r ALe.nil)
        · have h := if_f c27 h
          refine Run.skip ?_
          refine Run.seq ?_
          refine Run.seq ?_
          obtain ⟨⟨r28v_Kind, r28v_Table, ⟨r28v_Rowv_Id, r28v_Rowv_Cells⟩⟩, h_r28, h⟩ := bnd h
          obtain ⟨r29, h_r29, h⟩ := bnd h
          refine Run.draw hL hT hM [(2, .call [false] [.ag [.jk, .jk, .jk, .jk]] [.ag [.s (.int .i64 r28v_Kind), .s (.int .i64 r28v_Table), .s (.int .i64 r28v_Rowv_Id), .ow 3 (eInt_c r28v_Rowv_Cells)]]), (3, .call [false, false] [.ag [.jk, .jk, .jk, .jk], .ag [.jk, .jk, .jk, .jk]] [.v (.s (.bool r29))])] (by cbv) (by cbv) (by cbv) (by cbv) (by cbv) ?_ ?_
          · exact (hq trivial (hq trivial (hq (hC (laws_toMut_ac h_r28)) (hq (hC (AC.args (laws_eqMut_ac h_r29) (ALe.ag rfl (LLe.c (LLe.c (LLe.c (LLe.cons (LLe.im (RLe.eq (fr_row Int_c_z _))) LLe.nil)))) (ALe.ag rfl (LLe.c (LLe.c (LLe.c (LLe.cons (LLe.im (RLe.eq (fr_row Int_c_z _))) LLe.nil)))) ALe.nil)))) hq0))))
          refine Run.cond (by cbv) (hq0) (fun c30 => ?_) (fun c30 => ?_)
          · have h := if_t c30 h
            refine Run.seq ?_
            refine Run.region hL hT [] (by cbv) ?_ ?_
            · exact hq0
            refine Run.ret ?_
            cases h
            refine ⟨_, _, by cbv, ?_, ?_⟩
            · exact LLe.r
            · exact (ALe.v LLe.r ALe.nil)
          · have h := if_f c30 h
            refine Run.skip ?_
            refine Run.seq ?_
            refine Run.region hL hT [] (by cbv) ?_ ?_
            · exact hq0
            refine Run.seq ?_
            obtain ⟨⟨⟨⟨r31v_1v_Schemav_Cols⟩, r31v_1v_Version, r31v_1v_Tables⟩, r31v_2⟩, h_r31, h⟩ := bnd h
            refine Run.region hL hT [(2, .call [true, false] [.ag [.ow 3 (eInt_c r31v_1v_Schemav_Cols), .jk, .ow 54 (eRowS_o r31v_1v_Tables)], .v (.jk)] [.v (.s (.int .i64 r31v_2))])] (by cbv) ?_ ?_
            · exact (hq trivial (hq (hC (laws_markStore_ac h_r31)) hq0))
            refine Run.seq ?_
            obtain ⟨⟨⟨r32v_1v_Kind, r32v_1v_Table, ⟨r32v_1v_Rowv_Id, r32v_1v_Rowv_Cells⟩⟩, r32v_2⟩, h_r32, h⟩ := bnd h
            refine Run.region hL hT [(2, .call [true, false] [.ag [.jk, .jk, .jk, .ow 3 (eInt_c r32v_1v_Rowv_Cells)], .v (.jk)] [.v (.s (.int .i64 r32v_2))])] (by cbv) ?_ ?_
            · exact (hq trivial (hq (hC (laws_markMut_ac h_r32)) hq0))
            refine Run.seq ?_
            refine Run.seq ?_
            obtain ⟨r33, h_r33, h⟩ := bnd h
            obtain ⟨r34, h_r34, h⟩ := bnd h
            refine Run.region hL hT [(5, .call [false, false] [.ag [.jk, .jk, .jk], .ag [.jk, .jk, .jk]] [.v (.s (.bool r33))]), (11, .call [false, false] [.ag [.jk, .jk, .jk, .jk, .jk, .jk, .jk], .ag [.jk, .jk, .jk, .jk, .jk, .jk, .jk]] [.v (.s (.bool r34))])] (by cbv) ?_ ?_
            · exact (hq trivial (hq (fun g35 => (hq trivial hq0)) (hq (fun g36 => (hq trivial hq0)) (hq (fun g37 => (hq g37 (hq g37 (hq (hC (AC.args (laws_eqStore_ac (gd_t h_r33 g37)) (ALe.ag rfl (LLe.cons (LLe.im (RLe.eq (fr_row Int_c_z _))) (LLe.c (LLe.cons (LLe.im (RLe.eq (fr_row RowS_o_z _))) LLe.nil))) (ALe.ag rfl (LLe.cons (LLe.im (RLe.eq (fr_row Int_c_z _))) (LLe.c (LLe.cons (LLe.im (RLe.eq (fr_row RowS_o_z _))) LLe.nil))) ALe.nil)))) hq0)))) (hq (fun g38 => (hq g38 hq0)) (hq (fun _ => hq0) (hq (fun q40 => (hq (bo_m q40) hq0)) (hq (fun g41 => (hq trivial hq0)) (hq (fun g42 => (hq trivial hq0)) (hq (fun g43 => (hq g43 (hq g43 (hq (hC (AC.args (laws_eqChange_ac (gd_t h_r34 g43)) (ALe.ag rfl (LLe.c (LLe.c (LLe.c (LLe.c (LLe.cons (LLe.im (RLe.eq (fr_row Int_c_z _))) (LLe.c (LLe.cons (LLe.im (RLe.eq (fr_row Int_c_z _))) LLe.nil))))))) (ALe.ag rfl (LLe.c (LLe.c (LLe.c (LLe.c (LLe.cons (LLe.im (RLe.eq (fr_row Int_c_z _))) (LLe.c (LLe.cons (LLe.im (RLe.eq (fr_row Int_c_z _))) LLe.nil))))))) ALe.nil)))) hq0)))) (hq (fun g44 => (hq g44 hq0)) (hq (fun _ => hq0) (hq (fun q46 => (hq (bo_m q46) hq0)) (hq (fun _ => hq0) (hq (fun _ => hq0) (hq (fun g49 => (hq g49 (hq g49 hq0))) (hq (fun _ => hq0) (hq (fun q51 => (hq (bo_m q51) hq0)) hq0))))))))))))))))))
            refine Run.cond (by cbv) (hq0) (fun c52 => ?_) (fun c52 => ?_)
            · have h := if_t c52 h
              refine Run.seq ?_
              refine Run.region hL hT [] (by cbv) ?_ ?_
              · exact hq0
              refine Run.ret ?_
              cases h
              refine ⟨_, _, by cbv, ?_, ?_⟩
              · exact LLe.r
              · exact (ALe.v LLe.r ALe.nil)
            · have h := if_f c52 h
              refine Run.skip ?_
              refine Run.seq ?_
              refine Run.region hL hT [] (by cbv) ?_ ?_
              · exact hq0
              refine Run.seq ?_
              obtain ⟨⟨⟨⟨r53v_1v_Schemav_Cols⟩, r53v_1v_Version, r53v_1v_Tables⟩, r53v_2⟩, h_r53, h⟩ := bnd h
              refine Run.region hL hT [(2, .call [true, false] [.ag [.ow 3 (eInt_c r53v_1v_Schemav_Cols), .jk, .ow 54 (eRowS_o r53v_1v_Tables)], .v (.jk)] [.v (.s (.int .i64 r53v_2))])] (by cbv) ?_ ?_
              · exact (hq trivial (hq (hC (laws_markStore_ac h_r53)) hq0))
              refine Run.seq ?_
              obtain ⟨⟨⟨r54v_1v_Table, r54v_1v_Had, r54v_1v_Has, ⟨r54v_1v_Oldv_Id, r54v_1v_Oldv_Cells⟩, ⟨r54v_1v_Newv_Id, r54v_1v_Newv_Cells⟩⟩, r54v_2⟩, h_r54, h⟩ := bnd h
              refine Run.region hL hT [(2, .call [true, false] [.ag [.jk, .jk, .jk, .jk, .ow 3 (eInt_c r54v_1v_Oldv_Cells), .jk, .ow 3 (eInt_c r54v_1v_Newv_Cells)], .v (.jk)] [.v (.s (.int .i64 r54v_2))])] (by cbv) ?_ ?_
              · exact (hq trivial (hq (hC (laws_markChange_ac h_r54)) hq0))
              refine Run.seq ?_
              refine Run.region hL hT [] (by cbv) ?_ ?_
              · exact hq0
              refine Run.seq ?_
              obtain ⟨r55, h_r55, h⟩ := bnd h
              refine Run.region hL hT [(2, .call [false, false] [.ag [.jk, .jk, .jk], .v (.jk)] [.v (.s (.int .i64 r55))])] (by cbv) ?_ ?_
              · exact (hq trivial (hq (hC (AC.args (laws_heldStore_ac h_r55) (ALe.ag rfl (LLe.cons (LLe.im (RLe.eq (fr_row Int_c_z _))) (LLe.c (LLe.cons (LLe.im (RLe.eq (fr_row RowS_o_z _))) LLe.nil))) (ALe.v LLe.r ALe.nil)))) hq0))
              refine Run.seq ?_
              refine Run.seq ?_
              refine Run.region hL hT [] (by cbv) ?_ ?_
              · exact (hq trivial hq0)
              refine Run.cond (by cbv) (hq0) (fun c56 => ?_) (fun c56 => ?_)
              · have h := if_t c56 h
                refine Run.seq ?_
                refine Run.region hL hT [] (by cbv) ?_ ?_
                · exact hq0
                refine Run.ret ?_
                cases h
                refine ⟨_, _, by cbv, ?_, ?_⟩
                · exact LLe.r
                · exact (ALe.v LLe.r ALe.nil)
              · have h := if_f c56 h
                refine Run.skip ?_
                refine Run.seq ?_
                obtain ⟨r57, h_r57, h⟩ := bnd h
                refine Run.region hL hT [(2, .call [false, false] [.ag [.jk, .jk, .jk, .jk, .jk, .jk, .jk], .v (.jk)] [.v (.s (.int .i64 r57))])] (by cbv) ?_ ?_
                · exact (hq trivial (hq (hC (AC.args (laws_heldChange_ac h_r57) (ALe.ag rfl (LLe.c (LLe.c (LLe.c (LLe.c (LLe.cons (LLe.im (RLe.eq (fr_row Int_c_z _))) (LLe.c (LLe.cons (LLe.im (RLe.eq (fr_row Int_c_z _))) LLe.nil))))))) (ALe.v LLe.r ALe.nil)))) hq0))
                refine Run.seq ?_
                refine Run.seq ?_
                refine Run.region hL hT [] (by cbv) ?_ ?_
                · exact (hq trivial hq0)
                refine Run.cond (by cbv) (hq0) (fun c58 => ?_) (fun c58 => ?_)
                · have h := if_t c58 h
                  refine Run.seq ?_
                  refine Run.region hL hT [] (by cbv) ?_ ?_
                  · exact hq0
                  refine Run.ret ?_
                  cases h
                  refine ⟨_, _, by cbv, ?_, ?_⟩
                  · exact LLe.r
                  · exact (ALe.v LLe.r ALe.nil)
                · have h := if_f c58 h
                  refine Run.skip ?_
                  refine Run.seq ?_
                  refine Run.seq ?_
                  refine Run.region hL hT [] (by cbv) ?_ ?_
                  · exact (hq trivial hq0)
                  refine Run.cond (by cbv) (hq0) (fun c59 => ?_) (fun c59 => ?_)
                  · have h := if_t c59 h
                    refine Run.seq ?_
                    refine Run.region hL hT [] (by cbv) ?_ ?_
                    · exact hq0
                    refine Run.ret ?_
                    cases h
                    refine ⟨_, _, by cbv, ?_, ?_⟩
                    · exact LLe.r
                    · exact (ALe.v LLe.r ALe.nil)
                  · have h := if_f c59 h
                    refine Run.skip ?_
                    refine Run.seq ?_
                    obtain ⟨⟨⟨r60v_Schemav_Cols⟩, r60v_Version, r60v_Tables⟩, h_r60, h⟩ := bnd h
                    obtain ⟨⟨r61v_Kind, r61v_Table, ⟨r61v_Rowv_Id, r61v_Rowv_Cells⟩⟩, h_r61, h⟩ := bnd h
                    obtain ⟨⟨⟨⟨r62v_1v_Schemav_Cols⟩, r62v_1v_Version, r62v_1v_Tables⟩, ⟨r62v_2v_1v_Table, r62v_2v_1v_Had, r62v_2v_1v_Has, ⟨r62v_2v_1v_Oldv_Id, r62v_2v_1v_Oldv_Cells⟩, ⟨r62v_2v_1v_Newv_Id, r62v_2v_1v_Newv_Cells⟩⟩, r62v_2v_2⟩, h_r62, h⟩ := bnd h
                    refine Run.draw hL hT hM [(1, .call [false] [.ag [.jk, .jk, .jk]] [.ag [.ow 3 (eInt_c r60v_Schemav_Cols), .s (.int .i64 r60v_Version), .ow 54 (eRowS_o r60v_Tables)]]), (3, .call [false] [.ag [.jk, .jk, .jk, .jk]] [.ag [.s (.int .i64 r61v_Kind), .s (.int .i64 r61v_Table), .s (.int .i64 r61v_Rowv_Id), .ow 3 (eInt_c r61v_Rowv_Cells)]]), (4, .call [false, false] [.ag [.jk, .jk, .jk], .ag [.jk, .jk, .jk, .jk]] [.ag [.ow 3 (eInt_c r62v_1v_Schemav_Cols), .s (.int .i64 r62v_1v_Version), .ow 54 (eRowS_o r62v_1v_Tables)], .ag [.s (.int .i64 r62v_2v_1v_Table), .s (.bool r62v_2v_1v_Had), .s (.bool r62v_2v_1v_Has), .s (.int .i64 r62v_2v_1v_Oldv_Id), .ow 3 (eInt_c r62v_2v_1v_Oldv_Cells), .s (.int .i64 r62v_2v_1v_Newv_Id), .ow 3 (eInt_c r62v_2v_1v_Newv_Cells)], .v (.s (.bool r62v_2v_2))])] (by cbv) (by cbv) (by cbv) (by cbv) (by cbv) ?_ ?_
                    · exact (hq trivial (hq (hC (laws_toStore_ac h_r60)) (hq trivial (hq (hC (laws_toMut_ac h_r61)) (hq (hC (AC.args (impl_MutDo_ac h_r62) (ALe.ag rfl (LLe.cons (LLe.im (RLe.eq (fr_row Int_c_z _))) (LLe.c (LLe.cons (LLe.im (RLe.eq (fr_row RowS_o_z _))) LLe.nil))) (ALe.ag rfl (LLe.c (LLe.c (LLe.c (LLe.cons (LLe.im (RLe.eq (fr_row Int_c_z _))) LLe.nil)))) ALe.nil)))) (hq trivial (hq trivial hq0)))))))
                    refine Run.seq ?_
                    refine Run.seq ?_
                    obtain ⟨r63, h_r63, h⟩ := bnd h
                    obtain ⟨r64, h_r64, h⟩ := bnd h
                    refine Run.region hL hT [(2, .call [false, false] [.ag [.jk, .jk, .jk], .ag [.jk, .jk, .jk]] [.v (.s (.bool r63))]), (7, .call [false, false] [.ag [.jk, .jk, .jk, .jk, .jk, .jk, .jk], .ag [.jk, .jk, .jk, .jk, .jk, .jk, .jk]] [.v (.s (.bool r64))])] (by cbv) ?_ ?_
                    · exact (hq trivial (hq trivial (hq (hC (AC.args (laws_eqStore_ac h_r63) (ALe.ag rfl (LLe.cons (LLe.im (RLe.eq (fr_row Int_c_z _))) (LLe.c (LLe.cons (LLe.im (RLe.eq (fr_row RowS_o_z _))) LLe.nil))) (ALe.ag rfl (LLe.cons (LLe.im (RLe.eq (fr_row Int_c_z _))) (LLe.c (LLe.cons (LLe.im (RLe.eq (fr_row RowS_o_z _))) LLe.nil))) ALe.nil)))) (hq (fun g65 => (hq trivial hq0)) (hq (fun g66 => (hq trivial hq0)) (hq (fun g67 => (hq g67 (hq g67 (hq (hC (AC.args (laws_eqChange_ac (gd_t h_r64 g67)) (ALe.ag rfl (LLe.c (LLe.c (LLe.c (LLe.c (LLe.cons (LLe.im (RLe.eq (fr_row Int_c_z _))) (LLe.c (LLe.cons (LLe.im (RLe.eq (fr_row Int_c_z _))) LLe.nil))))))) (ALe.ag rfl (LLe.c (LLe.c (LLe.c (LLe.c (LLe.cons (LLe.im (RLe.eq (fr_row Int_c_z _))) (LLe.c (LLe.cons (LLe.im (RLe.eq (fr_row Int_c_z _))) LLe.nil))))))) ALe.nil)))) hq0)))) (hq (fun g68 => (hq g68 hq0)) (hq (fun _ => hq0) (hq (fun q70 => (hq (bo_m q70) hq0)) (hq (fun _ => hq0) (hq (fun _ => hq0) (hq (fun g73 => (hq g73 (hq g73 hq0))) (hq (fun _ => hq0) (hq (fun q75 => (hq (bo_m q75) hq0)) hq0))))))))))))))
                    refine Run.cond (by cbv) (hq0) (fun c76 => ?_) (fun c76 => ?_)
                    · have h := if_t c76 h
                      refine Run.seq ?_
                      refine Run.region hL hT [] (by cbv) ?_ ?_
                      · exact hq0
                      refine Run.ret ?_
                      cases h
                      refine ⟨_, _, by cbv, ?_, ?_⟩
                      · exact LLe.r
                      · exact (ALe.v LLe.r ALe.nil)
                    · have h := if_f c76 h
                      refine Run.skip ?_
                      refine Run.seq ?_
                      refine Run.region hL hT [] (by cbv) ?_ ?_
                      · exact hq0
                      refine Run.seq ?_
                      obtain ⟨r77, h_r77, h⟩ := bnd h
                      refine Run.region hL hT [(2, .call [false, false] [.ag [.jk, .jk, .jk], .v (.jk)] [.v (.s (.int .i64 r77))])] (by cbv) ?_ ?_
                      · exact (hq trivial (hq (hC (AC.args (laws_heldStore_ac h_r77) (ALe.ag rfl (LLe.cons (LLe.im (RLe.eq (fr_row Int_c_z _))) (LLe.c (LLe.cons (LLe.im (RLe.eq (fr_row RowS_o_z _))) LLe.nil))) (ALe.v LLe.r ALe.nil)))) hq0))
                      refine Run.seq ?_
                      refine Run.seq ?_
                      refine Run.region hL hT [] (by cbv) ?_ ?_
                      · exact (hq trivial hq0)
                      refine Run.cond (by cbv) (hq0) (fun c78 => ?_) (fun c78 => ?_)
                      · have h := if_t c78 h
                        refine Run.seq ?_
                        refine Run.region hL hT [] (by cbv) ?_ ?_
                        · exact hq0
                        refine Run.ret ?_
                        cases h
                        refine ⟨_, _, by cbv, ?_, ?_⟩
                        · exact LLe.r
                        · exact (ALe.v LLe.r ALe.nil)
                      · have h := if_f c78 h
                        refine Run.skip ?_
                        refine Run.seq ?_
                        obtain ⟨r79, h_r79, h⟩ := bnd h
                        refine Run.region hL hT [(2, .call [false, false] [.ag [.jk, .jk, .jk, .jk, .jk, .jk, .jk], .v (.jk)] [.v (.s (.int .i64 r79))])] (by cbv) ?_ ?_
                        · exact (hq trivial (hq (hC (AC.args (laws_heldChange_ac h_r79) (ALe.ag rfl (LLe.c (LLe.c (LLe.c (LLe.c (LLe.cons (LLe.im (RLe.eq (fr_row Int_c_z _))) (LLe.c (LLe.cons (LLe.im (RLe.eq (fr_row Int_c_z _))) LLe.nil))))))) (ALe.v LLe.r ALe.nil)))) hq0))
                        refine Run.seq ?_
                        refine Run.seq ?_
                        refine Run.region hL hT [] (by cbv) ?_ ?_
                        · exact (hq trivial hq0)
                        refine Run.cond (by cbv) (hq0) (fun c80 => ?_) (fun c80 => ?_)
                        · have h := if_t c80 h
                          refine Run.seq ?_
                          refine Run.region hL hT [] (by cbv) ?_ ?_
                          · exact hq0
                          refine Run.ret ?_
                          cases h
                          refine ⟨_, _, by cbv, ?_, ?_⟩
                          · exact LLe.r
                          · exact (ALe.v LLe.r ALe.nil)
                        · have h := if_f c80 h
                          refine Run.skip ?_
                          refine Run.seq ?_
                          refine Run.seq ?_
                          refine Run.region hL hT [] (by cbv) ?_ ?_
                          · exact (hq trivial hq0)
                          refine Run.cond (by cbv) (hq0) (fun c81 => ?_) (fun c81 => ?_)
                          · have h := if_t c81 h
                            refine Run.seq ?_
                            refine Run.region hL hT [] (by cbv) ?_ ?_
                            · exact hq0
                            refine Run.ret ?_
                            cases h
                            refine ⟨_, _, by cbv, ?_, ?_⟩
                            · exact LLe.r
                            · exact (ALe.v LLe.r ALe.nil)
                          · have h := if_f c81 h
                            refine Run.skip ?_
                            refine Run.seq ?_
                            refine Run.region hL hT [] (by cbv) ?_ ?_
                            · exact hq0
                            refine Run.ret ?_
                            cases h
                            refine ⟨_, _, by cbv, ?_, ?_⟩
                            · exact LLe.r
                            · exact (ALe.v LLe.r ALe.nil)


end Go.Proofs.Ytibmfkomdhnhbaa.L
