/- The contracts of the program's functions. -/
import Derived.Test.YtbjbfcfekmdfmaaProg
import Derived.Test.YtbjbfcfekmdfmaaFnRecordPutC0
import Derived.KernelRfl
namespace Go.Proofs.Ytbjbfcfekmdfmaa.L
open Go Go.Proofs
set_option linter.unusedVariables false
set_option linter.unusedSimpArgs false
set_option maxRecDepth 8000 in
theorem spec_RecordOk_ac {a0v_Firstv_Schemav_Cols : List Int} {a0v_Firstv_Version : Int} {a0v_Firstv_Tables : List (List Row)} {a0v_Steps : List (List Change)} {r : Bool} (h : spec_RecordOk.f (Record.mk (Store.mk (Schema.mk a0v_Firstv_Schemav_Cols) a0v_Firstv_Version a0v_Firstv_Tables) a0v_Steps) = some r) : AC Try.prog 27 [.ag [.im false (rowsOf Int_c a0v_Firstv_Schemav_Cols), .s (.int .i64 a0v_Firstv_Version), .im false (rowsOf RowS_i a0v_Firstv_Tables), .im false (rowsOf ChangeS_i a0v_Steps)]] [.ag [.jk, .jk, .jk, .jk]] [.v (.s (.bool r))] := by
  unfold spec_RecordOk.f at h
  let ar := Ls.ar; let cm := Ls.cm; let bo := Ls.bo; let sc := Ls.sc; let sa := Ls.sa; let sx := Ls.sx; let ss := Ls.ss; let sl := Ls.sl; let bs := Ls.bs; let sb := Ls.sb; let ln := Ls.ln; let sr := Ls.sr; let ap := Ls.ap; let up := Ls.up; let rp := Ls.rp; let fr := Ls.fr; let ge := Ls.ge; let le := Ls.le; let lt := Ls.lt; let nz := Ls.nz; let mm := Ls.mm; let ma := Ls.ma; let sm := Ls.sm; let fl := Ls.fl; let al := Ls.al; let ci := Ls.ci
  let eChangeS_i := rowsOf ChangeS_i
  let eChange_i := rowsOf Change_i
  let eInt_c := rowsOf Int_c
  let eRowS_i := rowsOf RowS_i
  let eRowS_o := rowsOf RowS_o
  let lenI_ChangeS := @lenI (List Change)
  have hL : (⟨ar, cm, bo, sc, sa, sx, ss, sl, bs, sb, ln, sr, ap, up, rp, fr, ge, le, lt, nz, mm, ma, sm, fl, al, ci⟩ : Lf) = Ls := rfl
  show AC Try.prog 27 [.ag [.im false (eInt_c a0v_Firstv_Schemav_Cols), .s (.int .i64 a0v_Firstv_Version), .im false (eRowS_i a0v_Firstv_Tables), .im false (eChangeS_i a0v_Steps)]] _ _
  refine AC.of_run2 tab_ok Try.func27 (by rfl) (by rfl) (by cbv) ⟨by decide, rfl⟩ fun F hP hA => ?_
  have hT : TabOk F.P tab := hP ▸ tab_ok
  have hM : F.P.follows .mixedOrders = true := hP ▸ mixed
  have hC : ∀ {f a o r}, AC Try.prog f a o r → AC F.P f a o r := fun h => hP ▸ h
  refine Run.seq ?_
  refine Run.region hL hT [] (by cbv) ?_ ?_
  · exact hq0
  refine Run.seq ?_
  refine Run.region hL hT [] (by cbv) ?_ ?_
  · exact (hq trivial (hq trivial hq0))
  obtain ⟨K4, h_K4, h⟩ := joinE h
  refine Run.join3 K4 (r := r) (fun (y1 : List Int) (y2 : Int) (y3 : List (List Row)) => ⟨37, 100000, [(1, .pt 1 0 0), (3, .pt 2 0 0)], [(1, .box 49 [.t (.im false (eInt_c a0v_Firstv_Schemav_Cols)), .t (.s (.int .i64 a0v_Firstv_Version)), .t (.im false (eRowS_i a0v_Firstv_Tables)), .t (.im false (eChangeS_i a0v_Steps))]), (2, .box 29 [.t (.im false (eInt_c y1)), .t (.s (.int .i64 y2)), .t (.im false (eRowS_i y3))])]⟩) ?_ ?_
  · skip
    refine Run.seq ?_
    refine Run.region hL hT [] (by cbv) ?_ ?_
    · exact hq0
    refine Run.block ?_
    refine Run.loop4 (fun (z13 : List Int) (z14 : Int) (z15 : List (List Row)) (z16 : Int) => ⟨37, 100000, [(1, .pt 1 0 0), (3, .pt 2 0 0), (4, .t (.s (.int .i64 z16)))], [(1, .box 49 [.t (.im false (eInt_c a0v_Firstv_Schemav_Cols)), .t (.s (.int .i64 a0v_Firstv_Version)), .t (.im false (eRowS_i a0v_Firstv_Tables)), .t (.im false (eChangeS_i a0v_Steps))]), (2, .box 29 [.t (.im false (eInt_c z13)), .t (.s (.int .i64 z14)), .t (.im false (eRowS_i z15))])]⟩) (x0 := a0v_Firstv_Schemav_Cols) (x1 := a0v_Firstv_Version) (x2 := a0v_Firstv_Tables) (x3 := 0) h (Weak.of _ [(1, 0), (2, 4098)] hA (by cbv) ?_) (fun _ _ _ _ => rfl) ?_
    · repeat (first | exact hq0 | refine hq (by first | exact True.intro | rfl) ?_)
    · intro k z13 z14 z15 z16 h
      rw [spec_RecordOk.l0] at h
      refine Run.seq ?_
      refine Run.seq ?_
      refine Run.region hL hT [] (by cbv) ?_ ?_
      · exact (hq trivial (hq trivial hq0))
      rw [show ln (eChangeS_i a0v_Steps) = lenI_ChangeS a0v_Steps from ln_eq ChangeS_i _]
      refine Run.cond (by cbv) (hq0) (fun c17 => ?_) (fun c17 => ?_)
      · have h := if_t c17 h
        refine Run.skip ?_
        refine Run.seq ?_
        refine Run.block ?_
        refine Run.seq ?_
        obtain ⟨x18, h_x18, h⟩ := bnd h
        obtain ⟨⟨⟨⟨r19v_1v_Schemav_Cols⟩, r19v_1v_Version, r19v_1v_Tables⟩, r19v_2⟩, h_r19, h⟩ := bnd h
        refine Run.draw hL hT hM [(4, .el [.im false (eChange_i x18)]), (6, .call [false, false] [.ag [.jk, .jk, .jk], .v (.jk)] [.ag [.ow 3 (eInt_c r19v_1v_Schemav_Cols), .s (.int .i64 r19v_1v_Version), .ow 72 (eRowS_o r19v_1v_Tables)], .v (.s (.bool r19v_2))])] (by cbv) (by cbv) (by cbv) (by cbv) (by cbv) ?_ ?_
        · exact (hq trivial (hq trivial (hq (get_le h_x18) (hq (get_lt (f := ChangeS_i) h_x18) (hq (get_ge (f := ChangeS_i) h_x18) (hq (hC (spec_Forward_ac h_r19)) (hq trivial hq0)))))))
        refine Run.seq ?_
        refine Run.seq ?_
        refine Run.region hL hT [] (by cbv) ?_ ?_
        · exact hq0
        refine Run.cond (by cbv) (hq0) (fun c20 => ?_) (fun c20 => ?_)
        · have h := if_t c20 h
          refine Run.seq ?_
          refine Run.region hL hT [] (by cbv) ?_ ?_
          · exact hq0
          refine Run.ret ?_
          cases h
          refine ⟨_, _, by cbv, ?_, ?_⟩
          · exact LLe.r
          · exact (ALe.v LLe.r ALe.nil)
        · have h := if_f c20 h
          refine Run.skip ?_
          refine Run.region hL hT [] (by cbv) ?_ ?_
          · exact (hq trivial (hq trivial hq0))
          refine Run.region hL hT [] (by cbv) ?_ ?_
          · exact (hq trivial hq0)
          refine ⟨r19v_1v_Schemav_Cols, r19v_1v_Version, r19v_1v_Tables, (ar .add .i64 z16 1), h, (Weak.frz (rows := eInt_c r19v_1v_Schemav_Cols) 104102 (by cbv) (eInt_c r19v_1v_Schemav_Cols) (fr_row Int_c_z _)).trans ((Weak.frz (rows := eRowS_o r19v_1v_Tables) 104358 (by cbv) (eRowS_i r19v_1v_Tables) (fr_row RowS_o_z _)).trans (Weak.of _ [(1, 1), (2, 2)] hA (by cbv) ?_))⟩
          repeat (first | exact hq0 | refine hq (by first | exact True.intro | rfl) ?_)
      · have h := if_f c17 h
        refine Run.exit ?_
        refine ⟨z13, z14, z15, h, Weak.of _ [(1, 1), (2, 2)] hA (by cbv) ?_⟩
        repeat (first | exact hq0 | refine hq (by first | exact True.intro | rfl) ?_)
  · intro y1 y2 y3 h
    rw [h_K4] at h
    refine Run.seq ?_
    obtain ⟨r21, h_r21, h⟩ := bnd h
    refine Run.region hL hT [(1, .call [false] [.ag [.jk, .jk, .jk]] [.v (.s (.bool r21))])] (by cbv) ?_ ?_
    · exact (hq trivial (hq (hC (spec_StoreOk_ac h_r21)) (hq (fun _ => hq0) (hq (fun g23 => (hq g23 (hq trivial hq0))) (hq (fun g24 => (hq g24 hq0)) (hq (fun g25 => (hq g25 (hq trivial hq0))) (hq (fun q26 => (hq q26 hq0)) (hq (fun _ => hq0) hq0))))))))
    rw [show ln (eChangeS_i a0v_Steps) = lenI_ChangeS a0v_Steps from ln_eq ChangeS_i _]
    refine Run.ret ?_
    cases h
    refine ⟨_, _, by cbv, ?_, ?_⟩
    · exact LLe.r
    · exact (ALe.v LLe.r ALe.nil)

set_option maxRecDepth 8000 in
theorem spec_l8At_ac {a0v_Firstv_Schemav_Cols : List Int} {a0v_Firstv_Version : Int} {a0v_Firstv_Tables : List (List Row)} {a0v_Steps : List (List Change)} {a1 : Int} {r : Store} (h : spec_l8At.f (Record.mk (Store.mk (Schema.mk a0v_Firstv_Schemav_Cols) a0v_Firstv_Version a0v_Firstv_Tables) a0v_Steps) a1 = some r) : AC Try.prog 57 [.ag [.im false (rowsOf Int_c a0v_Firstv_Schemav_Cols), .s (.int .i64 a0v_Firstv_Version), .im false (rowsOf RowS_i a0v_Firstv_Tables), .im false (rowsOf ChangeS_i a0v_Steps)], .v (.s (.int .i64 a1))] [.ag [.jk, .jk, .jk, .jk], .v (.jk)] [.ag [.ow 3 (rowsOf Int_c r.Schema.Cols), .s (.int .i64 r.Version), .ow 72 (rowsOf RowS_o r.Tables)]] := by
  unfold spec_l8At.f at h
  let ar := Ls.ar; let cm := Ls.cm; let bo := Ls.bo; let sc := Ls.sc; let sa := Ls.sa; let sx := Ls.sx; let ss := Ls.ss; let sl := Ls.sl; let bs := Ls.bs; let sb := Ls.sb; let ln := Ls.ln; let sr := Ls.sr; let ap := Ls.ap; let up := Ls.up; let rp := Ls.rp; let fr := Ls.fr; let ge := Ls.ge; let le := Ls.le; let lt := Ls.lt; let nz := Ls.nz; let mm := Ls.mm; let ma := Ls.ma; let sm := Ls.sm; let fl := Ls.fl; let al := Ls.al; let ci := Ls.ci
  let eChangeS_i := rowsOf ChangeS_i
  let eChange_i := rowsOf Change_i
  let eInt_c := rowsOf Int_c
  let eRowS_i := rowsOf RowS_i
  let eRowS_o := rowsOf RowS_o
  have hL : (⟨ar, cm, bo, sc, sa, sx, ss, sl, bs, sb, ln, sr, ap, up, rp, fr, ge, le, lt, nz, mm, ma, sm, fl, al, ci⟩ : Lf) = Ls := rfl
  show AC Try.prog 57 [.ag [.im false (eInt_c a0v_Firstv_Schemav_Cols), .s (.int .i64 a0v_Firstv_Version), .im false (eRowS_i a0v_Firstv_Tables), .im false (eChangeS_i a0v_Steps)], .v (.s (.int .i64 a1))] _ _
  refine AC.of_run2 tab_ok Try.func57 (by rfl) (by rfl) (by cbv) ⟨by decide, rfl⟩ fun F hP hA => ?_
  have hT : TabOk F.P tab := hP ▸ tab_ok
  have hM : F.P.follows .mixedOrders = true := hP ▸ mixed
  have hC : ∀ {f a o r}, AC Try.prog f a o r → AC F.P f a o r := fun h => hP ▸ h
  refine Run.seq ?_
  refine Run.region hL hT [] (by cbv) ?_ ?_
  · exact hq0
  refine Run.seq ?_
  obtain ⟨⟨⟨r1v_Schemav_Cols⟩, r1v_Version, r1v_Tables⟩, h_r1, h⟩ := bnd h
  refine Run.region hL hT [(2, .call [false] [.ag [.jk, .jk, .jk]] [.ag [.ow 3 (eInt_c r1v_Schemav_Cols), .s (.int .i64 r1v_Version), .ow 72 (eRowS_o r1v_Tables)]])] (by cbv) ?_ ?_
  · exact (hq trivial (hq (hC (spec_l7Copy_ac h_r1)) (hq trivial hq0)))
  refine Run.seq ?_
  refine Run.seq ?_
  refine Run.region hL hT [] (by cbv) ?_ ?_
  · exact hq0
  refine Run.block ?_
  refine Run.loop4 (fun (z12 : List Int) (z13 : Int) (z14 : List (List Row)) (z15 : Int) => ⟨27, 100000, [(1, .t (.s (.int .i64 a1))), (2, .pt 1 0 0), (4, .pt 2 0 0), (5, .pt 3 0 0), (6, .t (.s (.int .i64 z15)))], [(1, .box 49 [.t (.im false (eInt_c a0v_Firstv_Schemav_Cols)), .t (.s (.int .i64 a0v_Firstv_Version)), .t (.im false (eRowS_i a0v_Firstv_Tables)), .t (.im false (eChangeS_i a0v_Steps))]), (2, .box 29 [.t (.s (.slice none 0 0)), .t (.s (.int .i64 0)), .t (.s (.slice none 0 0))]), (3, .box 29 [.rf 4, .t (.s (.int .i64 z13)), .rf 5]), (4, .row 0 3 1 (eInt_c z12)), (5, .row 0 72 1 (eRowS_o z14))]⟩) (x0 := r1v_Schemav_Cols) (x1 := r1v_Version) (x2 := r1v_Tables) (x3 := 0) h (Weak.of _ [(1, 0), (2, 1), (3, 4099), (4, 4098), (5, 4354)] hA (by cbv) ?_) (fun _ _ _ _ => rfl) ?_
  · repeat (first | exact hq0 | refine hq (by first | exact True.intro | rfl) ?_)
  · intro k z12 z13 z14 z15 h
    rw [spec_l8At.l0] at h
    refine Run.seq ?_
    refine Run.seq ?_
    refine Run.region hL hT [] (by cbv) ?_ ?_
    · exact (hq trivial (hq trivial hq0))
    refine Run.cond (by cbv) (hq0) (fun c16 => ?_) (fun c16 => ?_)
    · have h := if_t c16 h
      refine Run.skip ?_
      refine Run.seq ?_
      refine Run.block ?_
      obtain ⟨x17, h_x17, h⟩ := bnd h
      obtain ⟨⟨⟨⟨r18v_1v_Schemav_Cols⟩, r18v_1v_Version, r18v_1v_Tables⟩, r18v_2⟩, h_r18, h⟩ := bnd h
      refine Run.draw hL hT hM [(4, .el [.im false (eChange_i x17)]), (6, .call [false, false] [.ag [.jk, .jk, .jk], .v (.jk)] [.ag [.ow 3 (eInt_c r18v_1v_Schemav_Cols), .s (.int .i64 r18v_1v_Version), .ow 72 (eRowS_o r18v_1v_Tables)], .v (.s (.bool r18v_2))])] (by cbv) (by cbv) (by cbv) (by cbv) (by cbv) ?_ ?_
      · exact (hq trivial (hq trivial (hq (get_le h_x17) (hq (get_lt (f := ChangeS_i) h_x17) (hq (get_ge (f := ChangeS_i) h_x17) (hq (hC (AC.args (spec_Forward_ac h_r18) (ALe.ag rfl (LLe.cons (LLe.im (RLe.eq (fr_row Int_c_z _))) (LLe.c (LLe.cons (LLe.im (RLe.eq (fr_row RowS_o_z _))) LLe.nil))) (ALe.v LLe.r ALe.nil)))) (hq trivial hq0)))))))
      refine Run.region hL hT [] (by cbv) ?_ ?_
      · exact (hq trivial hq0)
      refine ⟨r18v_1v_Schemav_Cols, r18v_1v_Version, r18v_1v_Tables, (ar .add .i64 z15 1), h, Weak.of _ [(1, 1), (2, 2), (3, 3), (4, 104102), (5, 104358)] hA (by cbv) ?_⟩
      repeat (first | exact hq0 | refine hq (by first | exact True.intro | rfl) ?_)
    · have h := if_f c16 h
      refine Run.exit ?_
      refine Run.seq ?_
      refine Run.region hL hT [] (by cbv) ?_ ?_
      · exact (hq trivial (hq trivial hq0))
      refine Run.ret ?_
      cases h
      refine ⟨_, _, by cbv, ?_, ?_⟩
      · exact LLe.r
      · exact (ALe.ag rfl LLe.r ALe.nil)

set_option maxRecDepth 8000 in
theorem spec_At_ac {a0v_Firstv_Schemav_Cols : List Int} {a0v_Firstv_Version : Int} {a0v_Firstv_Tables : List (List Row)} {a0v_Steps : List (List Change)} {a1 : Int} {r : Store × Bool} (h : spec_At.f (Record.mk (Store.mk (Schema.mk a0v_Firstv_Schemav_Cols) a0v_Firstv_Version a0v_Firstv_Tables) a0v_Steps) a1 = some r) : AC Try.prog 22 [.ag [.im false (rowsOf Int_c a0v_Firstv_Schemav_Cols), .s (.int .i64 a0v_Firstv_Version), .im false (rowsOf RowS_i a0v_Firstv_Tables), .im false (rowsOf ChangeS_i a0v_Steps)], .v (.s (.int .i64 a1))] [.ag [.jk, .jk, .jk, .jk], .v (.jk)] [.ag [.ow 3 (rowsOf Int_c r.1.Schema.Cols), .s (.int .i64 r.1.Version), .ow 72 (rowsOf RowS_o r.1.Tables)], .v (.s (.bool r.2))] := by
  unfold spec_At.f at h
  let ar := Ls.ar; let cm := Ls.cm; let bo := Ls.bo; let sc := Ls.sc; let sa := Ls.sa; let sx := Ls.sx; let ss := Ls.ss; let sl := Ls.sl; let bs := Ls.bs; let sb := Ls.sb; let ln := Ls.ln; let sr := Ls.sr; let ap := Ls.ap; let up := Ls.up; let rp := Ls.rp; let fr := Ls.fr; let ge := Ls.ge; let le := Ls.le; let lt := Ls.lt; let nz := Ls.nz; let mm := Ls.mm; let ma := Ls.ma; let sm := Ls.sm; let fl := Ls.fl; let al := Ls.al; let ci := Ls.ci
  let eChangeS_i := rowsOf ChangeS_i
  let eInt_c := rowsOf Int_c
  let eRowS_i := rowsOf RowS_i
  let eRowS_o := rowsOf RowS_o
  let lenI_ChangeS := @lenI (List Change)
  have hL : (⟨ar, cm, bo, sc, sa, sx, ss, sl, bs, sb, ln, sr, ap, up, rp, fr, ge, le, lt, nz, mm, ma, sm, fl, al, ci⟩ : Lf) = Ls := rfl
  show AC Try.prog 22 [.ag [.im false (eInt_c a0v_Firstv_Schemav_Cols), .s (.int .i64 a0v_Firstv_Version), .im false (eRowS_i a0v_Firstv_Tables), .im false (eChangeS_i a0v_Steps)], .v (.s (.int .i64 a1))] _ _
  refine AC.of_run2 tab_ok Try.func22 (by rfl) (by rfl) (by cbv) ⟨by decide, rfl⟩ fun F hP hA => ?_
  have hT : TabOk F.P tab := hP ▸ tab_ok
  have hM : F.P.follows .mixedOrders = true := hP ▸ mixed
  have hC : ∀ {f a o r}, AC Try.prog f a o r → AC F.P f a o r := fun h => hP ▸ h
  refine Run.seq ?_
  refine Run.region hL hT [] (by cbv) ?_ ?_
  · exact hq0
  refine Run.seq ?_
  refine Run.seq ?_
  obtain ⟨r1, h_r1, h⟩ := bnd h
  obtain ⟨r2, h_r2, h⟩ := bnd h
  refine Run.region hL hT [(1, .call [false] [.ag [.jk, .jk, .jk, .jk]] [.v (.s (.bool r1))]), (15, .call [false, false, false] [.v (.jk), .v (.jk), .v (.jk)] [.v (.s (.bool r2))])] (by cbv) ?_ ?_
  · exact (hq trivial (hq (hC (spec_RecordOk_ac h_r1)) (hq (fun _ => hq0) (hq (fun _ => hq0) (hq (fun g5 => (hq g5 hq0)) (hq (fun g6 => (hq g6 (hq trivial hq0))) (hq (fun _ => hq0) (hq (fun g8 => (hq g8 hq0)) (hq (fun g9 => (hq g9 (hq trivial hq0))) (hq (fun _ => hq0) (hq (fun g11 => (hq g11 (hq trivial hq0))) (hq (fun g12 => (hq g12 hq0)) (hq (fun g13 => (hq g13 (hq g13 (hq trivial hq0)))) (hq (fun g14 => (hq g14 (hq g14 (hq g14 (hq (by rw [show ln (eChangeS_i a0v_Steps) = lenI_ChangeS a0v_Steps from ln_eq ChangeS_i _]; exact (hC (spec_l1In_ac (gd_t h_r2 g14)))) hq0))))) (hq (fun g15 => (hq g15 hq0)) (hq (fun _ => hq0) (hq (fun q17 => (hq (bo_m q17) hq0)) hq0)))))))))))))))))
  rw [show ln (eChangeS_i a0v_Steps) = lenI_ChangeS a0v_Steps from ln_eq ChangeS_i _]
  refine Run.cond (by cbv) (hq0) (fun c18 => ?_) (fun c18 => ?_)
  · have h := if_t c18 h
    refine Run.seq ?_
    refine Run.region hL hT [] (by cbv) ?_ ?_
    · exact (hq trivial hq0)
    refine Run.ret ?_
    cases h
    refine ⟨_, _, by cbv, ?_, ?_⟩
    · exact LLe.r
    · exact (ALe.ag rfl (LLe.cons LLe.nilO (LLe.c (LLe.cons LLe.nilO LLe.nil))) (ALe.v LLe.r ALe.nil))
  · have h := if_f c18 h
    refine Run.skip ?_
    refine Run.seq ?_
    obtain ⟨⟨⟨r19v_Schemav_Cols⟩, r19v_Version, r19v_Tables⟩, h_r19, h⟩ := bnd h
    refine Run.region hL hT [(2, .call [false, false] [.ag [.jk, .jk, .jk, .jk], .v (.jk)] [.ag [.ow 3 (eInt_c r19v_Schemav_Cols), .s (.int .i64 r19v_Version), .ow 72 (eRowS_o r19v_Tables)]])] (by cbv) ?_ ?_
    · exact (hq trivial (hq (hC (spec_l8At_ac h_r19)) (hq trivial hq0)))
    refine Run.ret ?_
    cases h
    refine ⟨_, _, by cbv, ?_, ?_⟩
    · exact LLe.r
    · exact (ALe.ag rfl LLe.r (ALe.v LLe.r ALe.nil))

set_option maxRecDepth 8000 in
theorem spec_Last_ac {a0v_Firstv_Schemav_Cols : List Int} {a0v_Firstv_Version : Int} {a0v_Firstv_Tables : List (List Row)} {a0v_Steps : List (List Change)} {r : Int} (h : spec_Last.f (Record.mk (Store.mk (Schema.mk a0v_Firstv_Schemav_Cols) a0v_Firstv_Version a0v_Firstv_Tables) a0v_Steps) = some r) : AC Try.prog 25 [.ag [.im false (rowsOf Int_c a0v_Firstv_Schemav_Cols), .s (.int .i64 a0v_Firstv_Version), .im false (rowsOf RowS_i a0v_Firstv_Tables), .im false (rowsOf ChangeS_i a0v_Steps)]] [.ag [.jk, .jk, .jk, .jk]] [.v (.s (.int .i64 r))] := by
  unfold spec_Last.f at h
  let ar := Ls.ar; let cm := Ls.cm; let bo := Ls.bo; let sc := Ls.sc; let sa := Ls.sa; let sx := Ls.sx; let ss := Ls.ss; let sl := Ls.sl; let bs := Ls.bs; let sb := Ls.sb; let ln := Ls.ln; let sr := Ls.sr; let ap := Ls.ap; let up := Ls.up; let rp := Ls.rp; let fr := Ls.fr; let ge := Ls.ge; let le := Ls.le; let lt := Ls.lt; let nz := Ls.nz; let mm := Ls.mm; let ma := Ls.ma; let sm := Ls.sm; let fl := Ls.fl; let al := Ls.al; let ci := Ls.ci
  let eChangeS_i := rowsOf ChangeS_i
  let eInt_c := rowsOf Int_c
  let eRowS_i := rowsOf RowS_i
  let lenI_ChangeS := @lenI (List Change)
  have hL : (⟨ar, cm, bo, sc, sa, sx, ss, sl, bs, sb, ln, sr, ap, up, rp, fr, ge, le, lt, nz, mm, ma, sm, fl, al, ci⟩ : Lf) = Ls := rfl
  show AC Try.prog 25 [.ag [.im false (eInt_c a0v_Firstv_Schemav_Cols), .s (.int .i64 a0v_Firstv_Version), .im false (eRowS_i a0v_Firstv_Tables), .im false (eChangeS_i a0v_Steps)]] _ _
  refine AC.of_run2 tab_ok Try.func25 (by rfl) (by rfl) (by cbv) ⟨by decide, rfl⟩ fun F hP hA => ?_
  have hT : TabOk F.P tab := hP ▸ tab_ok
  have hM : F.P.follows .mixedOrders = true := hP ▸ mixed
  have hC : ∀ {f a o r}, AC Try.prog f a o r → AC F.P f a o r := fun h => hP ▸ h
  refine Run.seq ?_
  refine Run.region hL hT [] (by cbv) ?_ ?_
  · exact hq0
  refine Run.seq ?_
  refine Run.seq ?_
  obtain ⟨r1, h_r1, h⟩ := bnd h
  refine Run.region hL hT [(1, .call [false] [.ag [.jk, .jk, .jk, .jk]] [.v (.s (.bool r1))])] (by cbv) ?_ ?_
  · exact (hq trivial (hq (hC (spec_RecordOk_ac h_r1)) hq0))
  refine Run.cond (by cbv) (hq0) (fun c2 => ?_) (fun c2 => ?_)
  · have h := if_t c2 h
    refine Run.seq ?_
    refine Run.region hL hT [] (by cbv) ?_ ?_
    · exact hq0
    refine Run.ret ?_
    cases h
    refine ⟨_, _, by cbv, ?_, ?_⟩
    · exact LLe.r
    · exact (ALe.v LLe.r ALe.nil)
  · have h := if_f c2 h
    refine Run.skip ?_
    refine Run.seq ?_
    refine Run.region hL hT [] (by cbv) ?_ ?_
    · exact (hq trivial (hq trivial (hq trivial hq0)))
    rw [show ln (eChangeS_i a0v_Steps) = lenI_ChangeS a0v_Steps from ln_eq ChangeS_i _]
    refine Run.ret ?_
    cases h
    refine ⟨_, _, by cbv, ?_, ?_⟩
    · exact LLe.r
    · exact (ALe.v LLe.r ALe.nil)

set_option maxRecDepth 8000 in
theorem spec_l1New_ac {a0 : List Int} {r : l1Cur} (h : spec_l1New.f a0 = some r) : AC Try.prog 34 [.v (.im true (rowsOf u8_c a0))] [.v (.jk)] [.v (.bx 88 [.im true (rowsOf u8_c r.b), .s (.int .i64 r.i), .s (.int .i64 r.h)])] := by
  unfold spec_l1New.f at h
  let ar := Ls.ar; let cm := Ls.cm; let bo := Ls.bo; let sc := Ls.sc; let sa := Ls.sa; let sx := Ls.sx; let ss := Ls.ss; let sl := Ls.sl; let bs := Ls.bs; let sb := Ls.sb; let ln := Ls.ln; let sr := Ls.sr; let ap := Ls.ap; let up := Ls.up; let rp := Ls.rp; let fr := Ls.fr; let ge := Ls.ge; let le := Ls.le; let lt := Ls.lt; let nz := Ls.nz; let mm := Ls.mm; let ma := Ls.ma; let sm := Ls.sm; let fl := Ls.fl; let al := Ls.al; let ci := Ls.ci
  let eu8_c := rowsOf u8_c
  let lenI_u8 := @lenI Int
  have hL : (⟨ar, cm, bo, sc, sa, sx, ss, sl, bs, sb, ln, sr, ap, up, rp, fr, ge, le, lt, nz, mm, ma, sm, fl, al, ci⟩ : Lf) = Ls := rfl
  show AC Try.prog 34 [.v (.im true (eu8_c a0))] _ _
  refine AC.of_run2 tab_ok Try.func34 (by rfl) (by rfl) (by cbv) ⟨by decide, rfl⟩ fun F hP hA => ?_
  have hT : TabOk F.P tab := hP ▸ tab_ok
  have hM : F.P.follows .mixedOrders = true := hP ▸ mixed
  have hC : ∀ {f a o r}, AC Try.prog f a o r → AC F.P f a o r := fun h => hP ▸ h
  refine Run.seq ?_
  refine Run.region hL hT [] (by cbv) ?_ ?_
  · exact hq0
  refine Run.seq ?_
  refine Run.region hL hT [] (by cbv) ?_ ?_
  · exact (hq trivial hq0)
  rw [show ln (eu8_c a0) = lenI_u8 a0 from ln_eq u8_c _]
  refine Run.seq ?_
  refine Run.seq ?_
  refine Run.region hL hT [] (by cbv) ?_ ?_
  · exact hq0
  refine Run.block ?_
  refine Run.loop2 (fun (z4 : Int) (z5 : Int) => ⟨32, 100000, [(0, .t (.im true (eu8_c a0))), (3, .t (.s (.int .i64 z4))), (4, .t (.s (.int .i64 z5)))], []⟩) (x0 := (ar .add .i64 17333 (lenI_u8 a0))) (x1 := 0) h (Weak.of _ [] hA (by cbv) ?_) (fun _ _ => rfl) ?_
  · repeat (first | exact hq0 | refine hq (by first | exact True.intro | rfl) ?_)
  · intro k z4 z5 h
    rw [spec_l1New.l0] at h
    refine Run.seq ?_
    refine Run.seq ?_
    refine Run.region hL hT [] (by cbv) ?_ ?_
    · exact (hq trivial (hq (fun _ => hq0) (hq (fun g7 => (by have g7C := g7; rw [show ln (eu8_c a0) = lenI_u8 a0 from ln_eq u8_c _] at g7C; exact (hq g7 (hq trivial hq0)))) (hq (fun q8 => (by have q8C := q8; rw [show ln (eu8_c a0) = lenI_u8 a0 from ln_eq u8_c _] at q8C; exact (hq q8 hq0))) (hq (fun _ => hq0) hq0)))))
    rw [show ln (eu8_c a0) = lenI_u8 a0 from ln_eq u8_c _]
    refine Run.cond (by cbv) (hq0) (fun c10 => ?_) (fun c10 => ?_)
    · have h := if_t c10 h
      refine Run.skip ?_
      refine Run.seq ?_
      refine Run.block ?_
      obtain ⟨x11, h_x11, h⟩ := bnd h
      refine Run.region hL hT [(4, .el [.s (.int .u8 x11)])] (by cbv) ?_ ?_
      · exact (hq trivial (hq (get_le h_x11) (hq (get_lt (f := u8_c) h_x11) (hq (get_ge (f := u8_c) h_x11) (hq trivial (hq trivial (hq trivial hq0)))))))
      refine Run.region hL hT [] (by cbv) ?_ ?_
      · exact (hq trivial hq0)
      refine ⟨(ar .and .i64 (ar .add .i64 (ar .add .i64 (ar .mul .i64 z4 131) (ar .or .i64 x11 0)) 7) 1073741823), (ar .add .i64 z5 1), h, Weak.of _ [] hA (by cbv) ?_⟩
      repeat (first | exact hq0 | refine hq (by first | exact True.intro | rfl) ?_)
    · have h := if_f c10 h
      refine Run.exit ?_
      refine Run.seq ?_
      refine Run.region hL hT [] (by cbv) ?_ ?_
      · exact hq0
      refine Run.ret ?_
      cases h
      refine ⟨_, _, by cbv, ?_, ?_⟩
      · exact LLe.r
      · exact (ALe.v LLe.r ALe.nil)

set_option maxRecDepth 8000 in
theorem spec_l1Byte_ac {a0v_b : List Int} {a0v_i : Int} {a0v_h : Int} {r : l1Cur × Int} (h : spec_l1Byte.f (l1Cur.mk a0v_b a0v_i a0v_h) = some r) : AC Try.prog 94 [.v (.bx 88 [.im true (rowsOf u8_c a0v_b), .s (.int .i64 a0v_i), .s (.int .i64 a0v_h)])] [.v (.bx 88 [.im true (rowsOf u8_c a0v_b), .s (.int .i64 r.1.i), .s (.int .i64 r.1.h)])] [.v (.s (.int .i64 r.2))] := by
  unfold spec_l1Byte.f at h
  let ar := Ls.ar; let cm := Ls.cm; let bo := Ls.bo; let sc := Ls.sc; let sa := Ls.sa; let sx := Ls.sx; let ss := Ls.ss; let sl := Ls.sl; let bs := Ls.bs; let sb := Ls.sb; let ln := Ls.ln; let sr := Ls.sr; let ap := Ls.ap; let up := Ls.up; let rp := Ls.rp; let fr := Ls.fr; let ge := Ls.ge; let le := Ls.le; let lt := Ls.lt; let nz := Ls.nz; let mm := Ls.mm; let ma := Ls.ma; let sm := Ls.sm; let fl := Ls.fl; let al := Ls.al; let ci := Ls.ci
  let eu8_c := rowsOf u8_c
  let lenI_u8 := @lenI Int
  have hL : (⟨ar, cm, bo, sc, sa, sx, ss, sl, bs, sb, ln, sr, ap, up, rp, fr, ge, le, lt, nz, mm, ma, sm, fl, al, ci⟩ : Lf) = Ls := rfl
  show AC Try.prog 94 [.v (.bx 88 [.im true (eu8_c a0v_b), .s (.int .i64 a0v_i), .s (.int .i64 a0v_h)])] _ _
  refine AC.of_run2 tab_ok Try.func94 (by rfl) (by rfl) (by cbv) ⟨by decide, rfl⟩ fun F hP hA => ?_
  have hT : TabOk F.P tab := hP ▸ tab_ok
  have hM : F.P.follows .mixedOrders = true := hP ▸ mixed
  have hC : ∀ {f a o r}, AC Try.prog f a o r → AC F.P f a o r := fun h => hP ▸ h
  refine Run.seq ?_
  refine Run.region hL hT [] (by cbv) ?_ ?_
  · exact hq0
  refine Run.seq ?_
  refine Run.region hL hT [] (by cbv) ?_ ?_
  · exact (hq trivial (hq trivial (hq trivial (hq trivial hq0))))
  refine Run.seq ?_
  refine Run.draw hL hT hM [] (by cbv) (by cbv) (by cbv) (by cbv) (by cbv) ?_ ?_
  · exact (hq trivial (hq trivial (hq trivial (hq (by decide : (0 : Int) ≤ 33) (hq (by decide : (33 : Int) < 64) (hq trivial (hq trivial (hq trivial (hq (by decide : (0 : Int) ≤ 45) (hq (by decide : (45 : Int) < 64) (hq trivial (hq trivial hq0))))))))))))
  refine Run.seq ?_
  refine Run.seq ?_
  refine Run.draw hL hT hM [] (by cbv) (by cbv) (by cbv) (by cbv) (by cbv) ?_ ?_
  · exact (hq trivial (hq trivial (hq trivial hq0)))
  rw [show ln (eu8_c a0v_b) = lenI_u8 a0v_b from ln_eq u8_c _]
  refine Run.cond (by cbv) (hq0) (fun c1 => ?_) (fun c1 => ?_)
  · have h := if_t c1 h
    refine Run.seq ?_
    obtain ⟨x2, h_x2, h⟩ := bnd h
    refine Run.draw hL hT hM [(9, .el [.s (.int .u8 x2)])] (by cbv) (by cbv) (by cbv) (by cbv) (by cbv) ?_ ?_
    · exact (hq trivial (hq trivial (hq (get_le h_x2) (hq (get_lt (f := u8_c) h_x2) (hq (get_ge (f := u8_c) h_x2) (hq trivial (hq trivial hq0)))))))
    refine Run.region hL hT [] (by cbv) ?_ ?_
    · exact (hq trivial (hq trivial (hq trivial hq0)))
    refine Run.seq ?_
    refine Run.region hL hT [] (by cbv) ?_ ?_
    · exact hq0
    refine Run.ret ?_
    cases h
    refine ⟨_, _, by cbv, ?_, ?_⟩
    · exact LLe.r
    · exact (ALe.v LLe.r ALe.nil)
  · have h := if_f c1 h
    refine Run.skip ?_
    refine Run.seq ?_
    refine Run.region hL hT [] (by cbv) ?_ ?_
    · exact hq0
    refine Run.ret ?_
    cases h
    refine ⟨_, _, by cbv, ?_, ?_⟩
    · exact LLe.r
    · exact (ALe.v LLe.r ALe.nil)

set_option maxRecDepth 8000 in
theorem spec_l1Below_ac {a0v_b : List Int} {a0v_i : Int} {a0v_h : Int} {a1 : Int} {r : l1Cur × Int} (h : spec_l1Below.f (l1Cur.mk a0v_b a0v_i a0v_h) a1 = some r) : AC Try.prog 65 [.v (.bx 88 [.im true (rowsOf u8_c a0v_b), .s (.int .i64 a0v_i), .s (.int .i64 a0v_h)]), .v (.s (.int .i64 a1))] [.v (.bx 88 [.im true (rowsOf u8_c a0v_b), .s (.int .i64 r.1.i), .s (.int .i64 r.1.h)]), .v (.jk)] [.v (.s (.int .i64 r.2))] := by
  unfold spec_l1Below.f at h
  let ar := Ls.ar; let cm := Ls.cm; let bo := Ls.bo; let sc := Ls.sc; let sa := Ls.sa; let sx := Ls.sx; let ss := Ls.ss; let sl := Ls.sl; let bs := Ls.bs; let sb := Ls.sb; let ln := Ls.ln; let sr := Ls.sr; let ap := Ls.ap; let up := Ls.up; let rp := Ls.rp; let fr := Ls.fr; let ge := Ls.ge; let le := Ls.le; let lt := Ls.lt; let nz := Ls.nz; let mm := Ls.mm; let ma := Ls.ma; let sm := Ls.sm; let fl := Ls.fl; let al := Ls.al; let ci := Ls.ci
  let eu8_c := rowsOf u8_c
  have hL : (⟨ar, cm, bo, sc, sa, sx, ss, sl, bs, sb, ln, sr, ap, up, rp, fr, ge, le, lt, nz, mm, ma, sm, fl, al, ci⟩ : Lf) = Ls := rfl
  show AC Try.prog 65 [.v (.bx 88 [.im true (eu8_c a0v_b), .s (.int .i64 a0v_i), .s (.int .i64 a0v_h)]), .v (.s (.int .i64 a1))] _ _
  refine AC.of_run2 tab_ok Try.func65 (by rfl) (by rfl) (by cbv) ⟨by decide, rfl⟩ fun F hP hA => ?_
  have hT : TabOk F.P tab := hP ▸ tab_ok
  have hM : F.P.follows .mixedOrders = true := hP ▸ mixed
  have hC : ∀ {f a o r}, AC Try.prog f a o r → AC F.P f a o r := fun h => hP ▸ h
  refine Run.seq ?_
  refine Run.region hL hT [] (by cbv) ?_ ?_
  · exact hq0
  refine Run.seq ?_
  refine Run.seq ?_
  refine Run.region hL hT [] (by cbv) ?_ ?_
  · exact (hq trivial hq0)
  refine Run.cond (by cbv) (hq0) (fun c1 => ?_) (fun c1 => ?_)
  · have h := if_t c1 h
    refine Run.seq ?_
    refine Run.region hL hT [] (by cbv) ?_ ?_
    · exact hq0
    refine Run.ret ?_
    cases h
    refine ⟨_, _, by cbv, ?_, ?_⟩
    · exact LLe.r
    · exact (ALe.v LLe.r ALe.nil)
  · have h := if_f c1 h
    refine Run.skip ?_
    refine Run.seq ?_
    refine Run.seq ?_
    refine Run.region hL hT [] (by cbv) ?_ ?_
    · exact (hq trivial hq0)
    refine Run.cond (by cbv) (hq0) (fun c2 => ?_) (fun c2 => ?_)
    · have h := if_t c2 h
      refine Run.seq ?_
      obtain ⟨⟨⟨r3v_1v_b, r3v_1v_i, r3v_1v_h⟩, r3v_2⟩, h_r3, h⟩ := bnd h
      obtain ⟨u4, h_u4, h⟩ := bnd h
      refine Run.region hL hT [(1, .call [true] [.v (.bx 88 [.im true (eu8_c a0v_b), .s (.int .i64 r3v_1v_i), .s (.int .i64 r3v_1v_h)])] [.v (.s (.int .i64 r3v_2))])] (by cbv) ?_ ?_
      · exact (hq (hC (spec_l1Byte_ac h_r3)) (hq trivial (hq (nz_t h_u4) hq0)))
      refine Run.ret ?_
      cases h
      refine ⟨_, _, by cbv, ?_, ?_⟩
      · exact LLe.r
      · exact (ALe.v LLe.r ALe.nil)
    · have h := if_f c2 h
      refine Run.skip ?_
      refine Run.seq ?_
      obtain ⟨⟨⟨r5v_1v_b, r5v_1v_i, r5v_1v_h⟩, r5v_2⟩, h_r5, h⟩ := bnd h
      refine Run.region hL hT [(1, .call [true] [.v (.bx 88 [.im true (eu8_c a0v_b), .s (.int .i64 r5v_1v_i), .s (.int .i64 r5v_1v_h)])] [.v (.s (.int .i64 r5v_2))])] (by cbv) ?_ ?_
      · exact (hq (hC (spec_l1Byte_ac h_r5)) hq0)
      refine Run.seq ?_
      obtain ⟨⟨⟨r6v_1v_b, r6v_1v_i, r6v_1v_h⟩, r6v_2⟩, h_r6, h⟩ := bnd h
      refine Run.region hL hT [(1, .call [true] [.v (.bx 88 [.im true (eu8_c a0v_b), .s (.int .i64 r6v_1v_i), .s (.int .i64 r6v_1v_h)])] [.v (.s (.int .i64 r6v_2))])] (by cbv) ?_ ?_
      · exact (hq (hC (spec_l1Byte_ac h_r6)) hq0)
      refine Run.seq ?_
      obtain ⟨⟨⟨r7v_1v_b, r7v_1v_i, r7v_1v_h⟩, r7v_2⟩, h_r7, h⟩ := bnd h
      refine Run.region hL hT [(1, .call [true] [.v (.bx 88 [.im true (eu8_c a0v_b), .s (.int .i64 r7v_1v_i), .s (.int .i64 r7v_1v_h)])] [.v (.s (.int .i64 r7v_2))])] (by cbv) ?_ ?_
      · exact (hq (hC (spec_l1Byte_ac h_r7)) hq0)
      refine Run.seq ?_
      obtain ⟨⟨⟨r8v_1v_b, r8v_1v_i, r8v_1v_h⟩, r8v_2⟩, h_r8, h⟩ := bnd h
      refine Run.region hL hT [(1, .call [true] [.v (.bx 88 [.im true (eu8_c a0v_b), .s (.int .i64 r8v_1v_i), .s (.int .i64 r8v_1v_h)])] [.v (.s (.int .i64 r8v_2))])] (by cbv) ?_ ?_
      · exact (hq (hC (spec_l1Byte_ac h_r8)) hq0)
      refine Run.seq ?_
      obtain ⟨u9, h_u9, h⟩ := bnd h
      refine Run.region hL hT [] (by cbv) ?_ ?_
      · exact (hq trivial (hq trivial (hq trivial (hq trivial (hq trivial (hq trivial (hq trivial (hq (nz_t h_u9) hq0))))))))
      refine Run.ret ?_
      cases h
      refine ⟨_, _, by cbv, ?_, ?_⟩
      · exact LLe.r
      · exact (ALe.v LLe.r ALe.nil)

set_option maxRecDepth 8000 in
theorem spec_MutOk_ac {a0v_Cols : List Int} {a1v_Kind : Int} {a1v_Table : Int} {a1v_Rowv_Id : Int} {a1v_Rowv_Cells : List Int} {r : Bool} (h : spec_MutOk.f (Schema.mk a0v_Cols) (Mut.mk a1v_Kind a1v_Table (Row.mk a1v_Rowv_Id a1v_Rowv_Cells)) = some r) : AC Try.prog 84 [.ag [.im false (rowsOf Int_c a0v_Cols)], .ag [.s (.int .i64 a1v_Kind), .s (.int .i64 a1v_Table), .s (.int .i64 a1v_Rowv_Id), .im false (rowsOf Int_c a1v_Rowv_Cells)]] [.ag [.jk], .ag [.jk, .jk, .jk, .jk]] [.v (.s (.bool r))] := by
  unfold spec_MutOk.f at h
  let ar := Ls.ar; let cm := Ls.cm; let bo := Ls.bo; let sc := Ls.sc; let sa := Ls.sa; let sx := Ls.sx; let ss := Ls.ss; let sl := Ls.sl; let bs := Ls.bs; let sb := Ls.sb; let ln := Ls.ln; let sr := Ls.sr; let ap := Ls.ap; let up := Ls.up; let rp := Ls.rp; let fr := Ls.fr; let ge := Ls.ge; let le := Ls.le; let lt := Ls.lt; let nz := Ls.nz; let mm := Ls.mm; let ma := Ls.ma; let sm := Ls.sm; let fl := Ls.fl; let al := Ls.al; let ci := Ls.ci
  let eInt_c := rowsOf Int_c
  let lenI_Int := @lenI Int
  have hL : (⟨ar, cm, bo, sc, sa, sx, ss, sl, bs, sb, ln, sr, ap, up, rp, fr, ge, le, lt, nz, mm, ma, sm, fl, al, ci⟩ : Lf) = Ls := rfl
  show AC Try.prog 84 [.ag [.im false (eInt_c a0v_Cols)], .ag [.s (.int .i64 a1v_Kind), .s (.int .i64 a1v_Table), .s (.int .i64 a1v_Rowv_Id), .im false (eInt_c a1v_Rowv_Cells)]] _ _
  refine AC.of_run2 tab_ok Try.func84 (by rfl) (by rfl) (by cbv) ⟨by decide, rfl⟩ fun F hP hA => ?_
  have hT : TabOk F.P tab := hP ▸ tab_ok
  have hM : F.P.follows .mixedOrders = true := hP ▸ mixed
  have hC : ∀ {f a o r}, AC Try.prog f a o r → AC F.P f a o r := fun h => hP ▸ h
  refine Run.seq ?_
  refine Run.region hL hT [] (by cbv) ?_ ?_
  · exact hq0
  refine Run.seq ?_
  refine Run.seq ?_
  refine Run.region hL hT [] (by cbv) ?_ ?_
  · exact (hq trivial (hq trivial hq0))
  refine Run.cond (by cbv) (hq0) (fun c1 => ?_) (fun c1 => ?_)
  · have h := if_t c1 h
    refine Run.seq ?_
    obtain ⟨r2, h_r2, h⟩ := bnd h
    obtain ⟨r3, h_r3, h⟩ := bnd h
    obtain ⟨r4, h_r4, h⟩ := bnd h
    refine Run.region hL hT [(1, .call [false] [.ag [.jk]] [.v (.s (.bool r2))]), (9, .call [false, false, false] [.v (.jk), .v (.jk), .v (.jk)] [.v (.s (.bool r3))]), (15, .call [false, false, false] [.v (.jk), .v (.jk), .v (.jk)] [.v (.s (.bool r4))])] (by cbv) ?_ ?_
    · exact (hq trivial (hq (hC (spec_SchemaOk_ac h_r2)) (hq (fun _ => hq0) (hq (fun g6 => (hq g6 (hq trivial hq0))) (hq (fun _ => hq0) (hq (fun g8 => (hq g8 (hq trivial hq0))) (hq (fun g9 => (hq g9 hq0)) (hq (fun g10 => (hq g10 (hq trivial hq0))) (hq (fun g11 => (hq g11 (hq g11 (hq (by rw [show ln (eInt_c a0v_Cols) = lenI_Int a0v_Cols from ln_eq Int_c _]; exact (hC (spec_l1In_ac (gd_t h_r3 g11)))) hq0)))) (hq (fun q12 => (hq q12 hq0)) (hq (fun _ => hq0) (hq (fun _ => hq0) (hq (fun g15 => (hq g15 hq0)) (hq (fun g16 => (hq g16 (hq trivial hq0))) (hq (fun g17 => (hq g17 (hq (hC (spec_l1In_ac (gd_t h_r4 g17))) hq0))) (hq (fun q18 => (hq q18 hq0)) (hq (fun _ => hq0) (hq (fun _ => hq0) (hq (fun g21 => (hq g21 hq0)) (hq (fun g22 => (hq g22 (hq trivial hq0))) (hq (fun g23 => (hq g23 hq0)) (hq (fun g24 => (hq g24 (hq trivial hq0))) (hq (fun q25 => (hq q25 hq0)) (hq (fun _ => hq0) hq0))))))))))))))))))))))))
    rw [show ln (eInt_c a0v_Cols) = lenI_Int a0v_Cols from ln_eq Int_c _]
    rw [show ln (eInt_c a1v_Rowv_Cells) = lenI_Int a1v_Rowv_Cells from ln_eq Int_c _]
    refine Run.ret ?_
    cases h
    refine ⟨_, _, by cbv, ?_, ?_⟩
    · exact LLe.r
    · exact (ALe.v LLe.r ALe.nil)
  · have h := if_f c1 h
    refine Run.skip ?_
    refine Run.seq ?_
    obtain ⟨r27, h_r27, h⟩ := bnd h
    obtain ⟨r28, h_r28, h⟩ := bnd h
    refine Run.region hL hT [(2, .call [false, false, false] [.v (.jk), .v (.jk), .v (.jk)] [.v (.s (.bool r27))]), (9, .call [false, false, false] [.ag [.jk], .v (.jk), .ag [.jk, .jk]] [.v (.s (.bool r28))])] (by cbv) ?_ ?_
    · exact (hq trivial (hq (hC (spec_l1In_ac h_r27)) (hq (fun g29 => (hq trivial hq0)) (hq (fun _ => hq0) (hq (fun g31 => (hq g31 (hq trivial hq0))) (hq (fun _ => hq0) (hq (fun g33 => (hq g33 (hq trivial hq0))) (hq (fun g34 => (hq g34 (hq g34 (hq g34 (hq (hC (spec_RowOk_ac (gd_t h_r28 g34))) hq0))))) (hq (fun q35 => (hq q35 hq0)) (hq (fun _ => hq0) hq0))))))))))
    refine Run.ret ?_
    cases h
    refine ⟨_, _, by cbv, ?_, ?_⟩
    · exact LLe.r
    · exact (ALe.v LLe.r ALe.nil)

set_option maxRecDepth 8000 in
theorem spec_l7Do_ac {a0v_Schemav_Cols : List Int} {a0v_Version : Int} {a0v_Tables : List (List Row)} {a1v_Kind : Int} {a1v_Table : Int} {a1v_Rowv_Id : Int} {a1v_Rowv_Cells : List Int} {r : Store × Change × Bool} (h : spec_l7Do.f (Store.mk (Schema.mk a0v_Schemav_Cols) a0v_Version a0v_Tables) (Mut.mk a1v_Kind a1v_Table (Row.mk a1v_Rowv_Id a1v_Rowv_Cells)) = some r) : AC Try.prog 85 [.ag [.ow 3 (rowsOf Int_c a0v_Schemav_Cols), .s (.int .i64 a0v_Version), .ow 72 (rowsOf RowS_o a0v_Tables)], .ag [.s (.int .i64 a1v_Kind), .s (.int .i64 a1v_Table), .s (.int .i64 a1v_Rowv_Id), .im false (rowsOf Int_c a1v_Rowv_Cells)]] [.ag [.jk, .jk, .jk], .ag [.jk, .jk, .jk, .jk]] [.ag [.ow 3 (rowsOf Int_c r.1.Schema.Cols), .s (.int .i64 r.1.Version), .ow 72 (rowsOf RowS_o r.1.Tables)], .ag [.s (.int .i64 r.2.1.Table), .s (.bool r.2.1.Had), .s (.bool r.2.1.Has), .s (.int .i64 r.2.1.Old.Id), .ow 3 (rowsOf Int_c r.2.1.Old.Cells), .s (.int .i64 r.2.1.New.Id), .ow 3 (rowsOf Int_c r.2.1.New.Cells)], .v (.s (.bool r.2.2))] := by
  unfold spec_l7Do.f at h
  let ar := Ls.ar; let cm := Ls.cm; let bo := Ls.bo; let sc := Ls.sc; let sa := Ls.sa; let sx := Ls.sx; let ss := Ls.ss; let sl := Ls.sl; let bs := Ls.bs; let sb := Ls.sb; let ln := Ls.ln; let sr := Ls.sr; let ap := Ls.ap; let up := Ls.up; let rp := Ls.rp; let fr := Ls.fr; let ge := Ls.ge; let le := Ls.le; let lt := Ls.lt; let nz := Ls.nz; let mm := Ls.mm; let ma := Ls.ma; let sm := Ls.sm; let fl := Ls.fl; let al := Ls.al; let ci := Ls.ci
  let eInt_c := rowsOf Int_c
  let eRowS_o := rowsOf RowS_o
  let eRow_o := rowsOf Row_o
  let lenI_Row := @lenI Row
  have hL : (⟨ar, cm, bo, sc, sa, sx, ss, sl, bs, sb, ln, sr, ap, up, rp, fr, ge, le, lt, nz, mm, ma, sm, fl, al, ci⟩ : Lf) = Ls := rfl
  show AC Try.prog 85 [.ag [.ow 3 (eInt_c a0v_Schemav_Cols), .s (.int .i64 a0v_Version), .ow 72 (eRowS_o a0v_Tables)], .ag [.s (.int .i64 a1v_Kind), .s (.int .i64 a1v_Table), .s (.int .i64 a1v_Rowv_Id), .im false (eInt_c a1v_Rowv_Cells)]] _ _
  refine AC.of_run2 tab_ok Try.func85 (by rfl) (by rfl) (by cbv) ⟨by decide, rfl⟩ fun F hP hA => ?_
  have hT : TabOk F.P tab := hP ▸ tab_ok
  have hM : F.P.follows .mixedOrders = true := hP ▸ mixed
  have hC : ∀ {f a o r}, AC Try.prog f a o r → AC F.P f a o r := fun h => hP ▸ h
  refine Run.seq ?_
  refine Run.region hL hT [] (by cbv) ?_ ?_
  · exact hq0
  refine Run.seq ?_
  obtain ⟨x1, h_x1, h⟩ := bnd h
  refine Run.weak ?_ (Weak.take (rows := eRowS_o a0v_Tables) (e2 := 38) (r2 := eRow_o x1) hT 1 a1v_Table 0 7098 1007098 (by cbv) (by cbv) (by cbv) (get_le' h_x1) (get_lt' RowS_o h_x1) ((congrArg (fun q => q[0]?) (get_ge (f := RowS_o) h_x1)).trans rfl) rfl (up (eRowS_o a0v_Tables) a1v_Table 0 [.jk]) rfl)
  refine Run.region hL hT [(5, .lk [.jk] [(0, 1007098)])] (by cbv) ?_ ?_
  · exact (hq trivial (hq trivial (hq (get_le h_x1) (hq (up_lt RowS_o h_x1) (hq trivial (hq (get_le h_x1) (hq (up_lt RowS_o h_x1) (hq (up_ge RowS_o h_x1) hq0))))))))
  refine Run.seq ?_
  obtain ⟨r2, h_r2, h⟩ := bnd h
  refine Run.region hL hT [(4, .call [false, false] [.v (.jk), .v (.jk)] [.v (.s (.int .i64 r2))])] (by cbv) ?_ ?_
  · exact (hq trivial (hq (hC (AC.args (spec_RowAt_ac h_r2) (ALe.v (LLe.im (RLe.eq (fr_row Row_o_z _))) (ALe.v LLe.r ALe.nil)))) hq0))
  refine Run.seq ?_
  refine Run.region hL hT [] (by cbv) ?_ ?_
  · exact (hq trivial (hq trivial (hq trivial (hq trivial (hq trivial (hq trivial hq0))))))
  refine Run.seq ?_
  refine Run.seq ?_
  refine Run.region hL hT [] (by cbv) ?_ ?_
  · exact (hq trivial (hq trivial (hq (fun _ => hq0) (hq (fun g4 => (hq g4 (hq trivial hq0))) (hq (fun g5 => (hq g5 (hq trivial hq0))) (hq (fun g6 => (hq g6 hq0)) (hq (fun _ => hq0) (hq (fun g8 => (hq g8 hq0)) (hq (fun g9 => (hq g9 (hq trivial hq0))) (hq (fun g10 => (hq g10 (hq (fun q11 => (hq (bo_a g10 q11) hq0)) (hq (fun _ => hq0) hq0)))) (hq (fun _ => hq0) (hq (fun q14 => (hq (bo_m q14) hq0)) hq0))))))))))))
  rw [show ln (eRow_o x1) = lenI_Row x1 from ln_eq Row_o _]
  refine Run.cond (by cbv) (hq0) (fun c15 => ?_) (fun c15 => ?_)
  · have h := if_t c15 h
    refine Run.seq ?_
    refine Run.region hL hT [] (by cbv) ?_ ?_
    · exact (hq trivial (hq trivial (hq trivial hq0)))
    refine Run.weak ?_ (Weak.back (rows := (up (eRowS_o a0v_Tables) a1v_Table 0 [.jk])) (r2 := eRow_o x1) 1 a1v_Table 0 7098 1007098 (by cbv) (by cbv) (by cbv) (by cbv) (get_le' h_x1) (up_lt RowS_o h_x1) ((congrArg (fun q => q[0]?) (up_at RowS_o h_x1)).trans rfl) (up (up (eRowS_o a0v_Tables) a1v_Table 0 [.jk]) a1v_Table 0 [.ow 38 (eRow_o x1)]) rfl)
    refine Run.weak ?_ (Weak.row (rows := (up (up (eRowS_o a0v_Tables) a1v_Table 0 [.jk]) a1v_Table 0 [.ow 38 (eRow_o x1)])) 1 (eRowS_o a0v_Tables) (by cbv) (RLe.eq (hole_eq (f := RowS_o) h_x1 rfl)))
    refine Run.weak ?_ (Weak.mvB 0 26578 4 (by cbv) (by cbv) (by cbv))
    refine Run.weak ?_ (Weak.mvB 1 26579 4 (by cbv) (by cbv) (by cbv))
    refine Run.ret ?_
    cases h
    refine ⟨_, _, by cbv, ?_, ?_⟩
    · exact LLe.r
    · exact (ALe.ag rfl LLe.r (ALe.ag rfl (LLe.c (LLe.c (LLe.c (LLe.c (LLe.cons LLe.nilO (LLe.c (LLe.cons LLe.nilO LLe.nil))))))) (ALe.v LLe.r ALe.nil)))
  · have h := if_f c15 h
    refine Run.skip ?_
    refine Run.seq ?_
    refine Run.seq ?_
    refine Run.region hL hT [] (by cbv) ?_ ?_
    · exact (hq trivial hq0)
    refine Run.cond (by cbv) (hq0) (fun c16 => ?_) (fun c16 => ?_)
    · have h := if_t c16 h
      obtain ⟨⟨x17v_Id, x17v_Cells⟩, h_x17, h⟩ := bnd h
      obtain ⟨⟨r18v_Id, r18v_Cells⟩, h_r18, h⟩ := bnd h
      refine Run.region hL hT [(3, .el [.s (.int .i64 x17v_Id), .ow 3 (eInt_c x17v_Cells)]), (4, .call [false] [.ag [.jk, .jk]] [.ag [.s (.int .i64 r18v_Id), .ow 3 (eInt_c r18v_Cells)]])] (by cbv) ?_ ?_
      · exact (hq (get_le h_x17) (hq (get_lt (f := Row_o) h_x17) (hq (get_le h_x17) (hq (get_lt (f := Row_o) h_x17) (hq (get_ge (f := Row_o) h_x17) (hq (hC (AC.args (spec_l6Copy_ac h_r18) (ALe.ag rfl (LLe.c (LLe.cons (LLe.im (RLe.eq (fr_row Int_c_z _))) LLe.nil)) ALe.nil))) (hq trivial hq0)))))))
      refine Run.seq ?_
      refine Run.seq ?_
      refine Run.region hL hT [] (by cbv) ?_ ?_
      · exact (hq trivial hq0)
      refine Run.cond (by cbv) (hq0) (fun c19 => ?_) (fun c19 => ?_)
      · have h := if_t c19 h
        refine Run.seq ?_
        obtain ⟨⟨r20v_Id, r20v_Cells⟩, h_r20, h⟩ := bnd h
        refine Run.region hL hT [(2, .call [false] [.ag [.jk, .jk]] [.ag [.s (.int .i64 r20v_Id), .ow 3 (eInt_c r20v_Cells)]])] (by cbv) ?_ ?_
        · exact (hq trivial (hq (hC (spec_l6Copy_ac h_r20)) (hq trivial hq0)))
        obtain ⟨r21, h_r21, h⟩ := bnd h
        obtain ⟨l22, h_l22, h⟩ := bnd h
        refine Run.draw hL hT hM [(7, .call [false, false] [.v (.jk), .ag [.jk, .jk]] [.v (.ow 38 (eRow_o r21))])] (by cbv) (by cbv) (by cbv) (by cbv) (by cbv) ?_ ?_
        · exact (hq trivial (hq trivial (hq trivial (hq (hC (AC.args (spec_RowPut_ac h_r21) (ALe.v (LLe.im (RLe.eq (fr_row Row_o_z _))) (ALe.ag rfl LLe.r ALe.nil)))) (hq (get_le h_x1) (hq (up_lt RowS_o h_x1) (hq (get_le h_x1) (hq (up_lt RowS_o h_x1) hq0))))))))
        refine Run.row (rows := (up (up (eRowS_o a0v_Tables) a1v_Table 0 [.jk]) a1v_Table 0 [.ow 38 (eRow_o r21)])) 1 (eRowS_o l22) (by cbv) (hole_le (f := RowS_o) h_x1 h_l22 (ltn (RowS_o_n _) (by decide)) rfl LLe.r) ?_
        refine Run.seq ?_
        refine Run.draw hL hT hM [] (by cbv) (by cbv) (by cbv) (by cbv) (by cbv) ?_ ?_
        · exact (hq trivial (hq trivial (hq trivial (hq trivial hq0))))
        refine Run.weak ?_ (Weak.mvB 0 47058 4 (by cbv) (by cbv) (by cbv))
        refine Run.weak ?_ (Weak.mvB 1 47059 4 (by cbv) (by cbv) (by cbv))
        refine Run.ret ?_
        cases h
        refine ⟨_, _, by cbv, ?_, ?_⟩
        · exact LLe.r
        · exact (ALe.ag rfl LLe.r (ALe.ag rfl LLe.r (ALe.v LLe.r ALe.nil)))
      · have h := if_f c19 h
        obtain ⟨r23, h_r23, h⟩ := bnd h
        obtain ⟨l24, h_l24, h⟩ := bnd h
        refine Run.draw hL hT hM [(8, .call [false, false] [.v (.jk), .v (.jk)] [.v (.ow 38 (eRow_o r23))])] (by cbv) (by cbv) (by cbv) (by cbv) (by cbv) ?_ ?_
        · exact (hq trivial (hq trivial (hq trivial (hq (hC (AC.args (spec_RowDrop_ac h_r23) (ALe.v (LLe.im (RLe.eq (fr_row Row_o_z _))) (ALe.v LLe.r ALe.nil)))) (hq (get_le h_x1) (hq (up_lt RowS_o h_x1) (hq (get_le h_x1) (hq (up_lt RowS_o h_x1) hq0))))))))
        refine Run.row (rows := (up (up (eRowS_o a0v_Tables) a1v_Table 0 [.jk]) a1v_Table 0 [.ow 38 (eRow_o r23)])) 1 (eRowS_o l24) (by cbv) (hole_le (f := RowS_o) h_x1 h_l24 (ltn (RowS_o_n _) (by decide)) rfl LLe.r) ?_
        refine Run.seq ?_
        refine Run.draw hL hT hM [] (by cbv) (by cbv) (by cbv) (by cbv) (by cbv) ?_ ?_
        · exact (hq trivial (hq trivial (hq trivial (hq trivial hq0))))
        refine Run.weak ?_ (Weak.mvB 0 42962 4 (by cbv) (by cbv) (by cbv))
        refine Run.weak ?_ (Weak.mvB 1 42963 4 (by cbv) (by cbv) (by cbv))
        refine Run.ret ?_
        cases h
        refine ⟨_, _, by cbv, ?_, ?_⟩
        · exact LLe.r
        · exact (ALe.ag rfl LLe.r (ALe.ag rfl (LLe.c (LLe.c (LLe.c (LLe.c (LLe.c (LLe.c (LLe.cons LLe.nilO LLe.nil))))))) (ALe.v LLe.r ALe.nil)))
    · have h := if_f c16 h
      refine Run.skip ?_
      refine Run.seq ?_
      refine Run.seq ?_
      refine Run.region hL hT [] (by cbv) ?_ ?_
      · exact (hq trivial hq0)
      refine Run.cond (by cbv) (hq0) (fun c25 => ?_) (fun c25 => ?_)
      · have h := if_t c25 h
        refine Run.seq ?_
        obtain ⟨⟨r26v_Id, r26v_Cells⟩, h_r26, h⟩ := bnd h
        refine Run.region hL hT [(2, .call [false] [.ag [.jk, .jk]] [.ag [.s (.int .i64 r26v_Id), .ow 3 (eInt_c r26v_Cells)]])] (by cbv) ?_ ?_
        · exact (hq trivial (hq (hC (spec_l6Copy_ac h_r26)) (hq trivial hq0)))
        obtain ⟨r27, h_r27, h⟩ := bnd h
        obtain ⟨l28, h_l28, h⟩ := bnd h
        refine Run.draw hL hT hM [(7, .call [false, false] [.v (.jk), .ag [.jk, .jk]] [.v (.ow 38 (eRow_o r27))])] (by cbv) (by cbv) (by cbv) (by cbv) (by cbv) ?_ ?_
        · exact (hq trivial (hq trivial (hq trivial (hq (hC (AC.args (spec_RowPut_ac h_r27) (ALe.v (LLe.im (RLe.eq (fr_row Row_o_z _))) (ALe.ag rfl LLe.r ALe.nil)))) (hq (get_le h_x1) (hq (up_lt RowS_o h_x1) (hq (get_le h_x1) (hq (up_lt RowS_o h_x1) hq0))))))))
        refine Run.row (rows := (up (up (eRowS_o a0v_Tables) a1v_Table 0 [.jk]) a1v_Table 0 [.ow 38 (eRow_o r27)])) 1 (eRowS_o l28) (by cbv) (hole_le (f := RowS_o) h_x1 h_l28 (ltn (RowS_o_n _) (by decide)) rfl LLe.r) ?_
        refine Run.seq ?_
        refine Run.draw hL hT hM [] (by cbv) (by cbv) (by cbv) (by cbv) (by cbv) ?_ ?_
        · exact (hq trivial (hq trivial (hq trivial (hq trivial hq0))))
        refine Run.weak ?_ (Weak.mvB 0 42962 4 (by cbv) (by cbv) (by cbv))
        refine Run.weak ?_ (Weak.mvB 1 42963 4 (by cbv) (by cbv) (by cbv))
        refine Run.ret ?_
        cases h
        refine ⟨_, _, by cbv, ?_, ?_⟩
        · exact LLe.r
        · exact (ALe.ag rfl LLe.r (ALe.ag rfl (LLe.c (LLe.c (LLe.c (LLe.c (LLe.cons LLe.nilO (LLe.c (LLe.c LLe.nil))))))) (ALe.v LLe.r ALe.nil)))
      · have h := if_f c25 h
        obtain ⟨r29, h_r29, h⟩ := bnd h
        obtain ⟨l30, h_l30, h⟩ := bnd h
        refine Run.draw hL hT hM [(8, .call [false, false] [.v (.jk), .v (.jk)] [.v (.ow 38 (eRow_o r29))])] (by cbv) (by cbv) (by cbv) (by cbv) (by cbv) ?_ ?_
        · exact (hq trivial (hq trivial (hq trivial (hq (hC (AC.args (spec_RowDrop_ac h_r29) (ALe.v (LLe.im (RLe.eq (fr_row Row_o_z _))) (ALe.v LLe.r ALe.nil)))) (hq (get_le h_x1) (hq (up_lt RowS_o h_x1) (hq (get_le h_x1) (hq (up_lt RowS_o h_x1) hq0))))))))
        refine Run.row (rows := (up (up (eRowS_o a0v_Tables) a1v_Table 0 [.jk]) a1v_Table 0 [.ow 38 (eRow_o r29)])) 1 (eRowS_o l30) (by cbv) (hole_le (f := RowS_o) h_x1 h_l30 (ltn (RowS_o_n _) (by decide)) rfl LLe.r) ?_
        refine Run.seq ?_
        refine Run.draw hL hT hM [] (by cbv) (by cbv) (by cbv) (by cbv) (by cbv) ?_ ?_
        · exact (hq trivial (hq trivial (hq trivial (hq trivial hq0))))
        refine Run.weak ?_ (Weak.mvB 0 38866 4 (by cbv) (by cbv) (by cbv))
        refine Run.weak ?_ (Weak.mvB 1 38867 4 (by cbv) (by cbv) (by cbv))
        refine Run.ret ?_
        cases h
        refine ⟨_, _, by cbv, ?_, ?_⟩
        · exact LLe.r
        · exact (ALe.ag rfl LLe.r (ALe.ag rfl (LLe.c (LLe.c (LLe.c (LLe.c (LLe.cons LLe.nilO (LLe.c (LLe.cons LLe.nilO LLe.nil))))))) (ALe.v LLe.r ALe.nil)))

set_option maxRecDepth 8000 in
theorem spec_MutDo_ac {a0v_Schemav_Cols : List Int} {a0v_Version : Int} {a0v_Tables : List (List Row)} {a1v_Kind : Int} {a1v_Table : Int} {a1v_Rowv_Id : Int} {a1v_Rowv_Cells : List Int} {r : Store × Change × Bool} (h : spec_MutDo.f (Store.mk (Schema.mk a0v_Schemav_Cols) a0v_Version a0v_Tables) (Mut.mk a1v_Kind a1v_Table (Row.mk a1v_Rowv_Id a1v_Rowv_Cells)) = some r) : AC Try.prog 49 [.ag [.im false (rowsOf Int_c a0v_Schemav_Cols), .s (.int .i64 a0v_Version), .im false (rowsOf RowS_i a0v_Tables)], .ag [.s (.int .i64 a1v_Kind), .s (.int .i64 a1v_Table), .s (.int .i64 a1v_Rowv_Id), .im false (rowsOf Int_c a1v_Rowv_Cells)]] [.ag [.jk, .jk, .jk], .ag [.jk, .jk, .jk, .jk]] [.ag [.ow 3 (rowsOf Int_c r.1.Schema.Cols), .s (.int .i64 r.1.Version), .ow 72 (rowsOf RowS_o r.1.Tables)], .ag [.s (.int .i64 r.2.1.Table), .s (.bool r.2.1.Had), .s (.bool r.2.1.Has), .s (.int .i64 r.2.1.Old.Id), .ow 3 (rowsOf Int_c r.2.1.Old.Cells), .s (.int .i64 r.2.1.New.Id), .ow 3 (rowsOf Int_c r.2.1.New.Cells)], .v (.s (.bool r.2.2))] := by
  unfold spec_MutDo.f at h
  let ar := Ls.ar; let cm := Ls.cm; let bo := Ls.bo; let sc := Ls.sc; let sa := Ls.sa; let sx := Ls.sx; let ss := Ls.ss; let sl := Ls.sl; let bs := Ls.bs; let sb := Ls.sb; let ln := Ls.ln; let sr := Ls.sr; let ap := Ls.ap; let up := Ls.up; let rp := Ls.rp; let fr := Ls.fr; let ge := Ls.ge; let le := Ls.le; let lt := Ls.lt; let nz := Ls.nz; let mm := Ls.mm; let ma := Ls.ma; let sm := Ls.sm; let fl := Ls.fl; let al := Ls.al; let ci := Ls.ci
  let eInt_c := rowsOf Int_c
  let eRowS_i := rowsOf RowS_i
  let eRowS_o := rowsOf RowS_o
  have hL : (⟨ar, cm, bo, sc, sa, sx, ss, sl, bs, sb, ln, sr, ap, up, rp, fr, ge, le, lt, nz, mm, ma, sm, fl, al, ci⟩ : Lf) = Ls := rfl
  show AC Try.prog 49 [.ag [.im false (eInt_c a0v_Schemav_Cols), .s (.int .i64 a0v_Version), .im false (eRowS_i a0v_Tables)], .ag [.s (.int .i64 a1v_Kind), .s (.int .i64 a1v_Table), .s (.int .i64 a1v_Rowv_Id), .im false (eInt_c a1v_Rowv_Cells)]] _ _
  refine AC.of_run2 tab_ok Try.func49 (by rfl) (by rfl) (by cbv) ⟨by decide, rfl⟩ fun F hP hA => ?_
  have hT : TabOk F.P tab := hP ▸ tab_ok
  have hM : F.P.follows .mixedOrders = true := hP ▸ mixed
  have hC : ∀ {f a o r}, AC Try.prog f a o r → AC F.P f a o r := fun h => hP ▸ h
  refine Run.seq ?_
  refine Run.region hL hT [] (by cbv) ?_ ?_
  · exact hq0
  refine Run.seq ?_
  refine Run.seq ?_
  obtain ⟨r1, h_r1, h⟩ := bnd h
  refine Run.region hL hT [(1, .call [false] [.ag [.jk, .jk, .jk]] [.v (.s (.bool r1))])] (by cbv) ?_ ?_
  · exact (hq trivial (hq (hC (spec_StoreOk_ac h_r1)) hq0))
  refine Run.cond (by cbv) (hq0) (fun c2 => ?_) (fun c2 => ?_)
  · have h := if_t c2 h
    refine Run.seq ?_
    refine Run.region hL hT [] (by cbv) ?_ ?_
    · exact (hq trivial (hq trivial hq0))
    refine Run.ret ?_
    cases h
    refine ⟨_, _, by cbv, ?_, ?_⟩
    · exact LLe.r
    · exact (ALe.ag rfl (LLe.cons LLe.nilO (LLe.c (LLe.cons LLe.nilO LLe.nil))) (ALe.ag rfl (LLe.c (LLe.c (LLe.c (LLe.c (LLe.cons LLe.nilO (LLe.c (LLe.cons LLe.nilO LLe.nil))))))) (ALe.v LLe.r ALe.nil)))
  · have h := if_f c2 h
    refine Run.skip ?_
    refine Run.seq ?_
    refine Run.seq ?_
    obtain ⟨r3, h_r3, h⟩ := bnd h
    refine Run.region hL hT [(3, .call [false, false] [.ag [.jk], .ag [.jk, .jk, .jk, .jk]] [.v (.s (.bool r3))])] (by cbv) ?_ ?_
    · exact (hq trivial (hq trivial (hq (hC (spec_MutOk_ac h_r3)) hq0)))
    refine Run.cond (by cbv) (hq0) (fun c4 => ?_) (fun c4 => ?_)
    · have h := if_t c4 h
      refine Run.seq ?_
      obtain ⟨⟨⟨r5v_Schemav_Cols⟩, r5v_Version, r5v_Tables⟩, h_r5, h⟩ := bnd h
      refine Run.region hL hT [(1, .call [false] [.ag [.jk, .jk, .jk]] [.ag [.ow 3 (eInt_c r5v_Schemav_Cols), .s (.int .i64 r5v_Version), .ow 72 (eRowS_o r5v_Tables)]])] (by cbv) ?_ ?_
      · exact (hq trivial (hq (hC (spec_l7Copy_ac h_r5)) (hq trivial (hq trivial hq0))))
      refine Run.ret ?_
      cases h
      refine ⟨_, _, by cbv, ?_, ?_⟩
      · exact LLe.r
      · exact (ALe.ag rfl LLe.r (ALe.ag rfl (LLe.c (LLe.c (LLe.c (LLe.c (LLe.cons LLe.nilO (LLe.c (LLe.cons LLe.nilO LLe.nil))))))) (ALe.v LLe.r ALe.nil)))
    · have h := if_f c4 h
      refine Run.skip ?_
      refine Run.seq ?_
      obtain ⟨⟨⟨r6v_Schemav_Cols⟩, r6v_Version, r6v_Tables⟩, h_r6, h⟩ := bnd h
      obtain ⟨⟨⟨⟨r7v_1v_Schemav_Cols⟩, r7v_1v_Version, r7v_1v_Tables⟩, ⟨r7v_2v_1v_Table, r7v_2v_1v_Had, r7v_2v_1v_Has, ⟨r7v_2v_1v_Oldv_Id, r7v_2v_1v_Oldv_Cells⟩, ⟨r7v_2v_1v_Newv_Id, r7v_2v_1v_Newv_Cells⟩⟩, r7v_2v_2⟩, h_r7, h⟩ := bnd h
      refine Run.draw hL hT hM [(1, .call [false] [.ag [.jk, .jk, .jk]] [.ag [.ow 3 (eInt_c r6v_Schemav_Cols), .s (.int .i64 r6v_Version), .ow 72 (eRowS_o r6v_Tables)]]), (3, .call [true, false] [.ag [.jk, .jk, .jk], .ag [.jk, .jk, .jk, .jk]] [.ag [.ow 3 (eInt_c r7v_1v_Schemav_Cols), .s (.int .i64 r7v_1v_Version), .ow 72 (eRowS_o r7v_1v_Tables)], .ag [.s (.int .i64 r7v_2v_1v_Table), .s (.bool r7v_2v_1v_Had), .s (.bool r7v_2v_1v_Has), .s (.int .i64 r7v_2v_1v_Oldv_Id), .ow 3 (eInt_c r7v_2v_1v_Oldv_Cells), .s (.int .i64 r7v_2v_1v_Newv_Id), .ow 3 (eInt_c r7v_2v_1v_Newv_Cells)], .v (.s (.bool r7v_2v_2))])] (by cbv) (by cbv) (by cbv) (by cbv) (by cbv) ?_ ?_
      · exact (hq trivial (hq (hC (spec_l7Copy_ac h_r6)) (hq trivial (hq (hC (spec_l7Do_ac h_r7)) (hq trivial (hq trivial hq0))))))
      refine Run.seq ?_
      refine Run.seq ?_
      refine Run.region hL hT [] (by cbv) ?_ ?_
      · exact hq0
      refine Run.cond (by cbv) (hq0) (fun c8 => ?_) (fun c8 => ?_)
      · have h := if_t c8 h
        refine Run.seq ?_
        obtain ⟨⟨⟨r9v_Schemav_Cols⟩, r9v_Version, r9v_Tables⟩, h_r9, h⟩ := bnd h
        refine Run.region hL hT [(1, .call [false] [.ag [.jk, .jk, .jk]] [.ag [.ow 3 (eInt_c r9v_Schemav_Cols), .s (.int .i64 r9v_Version), .ow 72 (eRowS_o r9v_Tables)]])] (by cbv) ?_ ?_
        · exact (hq trivial (hq (hC (spec_l7Copy_ac h_r9)) (hq trivial (hq trivial hq0))))
        refine Run.ret ?_
        cases h
        refine ⟨_, _, by cbv, ?_, ?_⟩
        · exact LLe.r
        · exact (ALe.ag rfl LLe.r (ALe.ag rfl (LLe.c (LLe.c (LLe.c (LLe.c (LLe.cons LLe.nilO (LLe.c (LLe.cons LLe.nilO LLe.nil))))))) (ALe.v LLe.r ALe.nil)))
      · have h := if_f c8 h
        refine Run.skip ?_
        refine Run.seq ?_
        refine Run.draw hL hT hM [] (by cbv) (by cbv) (by cbv) (by cbv) (by cbv) ?_ ?_
        · exact (hq trivial (hq trivial (hq trivial (hq trivial hq0))))
        refine Run.ret ?_
        cases h
        refine ⟨_, _, by cbv, ?_, ?_⟩
        · exact LLe.r
        · exact (ALe.ag rfl LLe.r (ALe.ag rfl LLe.r (ALe.v LLe.r ALe.nil)))

set_option maxRecDepth 8000 in
theorem spec_BatchDo_ac {a0v_Schemav_Cols : List Int} {a0v_Version : Int} {a0v_Tables : List (List Row)} {a1 : List Mut} {r : Store × (List Change) × Bool} (h : spec_BatchDo.f (Store.mk (Schema.mk a0v_Schemav_Cols) a0v_Version a0v_Tables) a1 = some r) : AC Try.prog 68 [.ag [.im false (rowsOf Int_c a0v_Schemav_Cols), .s (.int .i64 a0v_Version), .im false (rowsOf RowS_i a0v_Tables)], .v (.im false (rowsOf Mut_i a1))] [.ag [.jk, .jk, .jk], .v (.jk)] [.ag [.ow 3 (rowsOf Int_c r.1.Schema.Cols), .s (.int .i64 r.1.Version), .ow 72 (rowsOf RowS_o r.1.Tables)], .v (.ow 40 (rowsOf Change_o r.2.1)), .v (.s (.bool r.2.2))] := by
  unfold spec_BatchDo.f at h
  let ar := Ls.ar; let cm := Ls.cm; let bo := Ls.bo; let sc := Ls.sc; let sa := Ls.sa; let sx := Ls.sx; let ss := Ls.ss; let sl := Ls.sl; let bs := Ls.bs; let sb := Ls.sb; let ln := Ls.ln; let sr := Ls.sr; let ap := Ls.ap; let up := Ls.up; let rp := Ls.rp; let fr := Ls.fr; let ge := Ls.ge; let le := Ls.le; let lt := Ls.lt; let nz := Ls.nz; let mm := Ls.mm; let ma := Ls.ma; let sm := Ls.sm; let fl := Ls.fl; let al := Ls.al; let ci := Ls.ci
  let eChange_o := rowsOf Change_o
  let eInt_c := rowsOf Int_c
  let eMut_i := rowsOf Mut_i
  let eRowS_i := rowsOf RowS_i
  let eRowS_o := rowsOf RowS_o
  let lenI_Mut := @lenI Mut
  have hL : (⟨ar, cm, bo, sc, sa, sx, ss, sl, bs, sb, ln, sr, ap, up, rp, fr, ge, le, lt, nz, mm, ma, sm, fl, al, ci⟩ : Lf) = Ls := rfl
  show AC Try.prog 68 [.ag [.im false (eInt_c a0v_Schemav_Cols), .s (.int .i64 a0v_Version), .im false (eRowS_i a0v_Tables)], .v (.im false (eMut_i a1))] _ _
  refine AC.of_run2 tab_ok Try.func68 (by rfl) (by rfl) (by cbv) ⟨by decide, rfl⟩ fun F hP hA => ?_
  have hT : TabOk F.P tab := hP ▸ tab_ok
  have hM : F.P.follows .mixedOrders = true := hP ▸ mixed
  have hC : ∀ {f a o r}, AC Try.prog f a o r → AC F.P f a o r := fun h => hP ▸ h
  refine Run.seq ?_
  refine Run.region hL hT [] (by cbv) ?_ ?_
  · exact hq0
  refine Run.seq ?_
  refine Run.region hL hT [] (by cbv) ?_ ?_
  · exact hq0
  refine Run.seq ?_
  refine Run.seq ?_
  obtain ⟨r1, h_r1, h⟩ := bnd h
  refine Run.region hL hT [(1, .call [false] [.ag [.jk, .jk, .jk]] [.v (.s (.bool r1))])] (by cbv) ?_ ?_
  · exact (hq trivial (hq (hC (spec_StoreOk_ac h_r1)) hq0))
  refine Run.cond (by cbv) (hq0) (fun c2 => ?_) (fun c2 => ?_)
  · have h := if_t c2 h
    refine Run.seq ?_
    refine Run.region hL hT [] (by cbv) ?_ ?_
    · exact (hq trivial hq0)
    refine Run.ret ?_
    cases h
    refine ⟨_, _, by cbv, ?_, ?_⟩
    · exact LLe.r
    · exact (ALe.ag rfl (LLe.cons LLe.nilO (LLe.c (LLe.cons LLe.nilO LLe.nil))) (ALe.v LLe.r (ALe.v LLe.r ALe.nil)))
  · have h := if_f c2 h
    refine Run.skip ?_
    refine Run.seq ?_
    refine Run.seq ?_
    obtain ⟨r3, h_r3, h⟩ := bnd h
    refine Run.region hL hT [(2, .call [false, false, false] [.v (.jk), .v (.jk), .v (.jk)] [.v (.s (.bool r3))])] (by cbv) ?_ ?_
    · exact (hq (by rw [show ln (eMut_i a1) = lenI_Mut a1 from ln_eq Mut_i _]; exact (hC (spec_l1In_ac h_r3))) (hq (fun _ => hq0) (hq (fun g5 => (hq g5 (hq trivial hq0))) (hq (fun g6 => (hq g6 (hq trivial hq0))) (hq (fun _ => hq0) (hq (fun q8 => (hq (bo_m q8) hq0)) hq0))))))
    rw [show ln (eMut_i a1) = lenI_Mut a1 from ln_eq Mut_i _]
    refine Run.cond (by cbv) (hq0) (fun c9 => ?_) (fun c9 => ?_)
    · have h := if_t c9 h
      refine Run.seq ?_
      obtain ⟨⟨⟨r10v_Schemav_Cols⟩, r10v_Version, r10v_Tables⟩, h_r10, h⟩ := bnd h
      refine Run.region hL hT [(1, .call [false] [.ag [.jk, .jk, .jk]] [.ag [.ow 3 (eInt_c r10v_Schemav_Cols), .s (.int .i64 r10v_Version), .ow 72 (eRowS_o r10v_Tables)]])] (by cbv) ?_ ?_
      · exact (hq trivial (hq (hC (spec_l7Copy_ac h_r10)) (hq trivial hq0)))
      refine Run.ret ?_
      cases h
      refine ⟨_, _, by cbv, ?_, ?_⟩
      · exact LLe.r
      · exact (ALe.ag rfl LLe.r (ALe.v LLe.r (ALe.v LLe.r ALe.nil)))
    · have h := if_f c9 h
      refine Run.skip ?_
      refine Run.seq ?_
      obtain ⟨⟨⟨r11v_Schemav_Cols⟩, r11v_Version, r11v_Tables⟩, h_r11, h⟩ := bnd h
      refine Run.region hL hT [(1, .call [false] [.ag [.jk, .jk, .jk]] [.ag [.ow 3 (eInt_c r11v_Schemav_Cols), .s (.int .i64 r11v_Version), .ow 72 (eRowS_o r11v_Tables)]])] (by cbv) ?_ ?_
      · exact (hq trivial (hq (hC (spec_l7Copy_ac h_r11)) (hq trivial hq0)))
      refine Run.seq ?_
      refine Run.region hL hT [] (by cbv) ?_ ?_
      · exact hq0
      refine Run.seq ?_
      refine Run.seq ?_
      refine Run.region hL hT [] (by cbv) ?_ ?_
      · exact hq0
      refine Run.block ?_
      refine Run.loop5 (fun (z23 : List Int) (z24 : Int) (z25 : List (List Row)) (z26 : List Change) (z27 : Int) => ⟨67, 100000, [(1, .t (.im false (eMut_i a1))), (2, .pt 1 0 0), (4, .pt 2 0 0), (7, .rf 3), (8, .pt 4 0 0), (9, .rf 7), (10, .t (.s (.int .i64 z27)))], [(1, .box 29 [.t (.im false (eInt_c a0v_Schemav_Cols)), .t (.s (.int .i64 a0v_Version)), .t (.im false (eRowS_i a0v_Tables))]), (2, .box 29 [.t (.s (.slice none 0 0)), .t (.s (.int .i64 0)), .t (.s (.slice none 0 0))]), (3, .row 0 40 7 (eChange_o [])), (4, .box 29 [.rf 5, .t (.s (.int .i64 z24)), .rf 6]), (5, .row 0 3 1 (eInt_c z23)), (6, .row 0 72 1 (eRowS_o z25)), (7, .row 0 40 7 (eChange_o z26))]⟩) (x0 := r11v_Schemav_Cols) (x1 := r11v_Version) (x2 := r11v_Tables) (x3 := []) (x4 := 0) h (Weak.of _ [(1, 0), (2, 1), (3, 4096), (4, 16386), (5, 16385), (6, 16641), (7, 20480)] hA (by cbv) ?_) (fun _ _ _ _ _ => rfl) ?_
      · repeat (first | exact hq0 | refine hq (by first | exact True.intro | rfl) ?_)
      · intro k z23 z24 z25 z26 z27 h
        rw [spec_BatchDo.l0] at h
        refine Run.seq ?_
        refine Run.seq ?_
        refine Run.region hL hT [] (by cbv) ?_ ?_
        · exact (hq trivial hq0)
        rw [show ln (eMut_i a1) = lenI_Mut a1 from ln_eq Mut_i _]
        refine Run.cond (by cbv) (hq0) (fun c28 => ?_) (fun c28 => ?_)
        · have h := if_t c28 h
          refine Run.skip ?_
          refine Run.seq ?_
          refine Run.block ?_
          refine Run.seq ?_
          obtain ⟨⟨x29v_Kind, x29v_Table, ⟨x29v_Rowv_Id, x29v_Rowv_Cells⟩⟩, h_x29, h⟩ := bnd h
          obtain ⟨⟨⟨⟨r30v_1v_Schemav_Cols⟩, r30v_1v_Version, r30v_1v_Tables⟩, ⟨r30v_2v_1v_Table, r30v_2v_1v_Had, r30v_2v_1v_Has, ⟨r30v_2v_1v_Oldv_Id, r30v_2v_1v_Oldv_Cells⟩, ⟨r30v_2v_1v_Newv_Id, r30v_2v_1v_Newv_Cells⟩⟩, r30v_2v_2⟩, h_r30, h⟩ := bnd h
          refine Run.draw hL hT hM [(3, .el [.s (.int .i64 x29v_Kind), .s (.int .i64 x29v_Table), .s (.int .i64 x29v_Rowv_Id), .im false (eInt_c x29v_Rowv_Cells)]), (5, .call [false, false] [.ag [.jk, .jk, .jk], .ag [.jk, .jk, .jk, .jk]] [.ag [.ow 3 (eInt_c r30v_1v_Schemav_Cols), .s (.int .i64 r30v_1v_Version), .ow 72 (eRowS_o r30v_1v_Tables)], .ag [.s (.int .i64 r30v_2v_1v_Table), .s (.bool r30v_2v_1v_Had), .s (.bool r30v_2v_1v_Has), .s (.int .i64 r30v_2v_1v_Oldv_Id), .ow 3 (eInt_c r30v_2v_1v_Oldv_Cells), .s (.int .i64 r30v_2v_1v_Newv_Id), .ow 3 (eInt_c r30v_2v_1v_Newv_Cells)], .v (.s (.bool r30v_2v_2))])] (by cbv) (by cbv) (by cbv) (by cbv) (by cbv) ?_ ?_
          · exact (hq trivial (hq (get_le h_x29) (hq (get_lt (f := Mut_i) h_x29) (hq (get_ge (f := Mut_i) h_x29) (hq (hC (AC.args (spec_MutDo_ac h_r30) (ALe.ag rfl (LLe.cons (LLe.im (RLe.eq (fr_row Int_c_z _))) (LLe.c (LLe.cons (LLe.im (RLe.eq (fr_row RowS_o_z _))) LLe.nil))) (ALe.ag rfl LLe.r ALe.nil)))) (hq trivial (hq trivial hq0)))))))
          refine Run.seq ?_
          refine Run.seq ?_
          refine Run.region hL hT [] (by cbv) ?_ ?_
          · exact hq0
          refine Run.cond (by cbv) (hq0) (fun c31 => ?_) (fun c31 => ?_)
          · have h := if_t c31 h
            refine Run.seq ?_
            obtain ⟨⟨⟨r32v_Schemav_Cols⟩, r32v_Version, r32v_Tables⟩, h_r32, h⟩ := bnd h
            refine Run.region hL hT [(1, .call [false] [.ag [.jk, .jk, .jk]] [.ag [.ow 3 (eInt_c r32v_Schemav_Cols), .s (.int .i64 r32v_Version), .ow 72 (eRowS_o r32v_Tables)]])] (by cbv) ?_ ?_
            · exact (hq trivial (hq (hC (spec_l7Copy_ac h_r32)) (hq trivial hq0)))
            refine Run.ret ?_
            cases h
            refine ⟨_, _, by cbv, ?_, ?_⟩
            · exact LLe.r
            · exact (ALe.ag rfl LLe.r (ALe.v LLe.r (ALe.v LLe.r ALe.nil)))
          · have h := if_f c31 h
            refine Run.skip ?_
            refine Run.seq ?_
            refine Run.region hL hT [] (by cbv) ?_ ?_
            · exact (hq trivial (hq trivial hq0))
            obtain ⟨l33, h_l33, h⟩ := bnd h
            obtain ⟨l34, h_l34, h⟩ := bnd h
            refine Run.region hL hT [] (by cbv) ?_ ?_
            · exact (hq trivial (hq (app_mb (P := Try.prog) (f := Change_o) RLe.r (some_le (f := Change_o) h_l33 (RLe.cons rfl LLe.r RLe.nil)) h_l34) hq0))
            refine Run.row (rows := (ap (eChange_o z26) ([[.s (.int .i64 r30v_2v_1v_Table), .s (.bool r30v_2v_1v_Had), .s (.bool r30v_2v_1v_Has), .s (.int .i64 r30v_2v_1v_Oldv_Id), .ow 3 (eInt_c r30v_2v_1v_Oldv_Cells), .s (.int .i64 r30v_2v_1v_Newv_Id), .ow 3 (eInt_c r30v_2v_1v_Newv_Cells)]]))) 116387 (eChange_o l34) (by cbv) (app_le (f := Change_o) RLe.r (some_le (f := Change_o) h_l33 (RLe.cons rfl LLe.r RLe.nil)) h_l34) ?_
            refine Run.region hL hT [] (by cbv) ?_ ?_
            · exact (hq trivial hq0)
            refine ⟨r30v_1v_Schemav_Cols, r30v_1v_Version, r30v_1v_Tables, l34, (ar .add .i64 z27 1), h, Weak.of _ [(1, 1), (2, 2), (3, 3), (4, 4), (5, 104101), (6, 104357), (7, 116387)] hA (by cbv) ?_⟩
            repeat (first | exact hq0 | refine hq (by first | exact True.intro | rfl) ?_)
        · have h := if_f c28 h
          refine Run.exit ?_
          refine Run.seq ?_
          refine Run.region hL hT [] (by cbv) ?_ ?_
          · exact (hq trivial (hq trivial (hq trivial hq0)))
          refine Run.seq ?_
          refine Run.region hL hT [] (by cbv) ?_ ?_
          · exact (hq trivial (hq trivial hq0))
          refine Run.ret ?_
          cases h
          refine ⟨_, _, by cbv, ?_, ?_⟩
          · exact LLe.r
          · exact (ALe.ag rfl LLe.r (ALe.v LLe.r (ALe.v LLe.r ALe.nil)))

set_option maxRecDepth 8000 in
theorem spec_l1Once_ac {a0v_b : List Int} {a0v_i : Int} {a0v_h : Int} {a1 : Int} {r : l1Cur × Bool} (h : spec_l1Once.f (l1Cur.mk a0v_b a0v_i a0v_h) a1 = some r) : AC Try.prog 51 [.v (.bx 88 [.im true (rowsOf u8_c a0v_b), .s (.int .i64 a0v_i), .s (.int .i64 a0v_h)]), .v (.s (.int .i64 a1))] [.v (.bx 88 [.im true (rowsOf u8_c a0v_b), .s (.int .i64 r.1.i), .s (.int .i64 r.1.h)]), .v (.jk)] [.v (.s (.bool r.2))] := by
  unfold spec_l1Once.f at h
  let ar := Ls.ar; let cm := Ls.cm; let bo := Ls.bo; let sc := Ls.sc; let sa := Ls.sa; let sx := Ls.sx; let ss := Ls.ss; let sl := Ls.sl; let bs := Ls.bs; let sb := Ls.sb; let ln := Ls.ln; let sr := Ls.sr; let ap := Ls.ap; let up := Ls.up; let rp := Ls.rp; let fr := Ls.fr; let ge := Ls.ge; let le := Ls.le; let lt := Ls.lt; let nz := Ls.nz; let mm := Ls.mm; let ma := Ls.ma; let sm := Ls.sm; let fl := Ls.fl; let al := Ls.al; let ci := Ls.ci
  let eu8_c := rowsOf u8_c
  have hL : (⟨ar, cm, bo, sc, sa, sx, ss, sl, bs, sb, ln, sr, ap, up, rp, fr, ge, le, lt, nz, mm, ma, sm, fl, al, ci⟩ : Lf) = Ls := rfl
  show AC Try.prog 51 [.v (.bx 88 [.im true (eu8_c a0v_b), .s (.int .i64 a0v_i), .s (.int .i64 a0v_h)]), .v (.s (.int .i64 a1))] _ _
  refine AC.of_run2 tab_ok Try.func51 (by rfl) (by rfl) (by cbv) ⟨by decide, rfl⟩ fun F hP hA => ?_
  have hT : TabOk F.P tab := hP ▸ tab_ok
  have hM : F.P.follows .mixedOrders = true := hP ▸ mixed
  have hC : ∀ {f a o r}, AC Try.prog f a o r → AC F.P f a o r := fun h => hP ▸ h
  refine Run.seq ?_
  refine Run.region hL hT [] (by cbv) ?_ ?_
  · exact hq0
  refine Run.seq ?_
  obtain ⟨⟨⟨r1v_1v_b, r1v_1v_i, r1v_1v_h⟩, r1v_2⟩, h_r1, h⟩ := bnd h
  refine Run.region hL hT [(2, .call [true, false] [.v (.bx 88 [.im true (eu8_c a0v_b), .s (.int .i64 r1v_1v_i), .s (.int .i64 r1v_1v_h)]), .v (.jk)] [.v (.s (.int .i64 r1v_2))])] (by cbv) ?_ ?_
  · exact (hq (hC (spec_l1Below_ac h_r1)) (hq trivial hq0))
  refine Run.ret ?_
  cases h
  refine ⟨_, _, by cbv, ?_, ?_⟩
  · exact LLe.r
  · exact (ALe.v LLe.r ALe.nil)

set_option maxRecDepth 8000 in
theorem spec_l1PickInt_ac {a0v_b : List Int} {a0v_i : Int} {a0v_h : Int} {a1 : List Int} {r : l1Cur × Int} (h : spec_l1PickInt.f (l1Cur.mk a0v_b a0v_i a0v_h) a1 = some r) : AC Try.prog 66 [.v (.bx 88 [.im true (rowsOf u8_c a0v_b), .s (.int .i64 a0v_i), .s (.int .i64 a0v_h)]), .v (.im false (rowsOf Int_c a1))] [.v (.bx 88 [.im true (rowsOf u8_c a0v_b), .s (.int .i64 r.1.i), .s (.int .i64 r.1.h)]), .v (.jk)] [.v (.s (.int .i64 r.2))] := by
  unfold spec_l1PickInt.f at h
  let ar := Ls.ar; let cm := Ls.cm; let bo := Ls.bo; let sc := Ls.sc; let sa := Ls.sa; let sx := Ls.sx; let ss := Ls.ss; let sl := Ls.sl; let bs := Ls.bs; let sb := Ls.sb; let ln := Ls.ln; let sr := Ls.sr; let ap := Ls.ap; let up := Ls.up; let rp := Ls.rp; let fr := Ls.fr; let ge := Ls.ge; let le := Ls.le; let lt := Ls.lt; let nz := Ls.nz; let mm := Ls.mm; let ma := Ls.ma; let sm := Ls.sm; let fl := Ls.fl; let al := Ls.al; let ci := Ls.ci
  let eInt_c := rowsOf Int_c
  let eu8_c := rowsOf u8_c
  let lenI_Int := @lenI Int
  have hL : (⟨ar, cm, bo, sc, sa, sx, ss, sl, bs, sb, ln, sr, ap, up, rp, fr, ge, le, lt, nz, mm, ma, sm, fl, al, ci⟩ : Lf) = Ls := rfl
  show AC Try.prog 66 [.v (.bx 88 [.im true (eu8_c a0v_b), .s (.int .i64 a0v_i), .s (.int .i64 a0v_h)]), .v (.im false (eInt_c a1))] _ _
  refine AC.of_run2 tab_ok Try.func66 (by rfl) (by rfl) (by cbv) ⟨by decide, rfl⟩ fun F hP hA => ?_
  have hT : TabOk F.P tab := hP ▸ tab_ok
  have hM : F.P.follows .mixedOrders = true := hP ▸ mixed
  have hC : ∀ {f a o r}, AC Try.prog f a o r → AC F.P f a o r := fun h => hP ▸ h
  refine Run.seq ?_
  refine Run.region hL hT [] (by cbv) ?_ ?_
  · exact hq0
  refine Run.seq ?_
  obtain ⟨⟨⟨r1v_1v_b, r1v_1v_i, r1v_1v_h⟩, r1v_2⟩, h_r1, h⟩ := bnd h
  obtain ⟨x2, h_x2, h⟩ := bnd h
  refine Run.region hL hT [(4, .call [true, false] [.v (.bx 88 [.im true (eu8_c a0v_b), .s (.int .i64 r1v_1v_i), .s (.int .i64 r1v_1v_h)]), .v (.jk)] [.v (.s (.int .i64 r1v_2))]), (5, .el [.s (.int .i64 x2)])] (by cbv) ?_ ?_
  · exact (hq (by rw [show ln (eInt_c a1) = lenI_Int a1 from ln_eq Int_c _]; exact (hC (spec_l1Below_ac h_r1))) (hq (get_le h_x2) (hq (get_lt (f := Int_c) h_x2) (hq (get_ge (f := Int_c) h_x2) hq0))))
  rw [show ln (eInt_c a1) = lenI_Int a1 from ln_eq Int_c _]
  refine Run.ret ?_
  cases h
  refine ⟨_, _, by cbv, ?_, ?_⟩
  · exact LLe.r
  · exact (ALe.v LLe.r ALe.nil)

set_option maxRecDepth 8000 in
theorem spec_l6DrawRow_ac {a0v_b : List Int} {a0v_i : Int} {a0v_h : Int} {a1 : Int} {r : l1Cur × Row} (h : spec_l6DrawRow.f (l1Cur.mk a0v_b a0v_i a0v_h) a1 = some r) : AC Try.prog 67 [.v (.bx 88 [.im true (rowsOf u8_c a0v_b), .s (.int .i64 a0v_i), .s (.int .i64 a0v_h)]), .v (.s (.int .i64 a1))] [.v (.bx 88 [.im true (rowsOf u8_c a0v_b), .s (.int .i64 r.1.i), .s (.int .i64 r.1.h)]), .v (.jk)] [.ag [.s (.int .i64 r.2.Id), .ow 3 (rowsOf Int_c r.2.Cells)]] := by
  unfold spec_l6DrawRow.f at h
  let ar := Ls.ar; let cm := Ls.cm; let bo := Ls.bo; let sc := Ls.sc; let sa := Ls.sa; let sx := Ls.sx; let ss := Ls.ss; let sl := Ls.sl; let bs := Ls.bs; let sb := Ls.sb; let ln := Ls.ln; let sr := Ls.sr; let ap := Ls.ap; let up := Ls.up; let rp := Ls.rp; let fr := Ls.fr; let ge := Ls.ge; let le := Ls.le; let lt := Ls.lt; let nz := Ls.nz; let mm := Ls.mm; let ma := Ls.ma; let sm := Ls.sm; let fl := Ls.fl; let al := Ls.al; let ci := Ls.ci
  let eInt_c := rowsOf Int_c
  let eu8_c := rowsOf u8_c
  have hL : (⟨ar, cm, bo, sc, sa, sx, ss, sl, bs, sb, ln, sr, ap, up, rp, fr, ge, le, lt, nz, mm, ma, sm, fl, al, ci⟩ : Lf) = Ls := rfl
  show AC Try.prog 67 [.v (.bx 88 [.im true (eu8_c a0v_b), .s (.int .i64 a0v_i), .s (.int .i64 a0v_h)]), .v (.s (.int .i64 a1))] _ _
  refine AC.of_run2 tab_ok Try.func67 (by rfl) (by rfl) (by cbv) ⟨by decide, rfl⟩ fun F hP hA => ?_
  have hT : TabOk F.P tab := hP ▸ tab_ok
  have hM : F.P.follows .mixedOrders = true := hP ▸ mixed
  have hC : ∀ {f a o r}, AC Try.prog f a o r → AC F.P f a o r := fun h => hP ▸ h
  refine Run.seq ?_
  refine Run.region hL hT [] (by cbv) ?_ ?_
  · exact hq0
  refine Run.seq ?_
  obtain ⟨⟨⟨r1v_1v_b, r1v_1v_i, r1v_1v_h⟩, r1v_2⟩, h_r1, h⟩ := bnd h
  refine Run.region hL hT [(1, .call [true, false] [.v (.bx 88 [.im true (eu8_c a0v_b), .s (.int .i64 r1v_1v_i), .s (.int .i64 r1v_1v_h)]), .v (.jk)] [.v (.s (.int .i64 r1v_2))])] (by cbv) ?_ ?_
  · exact (hq (hC (spec_l1Below_ac h_r1)) (hq trivial (hq trivial hq0)))
  refine Run.seq ?_
  refine Run.seq ?_
  refine Run.region hL hT [] (by cbv) ?_ ?_
  · exact hq0
  refine Run.block ?_
  refine Run.loop5 (fun (z17 : Int) (z18 : Int) (z19 : Int) (z20 : List Int) (z21 : Int) => ⟨24, 100000, [(0, .pt 0 0 0), (1, .t (.s (.int .i64 a1))), (4, .pt 1 0 0), (5, .pt 2 0 0), (6, .t (.s (.int .i64 z21)))], [(0, .box 88 [.t (.im true (eu8_c a0v_b)), .t (.s (.int .i64 z17)), .t (.s (.int .i64 z18))]), (1, .box 38 [.t (.s (.int .i64 0)), .t (.s (.slice none 0 0))]), (2, .box 38 [.t (.s (.int .i64 z19)), .rf 3]), (3, .row 0 3 1 (eInt_c z20))]⟩) (x0 := r1v_1v_i) (x1 := r1v_1v_h) (x2 := (ar .add .i64 1 r1v_2)) (x3 := []) (x4 := 0) h ((Weak.nilB (l := [.t (.s (.int .i64 (ar .add .i64 1 r1v_2)))]) hT 4101 1 13289 3 rfl (by cbv) (by cbv) (by cbv)).trans (Weak.of _ [(0, 0), (1, 1), (2, 4101), (3, 13289)] hA (by cbv) ?_)) (fun _ _ _ _ _ => rfl) ?_
  · repeat (first | exact hq0 | refine hq (by first | exact True.intro | rfl) ?_)
  · intro k z17 z18 z19 z20 z21 h
    rw [spec_l6DrawRow.l0] at h
    refine Run.seq ?_
    refine Run.seq ?_
    refine Run.region hL hT [] (by cbv) ?_ ?_
    · exact (hq trivial hq0)
    refine Run.cond (by cbv) (hq0) (fun c22 => ?_) (fun c22 => ?_)
    · have h := if_t c22 h
      refine Run.skip ?_
      refine Run.seq ?_
      refine Run.block ?_
      obtain ⟨⟨⟨r23v_1v_b, r23v_1v_i, r23v_1v_h⟩, r23v_2⟩, h_r23, h⟩ := bnd h
      obtain ⟨l24, h_l24, h⟩ := bnd h
      obtain ⟨l25, h_l25, h⟩ := bnd h
      refine Run.draw hL hT hM [(3, .call [true, false] [.v (.bx 88 [.im true (eu8_c a0v_b), .s (.int .i64 r23v_1v_i), .s (.int .i64 r23v_1v_h)]), .v (.jk)] [.v (.s (.int .i64 r23v_2))])] (by cbv) (by cbv) (by cbv) (by cbv) (by cbv) ?_ ?_
      · exact (hq trivial (hq (hC (spec_l1Below_ac h_r23)) (hq (app_mb (P := Try.prog) (f := Int_c) RLe.r (some_le (f := Int_c) h_l24 (RLe.cons rfl LLe.r RLe.nil)) h_l25) (hq trivial hq0))))
      refine Run.row (rows := (ap (eInt_c z20) ([[.s (.int .i64 r23v_2)]]))) 104101 (eInt_c l25) (by cbv) (app_le (f := Int_c) RLe.r (some_le (f := Int_c) h_l24 (RLe.cons rfl LLe.r RLe.nil)) h_l25) ?_
      refine Run.region hL hT [] (by cbv) ?_ ?_
      · exact (hq trivial hq0)
      refine ⟨r23v_1v_i, r23v_1v_h, z19, l25, (ar .add .i64 z21 1), h, Weak.of _ [(0, 0), (1, 1), (2, 2), (3, 104101)] hA (by cbv) ?_⟩
      repeat (first | exact hq0 | refine hq (by first | exact True.intro | rfl) ?_)
    · have h := if_f c22 h
      refine Run.exit ?_
      refine Run.seq ?_
      refine Run.region hL hT [] (by cbv) ?_ ?_
      · exact (hq trivial (hq trivial hq0))
      refine Run.ret ?_
      cases h
      refine ⟨_, _, by cbv, ?_, ?_⟩
      · exact LLe.r
      · exact (ALe.ag rfl LLe.r ALe.nil)

set_option maxRecDepth 8000 in
theorem spec_l1Max_ac {a0 : Int} {a1 : Int} {r : Int} (h : spec_l1Max.f a0 a1 = some r) : AC Try.prog 86 [.v (.s (.int .i64 a0)), .v (.s (.int .i64 a1))] [.v (.jk), .v (.jk)] [.v (.s (.int .i64 r))] := by
  unfold spec_l1Max.f at h
  let ar := Ls.ar; let cm := Ls.cm; let bo := Ls.bo; let sc := Ls.sc; let sa := Ls.sa; let sx := Ls.sx; let ss := Ls.ss; let sl := Ls.sl; let bs := Ls.bs; let sb := Ls.sb; let ln := Ls.ln; let sr := Ls.sr; let ap := Ls.ap; let up := Ls.up; let rp := Ls.rp; let fr := Ls.fr; let ge := Ls.ge; let le := Ls.le; let lt := Ls.lt; let nz := Ls.nz; let mm := Ls.mm; let ma := Ls.ma; let sm := Ls.sm; let fl := Ls.fl; let al := Ls.al; let ci := Ls.ci
  have hL : (⟨ar, cm, bo, sc, sa, sx, ss, sl, bs, sb, ln, sr, ap, up, rp, fr, ge, le, lt, nz, mm, ma, sm, fl, al, ci⟩ : Lf) = Ls := rfl
  show AC Try.prog 86 [.v (.s (.int .i64 a0)), .v (.s (.int .i64 a1))] _ _
  refine AC.of_run2 tab_ok Try.func86 (by rfl) (by rfl) (by cbv) ⟨by decide, rfl⟩ fun F hP hA => ?_
  have hT : TabOk F.P tab := hP ▸ tab_ok
  have hM : F.P.follows .mixedOrders = true := hP ▸ mixed
  have hC : ∀ {f a o r}, AC Try.prog f a o r → AC F.P f a o r := fun h => hP ▸ h
  refine Run.seq ?_
  refine Run.region hL hT [] (by cbv) ?_ ?_
  · exact hq0
  refine Run.seq ?_
  refine Run.seq ?_
  refine Run.region hL hT [] (by cbv) ?_ ?_
  · exact (hq trivial hq0)
  refine Run.cond (by cbv) (hq0) (fun c1 => ?_) (fun c1 => ?_)
  · have h := if_t c1 h
    refine Run.seq ?_
    refine Run.region hL hT [] (by cbv) ?_ ?_
    · exact hq0
    refine Run.ret ?_
    cases h
    refine ⟨_, _, by cbv, ?_, ?_⟩
    · exact LLe.r
    · exact (ALe.v LLe.r ALe.nil)
  · have h := if_f c1 h
    refine Run.skip ?_
    refine Run.seq ?_
    refine Run.region hL hT [] (by cbv) ?_ ?_
    · exact hq0
    refine Run.ret ?_
    cases h
    refine ⟨_, _, by cbv, ?_, ?_⟩
    · exact LLe.r
    · exact (ALe.v LLe.r ALe.nil)

set_option maxRecDepth 8000 in
theorem spec_l7DrawMut_ac {a0v_b : List Int} {a0v_i : Int} {a0v_h : Int} {a1v_Schemav_Cols : List Int} {a1v_Version : Int} {a1v_Tables : List (List Row)} {r : l1Cur × Mut} (h : spec_l7DrawMut.f (l1Cur.mk a0v_b a0v_i a0v_h) (Store.mk (Schema.mk a1v_Schemav_Cols) a1v_Version a1v_Tables) = some r) : AC Try.prog 50 [.v (.bx 88 [.im true (rowsOf u8_c a0v_b), .s (.int .i64 a0v_i), .s (.int .i64 a0v_h)]), .ag [.im false (rowsOf Int_c a1v_Schemav_Cols), .s (.int .i64 a1v_Version), .im false (rowsOf RowS_i a1v_Tables)]] [.v (.bx 88 [.im true (rowsOf u8_c a0v_b), .s (.int .i64 r.1.i), .s (.int .i64 r.1.h)]), .ag [.jk, .jk, .jk]] [.ag [.s (.int .i64 r.2.Kind), .s (.int .i64 r.2.Table), .s (.int .i64 r.2.Row.Id), .ow 3 (rowsOf Int_c r.2.Row.Cells)]] := by
  unfold spec_l7DrawMut.f at h
  let ar := Ls.ar; let cm := Ls.cm; let bo := Ls.bo; let sc := Ls.sc; let sa := Ls.sa; let sx := Ls.sx; let ss := Ls.ss; let sl := Ls.sl; let bs := Ls.bs; let sb := Ls.sb; let ln := Ls.ln; let sr := Ls.sr; let ap := Ls.ap; let up := Ls.up; let rp := Ls.rp; let fr := Ls.fr; let ge := Ls.ge; let le := Ls.le; let lt := Ls.lt; let nz := Ls.nz; let mm := Ls.mm; let ma := Ls.ma; let sm := Ls.sm; let fl := Ls.fl; let al := Ls.al; let ci := Ls.ci
  let eInt_c := rowsOf Int_c
  let eRowS_i := rowsOf RowS_i
  let eRow_i := rowsOf Row_i
  let eu8_c := rowsOf u8_c
  let lenI_Int := @lenI Int
  let lenI_Row := @lenI Row
  let lenI_RowS := @lenI (List Row)
  have hL : (⟨ar, cm, bo, sc, sa, sx, ss, sl, bs, sb, ln, sr, ap, up, rp, fr, ge, le, lt, nz, mm, ma, sm, fl, al, ci⟩ : Lf) = Ls := rfl
  show AC Try.prog 50 [.v (.bx 88 [.im true (eu8_c a0v_b), .s (.int .i64 a0v_i), .s (.int .i64 a0v_h)]), .ag [.im false (eInt_c a1v_Schemav_Cols), .s (.int .i64 a1v_Version), .im false (eRowS_i a1v_Tables)]] _ _
  refine AC.of_run2 tab_ok Try.func50 (by rfl) (by rfl) (by cbv) ⟨by decide, rfl⟩ fun F hP hA => ?_
  have hT : TabOk F.P tab := hP ▸ tab_ok
  have hM : F.P.follows .mixedOrders = true := hP ▸ mixed
  have hC : ∀ {f a o r}, AC Try.prog f a o r → AC F.P f a o r := fun h => hP ▸ h
  refine Run.seq ?_
  refine Run.region hL hT [] (by cbv) ?_ ?_
  · exact hq0
  refine Run.seq ?_
  obtain ⟨r1, h_r1, h⟩ := bnd h
  obtain ⟨⟨⟨r2v_1v_b, r2v_1v_i, r2v_1v_h⟩, r2v_2⟩, h_r2, h⟩ := bnd h
  refine Run.region hL hT [(4, .call [false, false] [.v (.jk), .v (.jk)] [.v (.s (.int .i64 r1))]), (5, .call [true, false] [.v (.bx 88 [.im true (eu8_c a0v_b), .s (.int .i64 r2v_1v_i), .s (.int .i64 r2v_1v_h)]), .v (.jk)] [.v (.s (.int .i64 r2v_2))])] (by cbv) ?_ ?_
  · exact (hq trivial (hq (by rw [show ln (eRowS_i a1v_Tables) = lenI_RowS a1v_Tables from ln_eq RowS_i _]; exact (hC (spec_l1Max_ac h_r1))) (hq (hC (spec_l1Below_ac h_r2)) hq0)))
  rw [show ln (eRowS_i a1v_Tables) = lenI_RowS a1v_Tables from ln_eq RowS_i _]
  refine Run.seq ?_
  refine Run.seq ?_
  refine Run.region hL hT [] (by cbv) ?_ ?_
  · exact (hq trivial (hq trivial (hq (fun _ => hq0) (hq (fun _ => hq0) (hq (fun g5 => (by have g5C := g5; rw [show ln (eRowS_i a1v_Tables) = lenI_RowS a1v_Tables from ln_eq RowS_i _] at g5C; exact (hq g5 hq0))) (hq (fun g6 => (by have g6C := g6; rw [show ln (eRowS_i a1v_Tables) = lenI_RowS a1v_Tables from ln_eq RowS_i _] at g6C; exact (hq g6 (hq trivial hq0)))) (hq (fun g7 => (by have g7C := g7; rw [show ln (eRowS_i a1v_Tables) = lenI_RowS a1v_Tables from ln_eq RowS_i _] at g7C; exact (hq g7 hq0))) (hq (fun g8 => (by have g8C := g8; rw [show ln (eRowS_i a1v_Tables) = lenI_RowS a1v_Tables from ln_eq RowS_i _] at g8C; exact (hq g8 (hq g8 (hq trivial hq0))))) (hq (fun _ => hq0) (hq (fun q10 => (by have q10C := q10; rw [show ln (eRowS_i a1v_Tables) = lenI_RowS a1v_Tables from ln_eq RowS_i _] at q10C; exact (hq (bo_m q10) hq0))) hq0))))))))))
  rw [show ln (eInt_c a1v_Schemav_Cols) = lenI_Int a1v_Schemav_Cols from ln_eq Int_c _]
  rw [show ln (eRowS_i a1v_Tables) = lenI_RowS a1v_Tables from ln_eq RowS_i _]
  refine Run.cond (by cbv) (hq0) (fun c11 => ?_) (fun c11 => ?_)
  · have h := if_t c11 h
    refine Run.seq ?_
    refine Run.region hL hT [] (by cbv) ?_ ?_
    · exact (hq trivial hq0)
    refine Run.ret ?_
    cases h
    refine ⟨_, _, by cbv, ?_, ?_⟩
    · exact LLe.r
    · exact (ALe.ag rfl (LLe.c (LLe.c (LLe.c (LLe.cons LLe.nilO LLe.nil)))) ALe.nil)
  · have h := if_f c11 h
    refine Run.skip ?_
    refine Run.seq ?_
    obtain ⟨⟨⟨r12v_1v_b, r12v_1v_i, r12v_1v_h⟩, r12v_2⟩, h_r12, h⟩ := bnd h
    obtain ⟨x13, h_x13, h⟩ := bnd h
    obtain ⟨⟨⟨r14v_1v_b, r14v_1v_i, r14v_1v_h⟩, ⟨r14v_2v_Id, r14v_2v_Cells⟩⟩, h_r14, h⟩ := bnd h
    refine Run.draw hL hT hM [(1, .call [true, false] [.v (.bx 88 [.im true (eu8_c a0v_b), .s (.int .i64 r12v_1v_i), .s (.int .i64 r12v_1v_h)]), .v (.jk)] [.v (.s (.int .i64 r12v_2))]), (9, .el [.s (.int .i64 x13)]), (11, .call [true, false] [.v (.bx 88 [.im true (eu8_c a0v_b), .s (.int .i64 r14v_1v_i), .s (.int .i64 r14v_1v_h)]), .v (.jk)] [.ag [.s (.int .i64 r14v_2v_Id), .ow 3 (eInt_c r14v_2v_Cells)]])] (by cbv) (by cbv) (by cbv) (by cbv) (by cbv) ?_ ?_
    · exact (hq (hC (spec_l1Below_ac h_r12)) (hq trivial (hq trivial (hq (get_le h_x13) (hq (get_lt (f := Int_c) h_x13) (hq (get_ge (f := Int_c) h_x13) (hq (hC (spec_l6DrawRow_ac h_r14)) (hq trivial hq0))))))))
    obtain ⟨K19, h_K19, h⟩ := joinE h
    refine Run.join4 K19 (r := r) (fun (y15 : Int) (y16 : Int) (y17 : Int) (y18 : Int) => ⟨102, 100000, [(0, .pt 0 0 0), (4, .pt 1 0 0), (6, .pt 2 0 0)], [(0, .box 88 [.t (.im true (eu8_c a0v_b)), .t (.s (.int .i64 y15)), .t (.s (.int .i64 y16))]), (1, .box 78 [.t (.s (.int .i64 0)), .t (.s (.int .i64 0)), .t (.s (.int .i64 0)), .t (.s (.slice none 0 0))]), (2, .box 78 [.t (.s (.int .i64 y17)), .t (.s (.int .i64 r2v_2)), .t (.s (.int .i64 y18)), .rf 3]), (3, .row 0 3 1 (eInt_c r14v_2v_Cells))]⟩) ?_ ?_
    · skip
      refine Run.seq ?_
      obtain ⟨x20, h_x20, h⟩ := bnd h
      obtain ⟨⟨⟨r21v_1v_b, r21v_1v_i, r21v_1v_h⟩, r21v_2⟩, h_r21, h⟩ := bnd h
      refine Run.region hL hT [(7, .el [.im false (eRow_i x20)]), (14, .call [true, false] [.v (.bx 88 [.im true (eu8_c a0v_b), .s (.int .i64 r21v_1v_i), .s (.int .i64 r21v_1v_h)]), .v (.jk)] [.v (.s (.bool r21v_2))])] (by cbv) ?_ ?_
      · exact (hq trivial (hq trivial (hq (fun _ => hq0) (hq (fun g23 => (hq g23 (hq trivial hq0))) (hq (fun _ => hq0) (hq (fun g25 => (hq g25 (hq g25 (hq (get_le (gd_t h_x20 g25)) (hq (get_lt (f := RowS_i) (gd_t h_x20 g25)) (hq (get_ge (f := RowS_i) (gd_t h_x20 g25)) hq0)))))) (hq (fun g26 => (hq g26 hq0)) (hq (fun g27 => (hq g27 hq0)) (hq (fun g28 => (hq g28 (hq trivial hq0))) (hq (fun q29 => (hq q29 hq0)) (hq (fun _ => hq0) (hq (fun _ => hq0) (hq (fun g32 => (by have g32C := g32; rw [show ln (eRow_i x20) = lenI_Row x20 from ln_eq Row_i _] at g32C; exact (hq g32 (hq (hC (spec_l1Once_ac (gd_t h_r21 g32C))) hq0)))) (hq trivial (hq trivial (hq trivial (hq (fun g33 => (by have g33C := g33; rw [show ln (eRow_i x20) = lenI_Row x20 from ln_eq Row_i _] at g33C; exact (hq g33 hq0))) (hq (fun q34 => (by have q34C := q34; rw [show ln (eRow_i x20) = lenI_Row x20 from ln_eq Row_i _] at q34C; exact (hq q34 hq0))) (hq (fun _ => hq0) hq0)))))))))))))))))))
      rw [show ln (eRow_i x20) = lenI_Row x20 from ln_eq Row_i _]
      refine Run.cond (by cbv) (hq0) (fun c36 => ?_) (fun c36 => ?_)
      · have h := if_t c36 h
        obtain ⟨x37, h_x37, h⟩ := bnd h
        obtain ⟨⟨⟨r38v_1v_b, r38v_1v_i, r38v_1v_h⟩, r38v_2⟩, h_r38, h⟩ := bnd h
        obtain ⟨⟨x39v_Id, x39v_Cells⟩, h_x39, h⟩ := bnd h
        refine Run.draw hL hT hM [(3, .el [.im false (eRow_i x37)]), (9, .el [.im false (eRow_i x37)]), (12, .call [true, false] [.v (.bx 88 [.im true (eu8_c a0v_b), .s (.int .i64 r38v_1v_i), .s (.int .i64 r38v_1v_h)]), .v (.jk)] [.v (.s (.int .i64 r38v_2))]), (13, .el [.s (.int .i64 x39v_Id), .im false (eInt_c x39v_Cells)])] (by cbv) (by cbv) (by cbv) (by cbv) (by cbv) ?_ ?_
        · exact (hq trivial (hq (get_le h_x37) (hq (get_lt (f := RowS_i) h_x37) (hq (get_ge (f := RowS_i) h_x37) (hq trivial (hq (get_le h_x37) (hq (get_lt (f := RowS_i) h_x37) (hq (get_ge (f := RowS_i) h_x37) (hq (by rw [show ln (eRow_i x37) = lenI_Row x37 from ln_eq Row_i _]; exact (hC (spec_l1Below_ac h_r38))) (hq (get_le h_x39) (hq (get_lt (f := Row_i) h_x39) (hq (get_ge (f := Row_i) h_x39) (hq trivial hq0)))))))))))))
        rw [show ln (eRow_i x37) = lenI_Row x37 from ln_eq Row_i _]
        refine ⟨r38v_1v_i, r38v_1v_h, (ar .add .i64 1 r12v_2), x39v_Id, h, Weak.of _ [(0, 0), (1, 2), (2, 12302), (3, 12300)] hA (by cbv) ?_⟩
        repeat (first | exact hq0 | refine hq (by first | exact True.intro | rfl) ?_)
      · have h := if_f c36 h
        refine Run.skip ?_
        refine ⟨(ci (bo (cm .neq (ar .add .i64 1 r12v_2) 1) (cm .gtr (lenI_Row x20) 0) false) r21v_1v_i r14v_1v_i), (ci (bo (cm .neq (ar .add .i64 1 r12v_2) 1) (cm .gtr (lenI_Row x20) 0) false) r21v_1v_h r14v_1v_h), (ar .add .i64 1 r12v_2), r14v_2v_Id, h, Weak.of _ [(0, 0), (1, 2), (2, 12302), (3, 12300)] hA (by cbv) ?_⟩
        repeat (first | exact hq0 | refine hq (by first | exact True.intro | rfl) ?_)
    · intro y15 y16 y17 y18 h
      rw [h_K19] at h
      obtain ⟨K41, h_K41, h⟩ := joinE h
      refine Run.join1 K41 (r := r) (fun (y40 : List Int) => ⟨102, 100000, [(0, .pt 0 0 0), (4, .pt 1 0 0), (6, .pt 2 0 0)], [(0, .box 88 [.t (.im true (eu8_c a0v_b)), .t (.s (.int .i64 y15)), .t (.s (.int .i64 y16))]), (1, .box 78 [.t (.s (.int .i64 0)), .t (.s (.int .i64 0)), .t (.s (.int .i64 0)), .t (.s (.slice none 0 0))]), (2, .box 78 [.t (.s (.int .i64 y17)), .t (.s (.int .i64 r2v_2)), .t (.s (.int .i64 y18)), .rf 3]), (3, .row 0 3 1 (eInt_c y40))]⟩) ?_ ?_
      · skip
        refine Run.seq ?_
        refine Run.region hL hT [] (by cbv) ?_ ?_
        · exact (hq trivial (hq trivial hq0))
        refine Run.cond (by cbv) (hq0) (fun c42 => ?_) (fun c42 => ?_)
        · have h := if_t c42 h
          refine Run.region hL hT [] (by cbv) ?_ ?_
          · exact (hq trivial hq0)
          refine ⟨[], h, (Weak.nilB (l := [.t (.s (.int .i64 y17)), .t (.s (.int .i64 r2v_2)), .t (.s (.int .i64 y18))]) hT 2 3 109192 3 rfl (by cbv) (by cbv) (by cbv)).trans (Weak.of _ [(0, 0), (1, 1), (2, 2), (3, 109192)] hA (by cbv) ?_)⟩
          repeat (first | exact hq0 | refine hq (by first | exact True.intro | rfl) ?_)
        · have h := if_f c42 h
          refine Run.skip ?_
          refine ⟨r14v_2v_Cells, h, Weak.of _ [(0, 0), (1, 1), (2, 2), (3, 3)] hA (by cbv) ?_⟩
          repeat (first | exact hq0 | refine hq (by first | exact True.intro | rfl) ?_)
      · intro y40 h
        rw [h_K41] at h
        refine Run.seq ?_
        refine Run.seq ?_
        obtain ⟨⟨⟨r43v_1v_b, r43v_1v_i, r43v_1v_h⟩, r43v_2⟩, h_r43, h⟩ := bnd h
        refine Run.region hL hT [(1, .call [true, false] [.v (.bx 88 [.im true (eu8_c a0v_b), .s (.int .i64 r43v_1v_i), .s (.int .i64 r43v_1v_h)]), .v (.jk)] [.v (.s (.int .i64 r43v_2))])] (by cbv) ?_ ?_
        · exact (hq (hC (spec_l1Below_ac h_r43)) hq0)
        refine Run.block ?_
        refine Run.seq ?_
        refine Run.region hL hT [] (by cbv) ?_ ?_
        · exact (hq trivial hq0)
        refine Run.cond (by cbv) (hq0) (fun c44 => ?_) (fun c44 => ?_)
        · have h := if_t c44 h
          obtain ⟨⟨⟨r45v_1v_b, r45v_1v_i, r45v_1v_h⟩, r45v_2⟩, h_r45, h⟩ := bnd h
          refine Run.region hL hT [(1, .call [true, false] [.v (.bx 88 [.im true (eu8_c a0v_b), .s (.int .i64 r45v_1v_i), .s (.int .i64 r45v_1v_h)]), .v (.jk)] [.v (.s (.int .i64 r45v_2))])] (by cbv) ?_ ?_
          · exact (hq (hC (spec_l1Below_ac h_r45)) (hq trivial hq0))
          refine Run.seq ?_
          refine Run.region hL hT [] (by cbv) ?_ ?_
          · exact (hq trivial (hq trivial hq0))
          refine Run.ret ?_
          cases h
          refine ⟨_, _, by cbv, ?_, ?_⟩
          · exact LLe.r
          · exact (ALe.ag rfl LLe.r ALe.nil)
        · have h := if_f c44 h
          refine Run.seq ?_
          refine Run.region hL hT [] (by cbv) ?_ ?_
          · exact (hq trivial hq0)
          refine Run.cond (by cbv) (hq0) (fun c46 => ?_) (fun c46 => ?_)
          · have h := if_t c46 h
            obtain ⟨⟨⟨r47v_1v_b, r47v_1v_i, r47v_1v_h⟩, r47v_2⟩, h_r47, h⟩ := bnd h
            refine Run.region hL hT [(1, .call [true, false] [.v (.bx 88 [.im true (eu8_c a0v_b), .s (.int .i64 r47v_1v_i), .s (.int .i64 r47v_1v_h)]), .v (.jk)] [.v (.s (.int .i64 r47v_2))])] (by cbv) ?_ ?_
            · exact (hq (hC (spec_l1Below_ac h_r47)) (hq trivial (hq trivial hq0)))
            refine Run.seq ?_
            refine Run.region hL hT [] (by cbv) ?_ ?_
            · exact (hq trivial (hq trivial hq0))
            refine Run.ret ?_
            cases h
            refine ⟨_, _, by cbv, ?_, ?_⟩
            · exact LLe.r
            · exact (ALe.ag rfl LLe.r ALe.nil)
          · have h := if_f c46 h
            refine Run.seq ?_
            refine Run.region hL hT [] (by cbv) ?_ ?_
            · exact (hq trivial hq0)
            refine Run.cond (by cbv) (hq0) (fun c48 => ?_) (fun c48 => ?_)
            · have h := if_t c48 h
              obtain ⟨l49, h_l49, h⟩ := bnd h
              obtain ⟨⟨⟨r50v_1v_b, r50v_1v_i, r50v_1v_h⟩, r50v_2⟩, h_r50, h⟩ := bnd h
              refine Run.region hL hT [(2, .call [true, false] [.v (.bx 88 [.im true (eu8_c a0v_b), .s (.int .i64 r50v_1v_i), .s (.int .i64 r50v_1v_h)]), .v (.jk)] [.v (.s (.int .i64 r50v_2))])] (by cbv) ?_ ?_
              · exact (hq (hC (AC.args (spec_l1PickInt_ac h_r50) (ALe.v LLe.r (ALe.v (fr_lit rfl (some_le (f := Int_c) h_l49 (RLe.cons rfl LLe.r (RLe.cons rfl LLe.r (RLe.cons rfl LLe.r RLe.nil))))) ALe.nil)))) (hq trivial hq0))
              refine Run.row (rows := [[.s (.int .i64 0)], [.s (.int .i64 999)], [.s (.int .i64 1000)]]) 116385 (eInt_c l49) (by cbv) (some_le (f := Int_c) h_l49 (RLe.cons rfl LLe.r (RLe.cons rfl LLe.r (RLe.cons rfl LLe.r RLe.nil)))) ?_
              refine Run.seq ?_
              refine Run.region hL hT [] (by cbv) ?_ ?_
              · exact (hq trivial (hq trivial hq0))
              refine Run.ret ?_
              cases h
              refine ⟨_, _, by cbv, ?_, ?_⟩
              · exact LLe.r
              · exact (ALe.ag rfl LLe.r ALe.nil)
            · have h := if_f c48 h
              refine Run.skip ?_
              refine Run.seq ?_
              refine Run.region hL hT [] (by cbv) ?_ ?_
              · exact (hq trivial (hq trivial hq0))
              refine Run.ret ?_
              cases h
              refine ⟨_, _, by cbv, ?_, ?_⟩
              · exact LLe.r
              · exact (ALe.ag rfl LLe.r ALe.nil)

set_option maxRecDepth 8000 in
theorem spec_l7DrawBatch_ac {a0v_b : List Int} {a0v_i : Int} {a0v_h : Int} {a1v_Schemav_Cols : List Int} {a1v_Version : Int} {a1v_Tables : List (List Row)} {r : l1Cur × (List Mut)} (h : spec_l7DrawBatch.f (l1Cur.mk a0v_b a0v_i a0v_h) (Store.mk (Schema.mk a1v_Schemav_Cols) a1v_Version a1v_Tables) = some r) : AC Try.prog 69 [.v (.bx 88 [.im true (rowsOf u8_c a0v_b), .s (.int .i64 a0v_i), .s (.int .i64 a0v_h)]), .ag [.im false (rowsOf Int_c a1v_Schemav_Cols), .s (.int .i64 a1v_Version), .im false (rowsOf RowS_i a1v_Tables)]] [.v (.bx 88 [.im true (rowsOf u8_c a0v_b), .s (.int .i64 r.1.i), .s (.int .i64 r.1.h)]), .ag [.jk, .jk, .jk]] [.v (.ow 78 (rowsOf Mut_o r.2))] := by
  unfold spec_l7DrawBatch.f at h
  let ar := Ls.ar; let cm := Ls.cm; let bo := Ls.bo; let sc := Ls.sc; let sa := Ls.sa; let sx := Ls.sx; let ss := Ls.ss; let sl := Ls.sl; let bs := Ls.bs; let sb := Ls.sb; let ln := Ls.ln; let sr := Ls.sr; let ap := Ls.ap; let up := Ls.up; let rp := Ls.rp; let fr := Ls.fr; let ge := Ls.ge; let le := Ls.le; let lt := Ls.lt; let nz := Ls.nz; let mm := Ls.mm; let ma := Ls.ma; let sm := Ls.sm; let fl := Ls.fl; let al := Ls.al; let ci := Ls.ci
  let eInt_c := rowsOf Int_c
  let eMut_o := rowsOf Mut_o
  let eRowS_i := rowsOf RowS_i
  let eRowS_o := rowsOf RowS_o
  let eu8_c := rowsOf u8_c
  have hL : (⟨ar, cm, bo, sc, sa, sx, ss, sl, bs, sb, ln, sr, ap, up, rp, fr, ge, le, lt, nz, mm, ma, sm, fl, al, ci⟩ : Lf) = Ls := rfl
  show AC Try.prog 69 [.v (.bx 88 [.im true (eu8_c a0v_b), .s (.int .i64 a0v_i), .s (.int .i64 a0v_h)]), .ag [.im false (eInt_c a1v_Schemav_Cols), .s (.int .i64 a1v_Version), .im false (eRowS_i a1v_Tables)]] _ _
  refine AC.of_run2 tab_ok Try.func69 (by rfl) (by rfl) (by cbv) ⟨by decide, rfl⟩ fun F hP hA => ?_
  have hT : TabOk F.P tab := hP ▸ tab_ok
  have hM : F.P.follows .mixedOrders = true := hP ▸ mixed
  have hC : ∀ {f a o r}, AC Try.prog f a o r → AC F.P f a o r := fun h => hP ▸ h
  refine Run.seq ?_
  refine Run.region hL hT [] (by cbv) ?_ ?_
  · exact hq0
  refine Run.seq ?_
  refine Run.region hL hT [] (by cbv) ?_ ?_
  · exact (hq trivial (hq trivial hq0))
  refine Run.seq ?_
  refine Run.region hL hT [] (by cbv) ?_ ?_
  · exact hq0
  refine Run.seq ?_
  refine Run.seq ?_
  refine Run.region hL hT [] (by cbv) ?_ ?_
  · exact hq0
  refine Run.block ?_
  refine Run.loop7 (fun (z9 : Int) (z10 : Int) (z11 : List Int) (z12 : Int) (z13 : List (List Row)) (z14 : List Mut) (z15 : Int) => ⟨43, 100000, [(0, .pt 0 0 0), (5, .pt 1 0 0), (6, .rf 2), (7, .t (.s (.int .i64 z15)))], [(0, .box 88 [.t (.im true (eu8_c a0v_b)), .t (.s (.int .i64 z9)), .t (.s (.int .i64 z10))]), (1, .box 29 [.t (.im false (eInt_c z11)), .t (.s (.int .i64 z12)), .t (.im false (eRowS_i z13))]), (2, .row 0 78 4 (eMut_o z14))]⟩) (x0 := a0v_i) (x1 := a0v_h) (x2 := a1v_Schemav_Cols) (x3 := a1v_Version) (x4 := a1v_Tables) (x5 := []) (x6 := 0) h (Weak.of _ [(0, 0), (1, 4098), (2, 8193)] hA (by cbv) ?_) (fun _ _ _ _ _ _ _ => rfl) ?_
  · repeat (first | exact hq0 | refine hq (by first | exact True.intro | rfl) ?_)
  · intro k z9 z10 z11 z12 z13 z14 z15 h
    rw [spec_l7DrawBatch.l0] at h
    refine Run.seq ?_
    refine Run.seq ?_
    obtain ⟨⟨⟨r16v_1v_b, r16v_1v_i, r16v_1v_h⟩, r16v_2⟩, h_r16, h⟩ := bnd h
    refine Run.region hL hT [(2, .call [true, false] [.v (.bx 88 [.im true (eu8_c a0v_b), .s (.int .i64 r16v_1v_i), .s (.int .i64 r16v_1v_h)]), .v (.jk)] [.v (.s (.int .i64 r16v_2))])] (by cbv) ?_ ?_
    · exact (hq (hC (spec_l1Below_ac h_r16)) (hq trivial (hq trivial hq0)))
    refine Run.cond (by cbv) (hq0) (fun c17 => ?_) (fun c17 => ?_)
    · have h := if_t c17 h
      refine Run.skip ?_
      refine Run.seq ?_
      refine Run.block ?_
      refine Run.seq ?_
      obtain ⟨⟨⟨r18v_1v_b, r18v_1v_i, r18v_1v_h⟩, ⟨r18v_2v_Kind, r18v_2v_Table, ⟨r18v_2v_Rowv_Id, r18v_2v_Rowv_Cells⟩⟩⟩, h_r18, h⟩ := bnd h
      refine Run.region hL hT [(2, .call [true, false] [.v (.bx 88 [.im true (eu8_c a0v_b), .s (.int .i64 r18v_1v_i), .s (.int .i64 r18v_1v_h)]), .ag [.jk, .jk, .jk]] [.ag [.s (.int .i64 r18v_2v_Kind), .s (.int .i64 r18v_2v_Table), .s (.int .i64 r18v_2v_Rowv_Id), .ow 3 (eInt_c r18v_2v_Rowv_Cells)]])] (by cbv) ?_ ?_
      · exact (hq trivial (hq (hC (spec_l7DrawMut_ac h_r18)) (hq trivial hq0)))
      refine Run.seq ?_
      obtain ⟨⟨⟨⟨r19v_1v_Schemav_Cols⟩, r19v_1v_Version, r19v_1v_Tables⟩, ⟨r19v_2v_1v_Table, r19v_2v_1v_Had, r19v_2v_1v_Has, ⟨r19v_2v_1v_Oldv_Id, r19v_2v_1v_Oldv_Cells⟩, ⟨r19v_2v_1v_Newv_Id, r19v_2v_1v_Newv_Cells⟩⟩, r19v_2v_2⟩, h_r19, h⟩ := bnd h
      refine Run.region hL hT [(2, .call [false, false] [.ag [.jk, .jk, .jk], .ag [.jk, .jk, .jk, .jk]] [.ag [.ow 3 (eInt_c r19v_1v_Schemav_Cols), .s (.int .i64 r19v_1v_Version), .ow 72 (eRowS_o r19v_1v_Tables)], .ag [.s (.int .i64 r19v_2v_1v_Table), .s (.bool r19v_2v_1v_Had), .s (.bool r19v_2v_1v_Has), .s (.int .i64 r19v_2v_1v_Oldv_Id), .ow 3 (eInt_c r19v_2v_1v_Oldv_Cells), .s (.int .i64 r19v_2v_1v_Newv_Id), .ow 3 (eInt_c r19v_2v_1v_Newv_Cells)], .v (.s (.bool r19v_2v_2))])] (by cbv) ?_ ?_
      · exact (hq trivial (hq trivial (hq (hC (AC.args (spec_MutDo_ac h_r19) (ALe.ag rfl LLe.r (ALe.ag rfl (LLe.c (LLe.c (LLe.c (LLe.cons (LLe.im (RLe.eq (fr_row Int_c_z _))) LLe.nil)))) ALe.nil)))) (hq trivial (hq trivial hq0)))))
      obtain ⟨K23, h_K23, h⟩ := joinE h
      refine Run.join3 K23 (r := r) (fun (y20 : List Int) (y21 : Int) (y22 : List (List Row)) => ⟨43, 100000, [(0, .pt 0 0 0), (5, .pt 1 0 0), (6, .rf 2), (7, .t (.s (.int .i64 z15))), (8, .pt 3 0 0), (11, .t (.s (.bool r19v_2v_2)))], [(0, .box 88 [.t (.im true (eu8_c a0v_b)), .t (.s (.int .i64 r18v_1v_i)), .t (.s (.int .i64 r18v_1v_h))]), (1, .box 29 [.t (.im false (eInt_c y20)), .t (.s (.int .i64 y21)), .t (.im false (eRowS_i y22))]), (2, .row 0 78 4 (eMut_o z14)), (3, .box 78 [.t (.s (.int .i64 r18v_2v_Kind)), .t (.s (.int .i64 r18v_2v_Table)), .t (.s (.int .i64 r18v_2v_Rowv_Id)), .rf 4]), (4, .row 0 3 1 (eInt_c r18v_2v_Rowv_Cells))]⟩) ?_ ?_
      · skip
        refine Run.seq ?_
        refine Run.region hL hT [] (by cbv) ?_ ?_
        · exact hq0
        refine Run.cond (by cbv) (hq0) (fun c24 => ?_) (fun c24 => ?_)
        · have h := if_t c24 h
          refine Run.region hL hT [] (by cbv) ?_ ?_
          · exact (hq trivial (hq trivial hq0))
          refine ⟨r19v_1v_Schemav_Cols, r19v_1v_Version, r19v_1v_Tables, h, (Weak.frz (rows := eInt_c r19v_1v_Schemav_Cols) 108194 (by cbv) (eInt_c r19v_1v_Schemav_Cols) (fr_row Int_c_z _)).trans ((Weak.frz (rows := eRowS_o r19v_1v_Tables) 108450 (by cbv) (eRowS_i r19v_1v_Tables) (fr_row RowS_o_z _)).trans (Weak.of _ [(0, 0), (1, 1), (2, 2), (3, 104099), (4, 104098)] hA (by cbv) ?_))⟩
          repeat (first | exact hq0 | refine hq (by first | exact True.intro | rfl) ?_)
        · have h := if_f c24 h
          refine Run.skip ?_
          refine ⟨z11, z12, z13, h, Weak.of _ [(0, 0), (1, 1), (2, 2), (3, 104099), (4, 104098)] hA (by cbv) ?_⟩
          repeat (first | exact hq0 | refine hq (by first | exact True.intro | rfl) ?_)
      · intro y20 y21 y22 h
        rw [h_K23] at h
        refine Run.seq ?_
        obtain ⟨⟨⟨r25v_1v_b, r25v_1v_i, r25v_1v_h⟩, r25v_2⟩, h_r25, h⟩ := bnd h
        refine Run.region hL hT [(3, .call [true, false] [.v (.bx 88 [.im true (eu8_c a0v_b), .s (.int .i64 r25v_1v_i), .s (.int .i64 r25v_1v_h)]), .v (.jk)] [.v (.s (.bool r25v_2))])] (by cbv) ?_ ?_
        · exact (hq (fun _ => hq0) (hq (fun g27 => (hq g27 (hq (hC (spec_l1Once_ac (gd_t h_r25 g27))) hq0))) (hq trivial (hq trivial (hq trivial (hq (fun _ => hq0) (hq (fun q29 => (hq (bo_m q29) hq0)) hq0)))))))
        refine Run.cond (by cbv) (hq0) (fun c30 => ?_) (fun c30 => ?_)
        · have h := if_t c30 h
          obtain ⟨l31, h_l31, h⟩ := bnd h
          obtain ⟨l32, h_l32, h⟩ := bnd h
          refine Run.region hL hT [] (by cbv) ?_ ?_
          · exact (hq trivial (hq (app_mb (P := Try.prog) (f := Mut_o) RLe.r (some_le (f := Mut_o) h_l31 (RLe.cons rfl LLe.r RLe.nil)) h_l32) hq0))
          refine Run.row (rows := (ap (eMut_o z14) ([[.s (.int .i64 r18v_2v_Kind), .s (.int .i64 r18v_2v_Table), .s (.int .i64 r18v_2v_Rowv_Id), .ow 3 (eInt_c r18v_2v_Rowv_Cells)]]))) 104099 (eMut_o l32) (by cbv) (app_le (f := Mut_o) RLe.r (some_le (f := Mut_o) h_l31 (RLe.cons rfl LLe.r RLe.nil)) h_l32) ?_
          refine Run.region hL hT [] (by cbv) ?_ ?_
          · exact (hq trivial hq0)
          refine ⟨(ci (bo r19v_2v_2 false true) r25v_1v_i r18v_1v_i), (ci (bo r19v_2v_2 false true) r25v_1v_h r18v_1v_h), y20, y21, y22, l32, (ar .add .i64 z15 1), h, Weak.of _ [(0, 0), (1, 1), (2, 104099)] hA (by cbv) ?_⟩
          repeat (first | exact hq0 | refine hq (by first | exact True.intro | rfl) ?_)
        · have h := if_f c30 h
          refine Run.skip ?_
          refine Run.region hL hT [] (by cbv) ?_ ?_
          · exact (hq trivial hq0)
          refine ⟨(ci (bo r19v_2v_2 false true) r25v_1v_i r18v_1v_i), (ci (bo r19v_2v_2 false true) r25v_1v_h r18v_1v_h), y20, y21, y22, z14, (ar .add .i64 z15 1), h, Weak.of _ [(0, 0), (1, 1), (2, 2)] hA (by cbv) ?_⟩
          repeat (first | exact hq0 | refine hq (by first | exact True.intro | rfl) ?_)
    · have h := if_f c17 h
      refine Run.exit ?_
      refine Run.seq ?_
      refine Run.region hL hT [] (by cbv) ?_ ?_
      · exact hq0
      refine Run.ret ?_
      cases h
      refine ⟨_, _, by cbv, ?_, ?_⟩
      · exact LLe.r
      · exact (ALe.v LLe.r ALe.nil)

set_option maxRecDepth 8000 in
theorem spec_l8DrawStep_ac {a0v_b : List Int} {a0v_i : Int} {a0v_h : Int} {a1v_Schemav_Cols : List Int} {a1v_Version : Int} {a1v_Tables : List (List Row)} {r : l1Cur × (List Change)} (h : spec_l8DrawStep.f (l1Cur.mk a0v_b a0v_i a0v_h) (Store.mk (Schema.mk a1v_Schemav_Cols) a1v_Version a1v_Tables) = some r) : AC Try.prog 36 [.v (.bx 88 [.im true (rowsOf u8_c a0v_b), .s (.int .i64 a0v_i), .s (.int .i64 a0v_h)]), .ag [.im false (rowsOf Int_c a1v_Schemav_Cols), .s (.int .i64 a1v_Version), .im false (rowsOf RowS_i a1v_Tables)]] [.v (.bx 88 [.im true (rowsOf u8_c a0v_b), .s (.int .i64 r.1.i), .s (.int .i64 r.1.h)]), .ag [.jk, .jk, .jk]] [.v (.im true (rowsOf Change_i r.2))] := by
  unfold spec_l8DrawStep.f at h
  let ar := Ls.ar; let cm := Ls.cm; let bo := Ls.bo; let sc := Ls.sc; let sa := Ls.sa; let sx := Ls.sx; let ss := Ls.ss; let sl := Ls.sl; let bs := Ls.bs; let sb := Ls.sb; let ln := Ls.ln; let sr := Ls.sr; let ap := Ls.ap; let up := Ls.up; let rp := Ls.rp; let fr := Ls.fr; let ge := Ls.ge; let le := Ls.le; let lt := Ls.lt; let nz := Ls.nz; let mm := Ls.mm; let ma := Ls.ma; let sm := Ls.sm; let fl := Ls.fl; let al := Ls.al; let ci := Ls.ci
  let eChange_i := rowsOf Change_i
  let eChange_k := rowsOf Change_k
  let eChange_o := rowsOf Change_o
  let eInt_c := rowsOf Int_c
  let eMut_o := rowsOf Mut_o
  let eRowS_i := rowsOf RowS_i
  let eRowS_o := rowsOf RowS_o
  let eu8_c := rowsOf u8_c
  let lenI_Change := @lenI Change
  have hL : (⟨ar, cm, bo, sc, sa, sx, ss, sl, bs, sb, ln, sr, ap, up, rp, fr, ge, le, lt, nz, mm, ma, sm, fl, al, ci⟩ : Lf) = Ls := rfl
  show AC Try.prog 36 [.v (.bx 88 [.im true (eu8_c a0v_b), .s (.int .i64 a0v_i), .s (.int .i64 a0v_h)]), .ag [.im false (eInt_c a1v_Schemav_Cols), .s (.int .i64 a1v_Version), .im false (eRowS_i a1v_Tables)]] _ _
  refine AC.of_run2 tab_ok Try.func36 (by rfl) (by rfl) (by cbv) ⟨by decide, rfl⟩ fun F hP hA => ?_
  have hT : TabOk F.P tab := hP ▸ tab_ok
  have hM : F.P.follows .mixedOrders = true := hP ▸ mixed
  have hC : ∀ {f a o r}, AC Try.prog f a o r → AC F.P f a o r := fun h => hP ▸ h
  refine Run.seq ?_
  refine Run.region hL hT [] (by cbv) ?_ ?_
  · exact hq0
  refine Run.seq ?_
  obtain ⟨⟨⟨r1v_1v_b, r1v_1v_i, r1v_1v_h⟩, r1v_2⟩, h_r1, h⟩ := bnd h
  obtain ⟨⟨⟨⟨r2v_1v_Schemav_Cols⟩, r2v_1v_Version, r2v_1v_Tables⟩, r2v_2v_1, r2v_2v_2⟩, h_r2, h⟩ := bnd h
  refine Run.draw hL hT hM [(3, .call [true, false] [.v (.bx 88 [.im true (eu8_c a0v_b), .s (.int .i64 r1v_1v_i), .s (.int .i64 r1v_1v_h)]), .ag [.jk, .jk, .jk]] [.v (.ow 78 (eMut_o r1v_2))]), (4, .call [false, false] [.ag [.jk, .jk, .jk], .v (.jk)] [.ag [.ow 3 (eInt_c r2v_1v_Schemav_Cols), .s (.int .i64 r2v_1v_Version), .ow 72 (eRowS_o r2v_1v_Tables)], .v (.ow 40 (eChange_o r2v_2v_1)), .v (.s (.bool r2v_2v_2))])] (by cbv) (by cbv) (by cbv) (by cbv) (by cbv) ?_ ?_
  · exact (hq trivial (hq trivial (hq (hC (spec_l7DrawBatch_ac h_r1)) (hq (hC (AC.args (spec_BatchDo_ac h_r2) (ALe.ag rfl LLe.r (ALe.v (LLe.im (RLe.eq (fr_row Mut_o_z _))) ALe.nil)))) (hq trivial hq0)))))
  refine Run.seq ?_
  refine Run.seq ?_
  refine Run.region hL hT [] (by cbv) ?_ ?_
  · exact (hq trivial hq0)
  rw [show ln (eChange_o r2v_2v_1) = lenI_Change r2v_2v_1 from ln_eq Change_o _]
  refine Run.cond (by cbv) (hq0) (fun c3 => ?_) (fun c3 => ?_)
  · have h := if_t c3 h
    refine Run.seq ?_
    obtain ⟨⟨⟨r4v_1v_b, r4v_1v_i, r4v_1v_h⟩, r4v_2⟩, h_r4, h⟩ := bnd h
    refine Run.region hL hT [(1, .call [true, false] [.v (.bx 88 [.im true (eu8_c a0v_b), .s (.int .i64 r4v_1v_i), .s (.int .i64 r4v_1v_h)]), .v (.jk)] [.v (.s (.int .i64 r4v_2))])] (by cbv) ?_ ?_
    · exact (hq (hC (spec_l1Below_ac h_r4)) hq0)
    refine Run.block ?_
    refine Run.seq ?_
    refine Run.region hL hT [] (by cbv) ?_ ?_
    · exact (hq trivial hq0)
    refine Run.cond (by cbv) (hq0) (fun c5 => ?_) (fun c5 => ?_)
    · have h := if_t c5 h
      obtain ⟨⟨x6v_Table, x6v_Had, x6v_Has, ⟨x6v_Oldv_Id, x6v_Oldv_Cells⟩, ⟨x6v_Newv_Id, x6v_Newv_Cells⟩⟩, h_x6, h⟩ := bnd h
      obtain ⟨l7, h_l7, h⟩ := bnd h
      refine Run.region hL hT [(4, .el [.s (.int .i64 x6v_Table), .s (.bool x6v_Had), .s (.bool x6v_Has), .s (.int .i64 x6v_Oldv_Id), .ow 3 (eInt_c x6v_Oldv_Cells), .s (.int .i64 x6v_Newv_Id), .ow 3 (eInt_c x6v_Newv_Cells)])] (by cbv) ?_ ?_
      · exact (hq (get_le h_x6) (hq (get_lt (f := Change_o) h_x6) (hq (get_le h_x6) (hq (get_lt (f := Change_o) h_x6) (hq (get_ge (f := Change_o) h_x6) (hq (get_le h_x6) (hq (get_lt (f := Change_o) h_x6) (hq (get_le h_x6) (hq (get_lt (f := Change_o) h_x6) hq0)))))))))
      refine Run.row (rows := (up (eChange_o r2v_2v_1) 0 1 [.s (.bool (bo x6v_Had false true))])) 4613 (eChange_o l7) (by cbv) (sto_le (f := Change_o) h_x6 h_l7 rfl LLe.r) ?_
      refine Run.seq ?_
      refine Run.region hL hT [] (by cbv) ?_ ?_
      · exact hq0
      refine Run.weak ?_ (Weak.keep (rows := eChange_o l7) 4613 (by cbv) (eChange_i l7) (fr_row Change_o_z _))
      refine Run.ret ?_
      cases h
      refine ⟨_, _, by cbv, ?_, ?_⟩
      · exact LLe.r
      · exact (ALe.v LLe.r ALe.nil)
    · have h := if_f c5 h
      refine Run.seq ?_
      refine Run.region hL hT [] (by cbv) ?_ ?_
      · exact (hq trivial hq0)
      refine Run.cond (by cbv) (hq0) (fun c8 => ?_) (fun c8 => ?_)
      · have h := if_t c8 h
        obtain ⟨⟨⟨r9v_1v_b, r9v_1v_i, r9v_1v_h⟩, r9v_2⟩, h_r9, h⟩ := bnd h
        obtain ⟨⟨x10v_Table, x10v_Had, x10v_Has, ⟨x10v_Oldv_Id, x10v_Oldv_Cells⟩, ⟨x10v_Newv_Id, x10v_Newv_Cells⟩⟩, h_x10, h⟩ := bnd h
        obtain ⟨l11, h_l11, h⟩ := bnd h
        refine Run.region hL hT [(2, .call [true, false] [.v (.bx 88 [.im true (eu8_c a0v_b), .s (.int .i64 r9v_1v_i), .s (.int .i64 r9v_1v_h)]), .v (.jk)] [.v (.s (.int .i64 r9v_2))])] (by cbv) ?_ ?_
        · exact (hq (hC (spec_l1Below_ac h_r9)) (hq (get_le h_x10) (hq (get_lt (f := Change_o) h_x10) (hq (get_le h_x10) (hq (get_lt (f := Change_o) h_x10) hq0)))))
        refine Run.row (rows := (up (eChange_o r2v_2v_1) 0 5 [.s (.int .i64 r9v_2)])) 4613 (eChange_o l11) (by cbv) (sto_le (f := Change_o) h_x10 h_l11 rfl LLe.r) ?_
        refine Run.seq ?_
        refine Run.region hL hT [] (by cbv) ?_ ?_
        · exact hq0
        refine Run.weak ?_ (Weak.keep (rows := eChange_o l11) 4613 (by cbv) (eChange_i l11) (fr_row Change_o_z _))
        refine Run.ret ?_
        cases h
        refine ⟨_, _, by cbv, ?_, ?_⟩
        · exact LLe.r
        · exact (ALe.v LLe.r ALe.nil)
      · have h := if_f c8 h
        refine Run.seq ?_
        refine Run.region hL hT [] (by cbv) ?_ ?_
        · exact (hq trivial hq0)
        refine Run.cond (by cbv) (hq0) (fun c12 => ?_) (fun c12 => ?_)
        · have h := if_t c12 h
          refine Run.weak ?_ (Weak.deep (rows := eChange_o r2v_2v_1) 4613 (by cbv) (eChange_k r2v_2v_1) (kp_row Change_o_kp _))
          obtain ⟨⟨x13v_Table, x13v_Had, x13v_Has, ⟨x13v_Oldv_Id, x13v_Oldv_Cells⟩, ⟨x13v_Newv_Id, x13v_Newv_Cells⟩⟩, h_x13, h⟩ := bnd h
          obtain ⟨l14, h_l14, h⟩ := bnd h
          obtain ⟨l15, h_l15, h⟩ := bnd h
          refine Run.region hL hT [(3, .el [.s (.int .i64 x13v_Table), .s (.bool x13v_Had), .s (.bool x13v_Has), .s (.int .i64 x13v_Oldv_Id), .im true (eInt_c x13v_Oldv_Cells), .s (.int .i64 x13v_Newv_Id), .im true (eInt_c x13v_Newv_Cells)])] (by cbv) ?_ ?_
          · exact (hq (get_le h_x13) (hq (get_lt (f := Change_k) h_x13) (hq (get_le h_x13) (hq (get_lt (f := Change_k) h_x13) (hq (get_ge (f := Change_k) h_x13) (hq (app_mb (P := Try.prog) (f := Change_k) RLe.r (some_le (f := Change_k) h_l14 (RLe.cons rfl LLe.r RLe.nil)) h_l15) hq0))))))
          refine Run.row (rows := (ap (eChange_k r2v_2v_1) ([[.s (.int .i64 x13v_Table), .s (.bool x13v_Had), .s (.bool x13v_Has), .s (.int .i64 x13v_Oldv_Id), .im true (eInt_c x13v_Oldv_Cells), .s (.int .i64 x13v_Newv_Id), .im true (eInt_c x13v_Newv_Cells)]]))) 28678 (eChange_k l15) (by cbv) (app_le (f := Change_k) RLe.r (some_le (f := Change_k) h_l14 (RLe.cons rfl LLe.r RLe.nil)) h_l15) ?_
          refine Run.seq ?_
          refine Run.region hL hT [] (by cbv) ?_ ?_
          · exact hq0
          refine Run.weak ?_ (Weak.keep (rows := eChange_k l15) 28678 (by cbv) (eChange_i l15) (fr_row Change_k_z _))
          refine Run.ret ?_
          cases h
          refine ⟨_, _, by cbv, ?_, ?_⟩
          · exact LLe.r
          · exact (ALe.v LLe.r ALe.nil)
        · have h := if_f c12 h
          refine Run.skip ?_
          refine Run.seq ?_
          refine Run.region hL hT [] (by cbv) ?_ ?_
          · exact hq0
          refine Run.weak ?_ (Weak.keep (rows := eChange_o r2v_2v_1) 4613 (by cbv) (eChange_i r2v_2v_1) (fr_row Change_o_z _))
          refine Run.ret ?_
          cases h
          refine ⟨_, _, by cbv, ?_, ?_⟩
          · exact LLe.r
          · exact (ALe.v LLe.r ALe.nil)
  · have h := if_f c3 h
    refine Run.skip ?_
    refine Run.seq ?_
    refine Run.region hL hT [] (by cbv) ?_ ?_
    · exact hq0
    refine Run.weak ?_ (Weak.keep (rows := eChange_o r2v_2v_1) 4613 (by cbv) (eChange_i r2v_2v_1) (fr_row Change_o_z _))
    refine Run.ret ?_
    cases h
    refine ⟨_, _, by cbv, ?_, ?_⟩
    · exact LLe.r
    · exact (ALe.v LLe.r ALe.nil)

set_option maxRecDepth 8000 in
theorem spec_l6DrawSchema_ac {a0v_b : List Int} {a0v_i : Int} {a0v_h : Int} {r : l1Cur × Schema} (h : spec_l6DrawSchema.f (l1Cur.mk a0v_b a0v_i a0v_h) = some r) : AC Try.prog 87 [.v (.bx 88 [.im true (rowsOf u8_c a0v_b), .s (.int .i64 a0v_i), .s (.int .i64 a0v_h)])] [.v (.bx 88 [.im true (rowsOf u8_c a0v_b), .s (.int .i64 r.1.i), .s (.int .i64 r.1.h)])] [.ag [.ow 3 (rowsOf Int_c r.2.Cols)]] := by
  unfold spec_l6DrawSchema.f at h
  let ar := Ls.ar; let cm := Ls.cm; let bo := Ls.bo; let sc := Ls.sc; let sa := Ls.sa; let sx := Ls.sx; let ss := Ls.ss; let sl := Ls.sl; let bs := Ls.bs; let sb := Ls.sb; let ln := Ls.ln; let sr := Ls.sr; let ap := Ls.ap; let up := Ls.up; let rp := Ls.rp; let fr := Ls.fr; let ge := Ls.ge; let le := Ls.le; let lt := Ls.lt; let nz := Ls.nz; let mm := Ls.mm; let ma := Ls.ma; let sm := Ls.sm; let fl := Ls.fl; let al := Ls.al; let ci := Ls.ci
  let eInt_c := rowsOf Int_c
  let eu8_c := rowsOf u8_c
  have hL : (⟨ar, cm, bo, sc, sa, sx, ss, sl, bs, sb, ln, sr, ap, up, rp, fr, ge, le, lt, nz, mm, ma, sm, fl, al, ci⟩ : Lf) = Ls := rfl
  show AC Try.prog 87 [.v (.bx 88 [.im true (eu8_c a0v_b), .s (.int .i64 a0v_i), .s (.int .i64 a0v_h)])] _ _
  refine AC.of_run2 tab_ok Try.func87 (by rfl) (by rfl) (by cbv) ⟨by decide, rfl⟩ fun F hP hA => ?_
  have hT : TabOk F.P tab := hP ▸ tab_ok
  have hM : F.P.follows .mixedOrders = true := hP ▸ mixed
  have hC : ∀ {f a o r}, AC Try.prog f a o r → AC F.P f a o r := fun h => hP ▸ h
  refine Run.seq ?_
  refine Run.region hL hT [] (by cbv) ?_ ?_
  · exact hq0
  refine Run.seq ?_
  refine Run.region hL hT [] (by cbv) ?_ ?_
  · exact (hq trivial hq0)
  refine Run.seq ?_
  refine Run.seq ?_
  refine Run.region hL hT [] (by cbv) ?_ ?_
  · exact hq0
  refine Run.block ?_
  refine Run.loop4 (fun (z10 : Int) (z11 : Int) (z12 : List Int) (z13 : Int) => ⟨22, 100000, [(0, .pt 0 0 0), (2, .pt 1 0 0), (3, .pt 2 0 0), (4, .t (.s (.int .i64 z13)))], [(0, .box 88 [.t (.im true (eu8_c a0v_b)), .t (.s (.int .i64 z10)), .t (.s (.int .i64 z11))]), (1, .box 26 [.t (.s (.slice none 0 0))]), (2, .box 26 [.rf 3]), (3, .row 0 3 1 (eInt_c z12))]⟩) (x0 := a0v_i) (x1 := a0v_h) (x2 := []) (x3 := 0) h ((Weak.nilB (l := []) hT 4098 0 13289 3 rfl (by cbv) (by cbv) (by cbv)).trans (Weak.of _ [(0, 0), (1, 1), (2, 4098), (3, 13289)] hA (by cbv) ?_)) (fun _ _ _ _ => rfl) ?_
  · repeat (first | exact hq0 | refine hq (by first | exact True.intro | rfl) ?_)
  · intro k z10 z11 z12 z13 h
    rw [spec_l6DrawSchema.l0] at h
    refine Run.seq ?_
    refine Run.seq ?_
    obtain ⟨⟨⟨r14v_1v_b, r14v_1v_i, r14v_1v_h⟩, r14v_2⟩, h_r14, h⟩ := bnd h
    refine Run.region hL hT [(2, .call [true, false] [.v (.bx 88 [.im true (eu8_c a0v_b), .s (.int .i64 r14v_1v_i), .s (.int .i64 r14v_1v_h)]), .v (.jk)] [.v (.s (.int .i64 r14v_2))])] (by cbv) ?_ ?_
    · exact (hq (hC (spec_l1Below_ac h_r14)) (hq trivial (hq trivial hq0)))
    refine Run.cond (by cbv) (hq0) (fun c15 => ?_) (fun c15 => ?_)
    · have h := if_t c15 h
      refine Run.skip ?_
      refine Run.seq ?_
      refine Run.block ?_
      obtain ⟨⟨⟨r16v_1v_b, r16v_1v_i, r16v_1v_h⟩, r16v_2⟩, h_r16, h⟩ := bnd h
      obtain ⟨l17, h_l17, h⟩ := bnd h
      obtain ⟨l18, h_l18, h⟩ := bnd h
      refine Run.draw hL hT hM [(3, .call [true, false] [.v (.bx 88 [.im true (eu8_c a0v_b), .s (.int .i64 r16v_1v_i), .s (.int .i64 r16v_1v_h)]), .v (.jk)] [.v (.s (.int .i64 r16v_2))])] (by cbv) (by cbv) (by cbv) (by cbv) (by cbv) ?_ ?_
      · exact (hq trivial (hq (hC (spec_l1Below_ac h_r16)) (hq trivial (hq (app_mb (P := Try.prog) (f := Int_c) RLe.r (some_le (f := Int_c) h_l17 (RLe.cons rfl LLe.r RLe.nil)) h_l18) (hq trivial hq0)))))
      refine Run.row (rows := (ap (eInt_c z12) ([[.s (.int .i64 (ar .add .i64 1 r16v_2))]]))) 104102 (eInt_c l18) (by cbv) (app_le (f := Int_c) RLe.r (some_le (f := Int_c) h_l17 (RLe.cons rfl LLe.r RLe.nil)) h_l18) ?_
      refine Run.region hL hT [] (by cbv) ?_ ?_
      · exact (hq trivial hq0)
      refine ⟨r16v_1v_i, r16v_1v_h, l18, (ar .add .i64 z13 1), h, Weak.of _ [(0, 0), (1, 1), (2, 2), (3, 104102)] hA (by cbv) ?_⟩
      repeat (first | exact hq0 | refine hq (by first | exact True.intro | rfl) ?_)
    · have h := if_f c15 h
      refine Run.exit ?_
      refine Run.seq ?_
      refine Run.region hL hT [] (by cbv) ?_ ?_
      · exact (hq trivial (hq trivial hq0))
      refine Run.ret ?_
      cases h
      refine ⟨_, _, by cbv, ?_, ?_⟩
      · exact LLe.r
      · exact (ALe.ag rfl LLe.r ALe.nil)

set_option maxRecDepth 8000 in
theorem spec_l6DrawBad_ac {a0v_b : List Int} {a0v_i : Int} {a0v_h : Int} {r : l1Cur × Schema} (h : spec_l6DrawBad.f (l1Cur.mk a0v_b a0v_i a0v_h) = some r) : AC Try.prog 52 [.v (.bx 88 [.im true (rowsOf u8_c a0v_b), .s (.int .i64 a0v_i), .s (.int .i64 a0v_h)])] [.v (.bx 88 [.im true (rowsOf u8_c a0v_b), .s (.int .i64 r.1.i), .s (.int .i64 r.1.h)])] [.ag [.ow 3 (rowsOf Int_c r.2.Cols)]] := by
  unfold spec_l6DrawBad.f at h
  let ar := Ls.ar; let cm := Ls.cm; let bo := Ls.bo; let sc := Ls.sc; let sa := Ls.sa; let sx := Ls.sx; let ss := Ls.ss; let sl := Ls.sl; let bs := Ls.bs; let sb := Ls.sb; let ln := Ls.ln; let sr := Ls.sr; let ap := Ls.ap; let up := Ls.up; let rp := Ls.rp; let fr := Ls.fr; let ge := Ls.ge; let le := Ls.le; let lt := Ls.lt; let nz := Ls.nz; let mm := Ls.mm; let ma := Ls.ma; let sm := Ls.sm; let fl := Ls.fl; let al := Ls.al; let ci := Ls.ci
  let eInt_c := rowsOf Int_c
  let eu8_c := rowsOf u8_c
  have hL : (⟨ar, cm, bo, sc, sa, sx, ss, sl, bs, sb, ln, sr, ap, up, rp, fr, ge, le, lt, nz, mm, ma, sm, fl, al, ci⟩ : Lf) = Ls := rfl
  show AC Try.prog 52 [.v (.bx 88 [.im true (eu8_c a0v_b), .s (.int .i64 a0v_i), .s (.int .i64 a0v_h)])] _ _
  refine AC.of_run2 tab_ok Try.func52 (by rfl) (by rfl) (by cbv) ⟨by decide, rfl⟩ fun F hP hA => ?_
  have hT : TabOk F.P tab := hP ▸ tab_ok
  have hM : F.P.follows .mixedOrders = true := hP ▸ mixed
  have hC : ∀ {f a o r}, AC Try.prog f a o r → AC F.P f a o r := fun h => hP ▸ h
  refine Run.seq ?_
  refine Run.region hL hT [] (by cbv) ?_ ?_
  · exact hq0
  refine Run.seq ?_
  obtain ⟨⟨⟨r1v_1v_b, r1v_1v_i, r1v_1v_h⟩, ⟨r1v_2v_Cols⟩⟩, h_r1, h⟩ := bnd h
  refine Run.region hL hT [(1, .call [true] [.v (.bx 88 [.im true (eu8_c a0v_b), .s (.int .i64 r1v_1v_i), .s (.int .i64 r1v_1v_h)])] [.ag [.ow 3 (eInt_c r1v_2v_Cols)]])] (by cbv) ?_ ?_
  · exact (hq (hC (spec_l6DrawSchema_ac h_r1)) (hq trivial hq0))
  refine Run.seq ?_
  refine Run.seq ?_
  obtain ⟨⟨⟨r2v_1v_b, r2v_1v_i, r2v_1v_h⟩, r2v_2⟩, h_r2, h⟩ := bnd h
  refine Run.region hL hT [(1, .call [true, false] [.v (.bx 88 [.im true (eu8_c a0v_b), .s (.int .i64 r2v_1v_i), .s (.int .i64 r2v_1v_h)]), .v (.jk)] [.v (.s (.int .i64 r2v_2))])] (by cbv) ?_ ?_
  · exact (hq (hC (spec_l1Below_ac h_r2)) hq0)
  refine Run.block ?_
  refine Run.seq ?_
  refine Run.region hL hT [] (by cbv) ?_ ?_
  · exact (hq trivial hq0)
  refine Run.cond (by cbv) (hq0) (fun c3 => ?_) (fun c3 => ?_)
  · have h := if_t c3 h
    obtain ⟨l4, h_l4, h⟩ := bnd h
    obtain ⟨l5, h_l5, h⟩ := bnd h
    refine Run.region hL hT [] (by cbv) ?_ ?_
    · exact (hq trivial (hq (app_mb (P := Try.prog) (f := Int_c) RLe.r (some_le (f := Int_c) h_l4 (RLe.cons rfl LLe.r (RLe.cons rfl LLe.r (RLe.cons rfl LLe.r RLe.nil)))) h_l5) (hq trivial hq0)))
    refine Run.row (rows := (ap (eInt_c r1v_2v_Cols) ([[.s (.int .i64 1)], [.s (.int .i64 1)], [.s (.int .i64 1)]]))) 16388 (eInt_c l5) (by cbv) (app_le (f := Int_c) RLe.r (some_le (f := Int_c) h_l4 (RLe.cons rfl LLe.r (RLe.cons rfl LLe.r (RLe.cons rfl LLe.r RLe.nil)))) h_l5) ?_
    refine Run.seq ?_
    refine Run.region hL hT [] (by cbv) ?_ ?_
    · exact (hq trivial (hq trivial hq0))
    refine Run.ret ?_
    cases h
    refine ⟨_, _, by cbv, ?_, ?_⟩
    · exact LLe.r
    · exact (ALe.ag rfl LLe.r ALe.nil)
  · have h := if_f c3 h
    refine Run.seq ?_
    refine Run.region hL hT [] (by cbv) ?_ ?_
    · exact (hq trivial hq0)
    refine Run.cond (by cbv) (hq0) (fun c6 => ?_) (fun c6 => ?_)
    · have h := if_t c6 h
      obtain ⟨l7, h_l7, h⟩ := bnd h
      obtain ⟨⟨⟨r8v_1v_b, r8v_1v_i, r8v_1v_h⟩, r8v_2⟩, h_r8, h⟩ := bnd h
      obtain ⟨x9, h_x9, h⟩ := bnd h
      obtain ⟨l10, h_l10, h⟩ := bnd h
      refine Run.draw hL hT hM [(4, .call [true, false] [.v (.bx 88 [.im true (eu8_c a0v_b), .s (.int .i64 r8v_1v_i), .s (.int .i64 r8v_1v_h)]), .v (.jk)] [.v (.s (.int .i64 r8v_2))])] (by cbv) (by cbv) (by cbv) (by cbv) (by cbv) ?_ ?_
      · exact (hq trivial (hq (hC (AC.args (spec_l1PickInt_ac h_r8) (ALe.v LLe.r (ALe.v (fr_lit rfl (some_le (f := Int_c) h_l7 (RLe.cons rfl LLe.r (RLe.cons rfl LLe.r (RLe.cons rfl LLe.r RLe.nil))))) ALe.nil)))) (hq (get_le h_x9) (hq (get_lt (f := Int_c) h_x9) (hq (get_le h_x9) (hq (get_lt (f := Int_c) h_x9) hq0))))))
      refine Run.row (rows := (up (eInt_c r1v_2v_Cols) 0 0 [.s (.int .i64 r8v_2)])) 4098 (eInt_c l10) (by cbv) (sto_le (f := Int_c) h_x9 h_l10 rfl LLe.r) ?_
      refine Run.row (rows := [[.s (.int .i64 0)], [.s (.int .i64 5)], [.s (.int .i64 (-1))]]) 20484 (eInt_c l7) (by cbv) (some_le (f := Int_c) h_l7 (RLe.cons rfl LLe.r (RLe.cons rfl LLe.r (RLe.cons rfl LLe.r RLe.nil)))) ?_
      refine Run.seq ?_
      refine Run.region hL hT [] (by cbv) ?_ ?_
      · exact (hq trivial (hq trivial hq0))
      refine Run.ret ?_
      cases h
      refine ⟨_, _, by cbv, ?_, ?_⟩
      · exact LLe.r
      · exact (ALe.ag rfl LLe.r ALe.nil)
    · have h := if_f c6 h
      refine Run.seq ?_
      refine Run.region hL hT [] (by cbv) ?_ ?_
      · exact (hq trivial hq0)
      refine Run.cond (by cbv) (hq0) (fun c11 => ?_) (fun c11 => ?_)
      · have h := if_t c11 h
        refine Run.region hL hT [] (by cbv) ?_ ?_
        · exact (hq trivial hq0)
        refine Run.seq ?_
        refine Run.region hL hT [] (by cbv) ?_ ?_
        · exact (hq trivial (hq trivial hq0))
        refine Run.ret ?_
        cases h
        refine ⟨_, _, by cbv, ?_, ?_⟩
        · exact LLe.r
        · exact (ALe.ag rfl (LLe.cons LLe.nilO LLe.nil) ALe.nil)
      · have h := if_f c11 h
        refine Run.skip ?_
        refine Run.seq ?_
        refine Run.region hL hT [] (by cbv) ?_ ?_
        · exact (hq trivial (hq trivial hq0))
        refine Run.ret ?_
        cases h
        refine ⟨_, _, by cbv, ?_, ?_⟩
        · exact LLe.r
        · exact (ALe.ag rfl LLe.r ALe.nil)

set_option maxRecDepth 8000 in
theorem spec_StoreNew_ac {a0v_Cols : List Int} {r : Store × Bool} (h : spec_StoreNew.f (Schema.mk a0v_Cols) = some r) : AC Try.prog 92 [.ag [.im false (rowsOf Int_c a0v_Cols)]] [.ag [.jk]] [.ag [.ow 3 (rowsOf Int_c r.1.Schema.Cols), .s (.int .i64 r.1.Version), .ow 72 (rowsOf RowS_o r.1.Tables)], .v (.s (.bool r.2))] := by
  unfold spec_StoreNew.f at h
  let ar := Ls.ar; let cm := Ls.cm; let bo := Ls.bo; let sc := Ls.sc; let sa := Ls.sa; let sx := Ls.sx; let ss := Ls.ss; let sl := Ls.sl; let bs := Ls.bs; let sb := Ls.sb; let ln := Ls.ln; let sr := Ls.sr; let ap := Ls.ap; let up := Ls.up; let rp := Ls.rp; let fr := Ls.fr; let ge := Ls.ge; let le := Ls.le; let lt := Ls.lt; let nz := Ls.nz; let mm := Ls.mm; let ma := Ls.ma; let sm := Ls.sm; let fl := Ls.fl; let al := Ls.al; let ci := Ls.ci
  let eInt_c := rowsOf Int_c
  let eRowS_o := rowsOf RowS_o
  let lenI_Int := @lenI Int
  have hL : (⟨ar, cm, bo, sc, sa, sx, ss, sl, bs, sb, ln, sr, ap, up, rp, fr, ge, le, lt, nz, mm, ma, sm, fl, al, ci⟩ : Lf) = Ls := rfl
  show AC Try.prog 92 [.ag [.im false (eInt_c a0v_Cols)]] _ _
  refine AC.of_run2 tab_ok Try.func92 (by rfl) (by rfl) (by cbv) ⟨by decide, rfl⟩ fun F hP hA => ?_
  have hT : TabOk F.P tab := hP ▸ tab_ok
  have hM : F.P.follows .mixedOrders = true := hP ▸ mixed
  have hC : ∀ {f a o r}, AC Try.prog f a o r → AC F.P f a o r := fun h => hP ▸ h
  refine Run.seq ?_
  refine Run.region hL hT [] (by cbv) ?_ ?_
  · exact hq0
  refine Run.seq ?_
  refine Run.seq ?_
  obtain ⟨r1, h_r1, h⟩ := bnd h
  refine Run.region hL hT [(1, .call [false] [.ag [.jk]] [.v (.s (.bool r1))])] (by cbv) ?_ ?_
  · exact (hq trivial (hq (hC (spec_SchemaOk_ac h_r1)) hq0))
  refine Run.cond (by cbv) (hq0) (fun c2 => ?_) (fun c2 => ?_)
  · have h := if_t c2 h
    refine Run.seq ?_
    refine Run.region hL hT [] (by cbv) ?_ ?_
    · exact (hq trivial hq0)
    refine Run.ret ?_
    cases h
    refine ⟨_, _, by cbv, ?_, ?_⟩
    · exact LLe.r
    · exact (ALe.ag rfl (LLe.cons LLe.nilO (LLe.c (LLe.cons LLe.nilO LLe.nil))) (ALe.v LLe.r ALe.nil))
  · have h := if_f c2 h
    refine Run.skip ?_
    refine Run.seq ?_
    obtain ⟨⟨r3v_Cols⟩, h_r3, h⟩ := bnd h
    obtain ⟨l4, h_l4, h⟩ := bnd h
    refine Run.draw hL hT hM [(1, .call [false] [.ag [.jk]] [.ag [.ow 3 (eInt_c r3v_Cols)]])] (by cbv) (by cbv) (by cbv) (by cbv) (by cbv) ?_ ?_
    · exact (hq trivial (hq (hC (spec_l7Schema_ac h_r3)) (hq trivial (hq trivial (hq (by rw [show ln (eInt_c a0v_Cols) = lenI_Int a0v_Cols from ln_eq Int_c _]; exact (mk_0 h_l4)) (hq (by rw [show ln (eInt_c a0v_Cols) = lenI_Int a0v_Cols from ln_eq Int_c _]; exact (mk_mm h_l4)) (hq trivial hq0)))))))
    rw [show ln (eInt_c a0v_Cols) = lenI_Int a0v_Cols from ln_eq Int_c _]
    refine Run.row (rows := (rp (lenI_Int a0v_Cols) [.s (.slice none 0 0)])) 8197 (eRowS_o l4) (by cbv) (mk_le (f := RowS_o) rfl (LLe.cons LLe.nilO LLe.nil) h_l4) ?_
    refine Run.ret ?_
    cases h
    refine ⟨_, _, by cbv, ?_, ?_⟩
    · exact LLe.r
    · exact (ALe.ag rfl LLe.r (ALe.v LLe.r ALe.nil))

set_option maxRecDepth 8000 in
theorem spec_l6DrawRows_ac {a0v_b : List Int} {a0v_i : Int} {a0v_h : Int} {a1 : Int} {r : l1Cur × (List Row)} (h : spec_l6DrawRows.f (l1Cur.mk a0v_b a0v_i a0v_h) a1 = some r) : AC Try.prog 93 [.v (.bx 88 [.im true (rowsOf u8_c a0v_b), .s (.int .i64 a0v_i), .s (.int .i64 a0v_h)]), .v (.s (.int .i64 a1))] [.v (.bx 88 [.im true (rowsOf u8_c a0v_b), .s (.int .i64 r.1.i), .s (.int .i64 r.1.h)]), .v (.jk)] [.v (.ow 38 (rowsOf Row_o r.2))] := by
  unfold spec_l6DrawRows.f at h
  let ar := Ls.ar; let cm := Ls.cm; let bo := Ls.bo; let sc := Ls.sc; let sa := Ls.sa; let sx := Ls.sx; let ss := Ls.ss; let sl := Ls.sl; let bs := Ls.bs; let sb := Ls.sb; let ln := Ls.ln; let sr := Ls.sr; let ap := Ls.ap; let up := Ls.up; let rp := Ls.rp; let fr := Ls.fr; let ge := Ls.ge; let le := Ls.le; let lt := Ls.lt; let nz := Ls.nz; let mm := Ls.mm; let ma := Ls.ma; let sm := Ls.sm; let fl := Ls.fl; let al := Ls.al; let ci := Ls.ci
  let eInt_c := rowsOf Int_c
  let eRow_o := rowsOf Row_o
  let eu8_c := rowsOf u8_c
  have hL : (⟨ar, cm, bo, sc, sa, sx, ss, sl, bs, sb, ln, sr, ap, up, rp, fr, ge, le, lt, nz, mm, ma, sm, fl, al, ci⟩ : Lf) = Ls := rfl
  show AC Try.prog 93 [.v (.bx 88 [.im true (eu8_c a0v_b), .s (.int .i64 a0v_i), .s (.int .i64 a0v_h)]), .v (.s (.int .i64 a1))] _ _
  refine AC.of_run2 tab_ok Try.func93 (by rfl) (by rfl) (by cbv) ⟨by decide, rfl⟩ fun F hP hA => ?_
  have hT : TabOk F.P tab := hP ▸ tab_ok
  have hM : F.P.follows .mixedOrders = true := hP ▸ mixed
  have hC : ∀ {f a o r}, AC Try.prog f a o r → AC F.P f a o r := fun h => hP ▸ h
  refine Run.seq ?_
  refine Run.region hL hT [] (by cbv) ?_ ?_
  · exact hq0
  refine Run.seq ?_
  refine Run.region hL hT [] (by cbv) ?_ ?_
  · exact hq0
  refine Run.seq ?_
  refine Run.seq ?_
  refine Run.region hL hT [] (by cbv) ?_ ?_
  · exact hq0
  refine Run.block ?_
  refine Run.loop4 (fun (z7 : Int) (z8 : Int) (z9 : List Row) (z10 : Int) => ⟨20, 100000, [(0, .pt 0 0 0), (1, .t (.s (.int .i64 a1))), (5, .rf 1), (6, .t (.s (.int .i64 z10)))], [(0, .box 88 [.t (.im true (eu8_c a0v_b)), .t (.s (.int .i64 z7)), .t (.s (.int .i64 z8))]), (1, .row 0 38 2 (eRow_o z9))]⟩) (x0 := a0v_i) (x1 := a0v_h) (x2 := []) (x3 := 0) h (Weak.of _ [(0, 0), (1, 4097)] hA (by cbv) ?_) (fun _ _ _ _ => rfl) ?_
  · repeat (first | exact hq0 | refine hq (by first | exact True.intro | rfl) ?_)
  · intro k z7 z8 z9 z10 h
    rw [spec_l6DrawRows.l0] at h
    refine Run.seq ?_
    refine Run.seq ?_
    obtain ⟨⟨⟨r11v_1v_b, r11v_1v_i, r11v_1v_h⟩, r11v_2⟩, h_r11, h⟩ := bnd h
    refine Run.region hL hT [(2, .call [true, false] [.v (.bx 88 [.im true (eu8_c a0v_b), .s (.int .i64 r11v_1v_i), .s (.int .i64 r11v_1v_h)]), .v (.jk)] [.v (.s (.int .i64 r11v_2))])] (by cbv) ?_ ?_
    · exact (hq (hC (spec_l1Below_ac h_r11)) (hq trivial hq0))
    refine Run.cond (by cbv) (hq0) (fun c12 => ?_) (fun c12 => ?_)
    · have h := if_t c12 h
      refine Run.skip ?_
      refine Run.seq ?_
      refine Run.block ?_
      obtain ⟨⟨⟨r13v_1v_b, r13v_1v_i, r13v_1v_h⟩, ⟨r13v_2v_Id, r13v_2v_Cells⟩⟩, h_r13, h⟩ := bnd h
      obtain ⟨r14, h_r14, h⟩ := bnd h
      refine Run.region hL hT [(3, .call [true, false] [.v (.bx 88 [.im true (eu8_c a0v_b), .s (.int .i64 r13v_1v_i), .s (.int .i64 r13v_1v_h)]), .v (.jk)] [.ag [.s (.int .i64 r13v_2v_Id), .ow 3 (eInt_c r13v_2v_Cells)]]), (4, .call [false, false] [.v (.jk), .ag [.jk, .jk]] [.v (.ow 38 (eRow_o r14))])] (by cbv) ?_ ?_
      · exact (hq (hC (spec_l6DrawRow_ac h_r13)) (hq (hC (AC.args (spec_RowPut_ac h_r14) (ALe.v (LLe.im (RLe.eq (fr_row Row_o_z _))) (ALe.ag rfl (LLe.c (LLe.cons (LLe.im (RLe.eq (fr_row Int_c_z _))) LLe.nil)) ALe.nil)))) hq0))
      refine Run.region hL hT [] (by cbv) ?_ ?_
      · exact (hq trivial hq0)
      refine ⟨r13v_1v_i, r13v_1v_h, r14, (ar .add .i64 z10 1), h, Weak.of _ [(0, 0), (1, 104100)] hA (by cbv) ?_⟩
      repeat (first | exact hq0 | refine hq (by first | exact True.intro | rfl) ?_)
    · have h := if_f c12 h
      refine Run.exit ?_
      refine Run.seq ?_
      refine Run.region hL hT [] (by cbv) ?_ ?_
      · exact hq0
      refine Run.ret ?_
      cases h
      refine ⟨_, _, by cbv, ?_, ?_⟩
      · exact LLe.r
      · exact (ALe.v LLe.r ALe.nil)

set_option maxRecDepth 8000 in
theorem spec_l7DrawRight_ac {a0v_b : List Int} {a0v_i : Int} {a0v_h : Int} {r : l1Cur × Store} (h : spec_l7DrawRight.f (l1Cur.mk a0v_b a0v_i a0v_h) = some r) : AC Try.prog 64 [.v (.bx 88 [.im true (rowsOf u8_c a0v_b), .s (.int .i64 a0v_i), .s (.int .i64 a0v_h)])] [.v (.bx 88 [.im true (rowsOf u8_c a0v_b), .s (.int .i64 r.1.i), .s (.int .i64 r.1.h)])] [.ag [.ow 3 (rowsOf Int_c r.2.Schema.Cols), .s (.int .i64 r.2.Version), .ow 72 (rowsOf RowS_o r.2.Tables)]] := by
  unfold spec_l7DrawRight.f at h
  let ar := Ls.ar; let cm := Ls.cm; let bo := Ls.bo; let sc := Ls.sc; let sa := Ls.sa; let sx := Ls.sx; let ss := Ls.ss; let sl := Ls.sl; let bs := Ls.bs; let sb := Ls.sb; let ln := Ls.ln; let sr := Ls.sr; let ap := Ls.ap; let up := Ls.up; let rp := Ls.rp; let fr := Ls.fr; let ge := Ls.ge; let le := Ls.le; let lt := Ls.lt; let nz := Ls.nz; let mm := Ls.mm; let ma := Ls.ma; let sm := Ls.sm; let fl := Ls.fl; let al := Ls.al; let ci := Ls.ci
  let eInt_c := rowsOf Int_c
  let eRowS_o := rowsOf RowS_o
  let eRow_o := rowsOf Row_o
  let eu8_c := rowsOf u8_c
  let lenI_RowS := @lenI (List Row)
  have hL : (⟨ar, cm, bo, sc, sa, sx, ss, sl, bs, sb, ln, sr, ap, up, rp, fr, ge, le, lt, nz, mm, ma, sm, fl, al, ci⟩ : Lf) = Ls := rfl
  show AC Try.prog 64 [.v (.bx 88 [.im true (eu8_c a0v_b), .s (.int .i64 a0v_i), .s (.int .i64 a0v_h)])] _ _
  refine AC.of_run2 tab_ok Try.func64 (by rfl) (by rfl) (by cbv) ⟨by decide, rfl⟩ fun F hP hA => ?_
  have hT : TabOk F.P tab := hP ▸ tab_ok
  have hM : F.P.follows .mixedOrders = true := hP ▸ mixed
  have hC : ∀ {f a o r}, AC Try.prog f a o r → AC F.P f a o r := fun h => hP ▸ h
  refine Run.seq ?_
  refine Run.region hL hT [] (by cbv) ?_ ?_
  · exact hq0
  refine Run.seq ?_
  obtain ⟨⟨⟨r1v_1v_b, r1v_1v_i, r1v_1v_h⟩, ⟨r1v_2v_Cols⟩⟩, h_r1, h⟩ := bnd h
  obtain ⟨⟨⟨⟨r2v_1v_Schemav_Cols⟩, r2v_1v_Version, r2v_1v_Tables⟩, r2v_2⟩, h_r2, h⟩ := bnd h
  refine Run.region hL hT [(1, .call [true] [.v (.bx 88 [.im true (eu8_c a0v_b), .s (.int .i64 r1v_1v_i), .s (.int .i64 r1v_1v_h)])] [.ag [.ow 3 (eInt_c r1v_2v_Cols)]]), (2, .call [false] [.ag [.jk]] [.ag [.ow 3 (eInt_c r2v_1v_Schemav_Cols), .s (.int .i64 r2v_1v_Version), .ow 72 (eRowS_o r2v_1v_Tables)], .v (.s (.bool r2v_2))])] (by cbv) ?_ ?_
  · exact (hq (hC (spec_l6DrawSchema_ac h_r1)) (hq (hC (AC.args (spec_StoreNew_ac h_r2) (ALe.ag rfl (LLe.cons (LLe.im (RLe.eq (fr_row Int_c_z _))) LLe.nil) ALe.nil))) (hq trivial hq0)))
  obtain ⟨K6, h_K6, h⟩ := joinE h
  refine Run.join3 K6 (r := r) (fun (y3 : Int) (y4 : Int) (y5 : List (List Row)) => ⟨35, 100000, [(0, .pt 0 0 0), (2, .pt 1 0 0), (3, .pt 2 0 0)], [(0, .box 88 [.t (.im true (eu8_c a0v_b)), .t (.s (.int .i64 y3)), .t (.s (.int .i64 y4))]), (1, .box 29 [.t (.s (.slice none 0 0)), .t (.s (.int .i64 0)), .t (.s (.slice none 0 0))]), (2, .box 29 [.rf 3, .t (.s (.int .i64 r2v_1v_Version)), .rf 4]), (3, .row 0 3 1 (eInt_c r2v_1v_Schemav_Cols)), (4, .row 0 72 1 (eRowS_o y5))]⟩) ?_ ?_
  · skip
    refine Run.seq ?_
    refine Run.region hL hT [] (by cbv) ?_ ?_
    · exact hq0
    refine Run.block ?_
    refine Run.loop4 (fun (z15 : Int) (z16 : Int) (z17 : List (List Row)) (z18 : Int) => ⟨35, 100000, [(0, .pt 0 0 0), (2, .pt 1 0 0), (3, .pt 2 0 0), (5, .t (.s (.int .i64 z18)))], [(0, .box 88 [.t (.im true (eu8_c a0v_b)), .t (.s (.int .i64 z15)), .t (.s (.int .i64 z16))]), (1, .box 29 [.t (.s (.slice none 0 0)), .t (.s (.int .i64 0)), .t (.s (.slice none 0 0))]), (2, .box 29 [.rf 3, .t (.s (.int .i64 r2v_1v_Version)), .rf 4]), (3, .row 0 3 1 (eInt_c r2v_1v_Schemav_Cols)), (4, .row 0 72 1 (eRowS_o z17))]⟩) (x0 := r1v_1v_i) (x1 := r1v_1v_h) (x2 := r2v_1v_Tables) (x3 := 0) h (Weak.of _ [(0, 0), (1, 1), (2, 4103), (3, 4099), (4, 4355)] hA (by cbv) ?_) (fun _ _ _ _ => rfl) ?_
    · repeat (first | exact hq0 | refine hq (by first | exact True.intro | rfl) ?_)
    · intro k z15 z16 z17 z18 h
      rw [spec_l7DrawRight.l0] at h
      refine Run.seq ?_
      refine Run.seq ?_
      refine Run.region hL hT [] (by cbv) ?_ ?_
      · exact (hq trivial (hq trivial hq0))
      rw [show ln (eRowS_o z17) = lenI_RowS z17 from ln_eq RowS_o _]
      refine Run.cond (by cbv) (hq0) (fun c19 => ?_) (fun c19 => ?_)
      · have h := if_t c19 h
        refine Run.skip ?_
        refine Run.seq ?_
        refine Run.block ?_
        obtain ⟨x20, h_x20, h⟩ := bnd h
        obtain ⟨⟨⟨r21v_1v_b, r21v_1v_i, r21v_1v_h⟩, r21v_2⟩, h_r21, h⟩ := bnd h
        obtain ⟨x22, h_x22, h⟩ := bnd h
        obtain ⟨l23, h_l23, h⟩ := bnd h
        refine Run.draw hL hT hM [(9, .el [.s (.int .i64 x20)]), (10, .call [true, false] [.v (.bx 88 [.im true (eu8_c a0v_b), .s (.int .i64 r21v_1v_i), .s (.int .i64 r21v_1v_h)]), .v (.jk)] [.v (.ow 38 (eRow_o r21v_2))])] (by cbv) (by cbv) (by cbv) (by cbv) (by cbv) ?_ ?_
        · exact (hq trivial (hq trivial (hq (get_le h_x20) (hq (get_lt (f := Int_c) h_x20) (hq (get_le h_x20) (hq (get_lt (f := Int_c) h_x20) (hq (get_ge (f := Int_c) h_x20) (hq (hC (spec_l6DrawRows_ac h_r21)) (hq (get_le h_x22) (hq (get_lt (f := RowS_o) h_x22) (hq (get_le h_x22) (hq (get_lt (f := RowS_o) h_x22) hq0))))))))))))
        refine Run.row (rows := (up (eRowS_o z17) z18 0 [.ow 38 (eRow_o r21v_2)])) 4 (eRowS_o l23) (by cbv) (sto_le (f := RowS_o) h_x22 h_l23 rfl LLe.r) ?_
        refine Run.region hL hT [] (by cbv) ?_ ?_
        · exact (hq trivial hq0)
        refine ⟨r21v_1v_i, r21v_1v_h, l23, (ar .add .i64 z18 1), h, Weak.of _ [(0, 0), (1, 1), (2, 2), (3, 3), (4, 4)] hA (by cbv) ?_⟩
        repeat (first | exact hq0 | refine hq (by first | exact True.intro | rfl) ?_)
      · have h := if_f c19 h
        refine Run.exit ?_
        refine ⟨z15, z16, z17, h, Weak.of _ [(0, 0), (1, 1), (2, 2), (3, 3), (4, 4)] hA (by cbv) ?_⟩
        repeat (first | exact hq0 | refine hq (by first | exact True.intro | rfl) ?_)
  · intro y3 y4 y5 h
    rw [h_K6] at h
    refine Run.seq ?_
    obtain ⟨⟨⟨r24v_1v_b, r24v_1v_i, r24v_1v_h⟩, r24v_2⟩, h_r24, h⟩ := bnd h
    refine Run.region hL hT [(1, .call [true, false] [.v (.bx 88 [.im true (eu8_c a0v_b), .s (.int .i64 r24v_1v_i), .s (.int .i64 r24v_1v_h)]), .v (.jk)] [.v (.s (.int .i64 r24v_2))])] (by cbv) ?_ ?_
    · exact (hq (hC (spec_l1Below_ac h_r24)) (hq trivial hq0))
    refine Run.seq ?_
    refine Run.region hL hT [] (by cbv) ?_ ?_
    · exact (hq trivial (hq trivial hq0))
    refine Run.ret ?_
    cases h
    refine ⟨_, _, by cbv, ?_, ?_⟩
    · exact LLe.r
    · exact (ALe.ag rfl LLe.r ALe.nil)

set_option maxRecDepth 8000 in
theorem spec_l7Draw_ac {a0v_b : List Int} {a0v_i : Int} {a0v_h : Int} {r : l1Cur × Store} (h : spec_l7Draw.f (l1Cur.mk a0v_b a0v_i a0v_h) = some r) : AC Try.prog 35 [.v (.bx 88 [.im true (rowsOf u8_c a0v_b), .s (.int .i64 a0v_i), .s (.int .i64 a0v_h)])] [.v (.bx 88 [.im true (rowsOf u8_c a0v_b), .s (.int .i64 r.1.i), .s (.int .i64 r.1.h)])] [.ag [.im true (rowsOf Int_c r.2.Schema.Cols), .s (.int .i64 r.2.Version), .im true (rowsOf RowS_i r.2.Tables)]] := by
  unfold spec_l7Draw.f at h
  let ar := Ls.ar; let cm := Ls.cm; let bo := Ls.bo; let sc := Ls.sc; let sa := Ls.sa; let sx := Ls.sx; let ss := Ls.ss; let sl := Ls.sl; let bs := Ls.bs; let sb := Ls.sb; let ln := Ls.ln; let sr := Ls.sr; let ap := Ls.ap; let up := Ls.up; let rp := Ls.rp; let fr := Ls.fr; let ge := Ls.ge; let le := Ls.le; let lt := Ls.lt; let nz := Ls.nz; let mm := Ls.mm; let ma := Ls.ma; let sm := Ls.sm; let fl := Ls.fl; let al := Ls.al; let ci := Ls.ci
  let eInt_c := rowsOf Int_c
  let eRowS_i := rowsOf RowS_i
  let eRowS_o := rowsOf RowS_o
  let eRow_o := rowsOf Row_o
  let eu8_c := rowsOf u8_c
  let lenI_RowS := @lenI (List Row)
  have hL : (⟨ar, cm, bo, sc, sa, sx, ss, sl, bs, sb, ln, sr, ap, up, rp, fr, ge, le, lt, nz, mm, ma, sm, fl, al, ci⟩ : Lf) = Ls := rfl
  show AC Try.prog 35 [.v (.bx 88 [.im true (eu8_c a0v_b), .s (.int .i64 a0v_i), .s (.int .i64 a0v_h)])] _ _
  refine AC.of_run2 tab_ok Try.func35 (by rfl) (by rfl) (by cbv) ⟨by decide, rfl⟩ fun F hP hA => ?_
  have hT : TabOk F.P tab := hP ▸ tab_ok
  have hM : F.P.follows .mixedOrders = true := hP ▸ mixed
  have hC : ∀ {f a o r}, AC Try.prog f a o r → AC F.P f a o r := fun h => hP ▸ h
  refine Run.seq ?_
  refine Run.region hL hT [] (by cbv) ?_ ?_
  · exact hq0
  refine Run.seq ?_
  obtain ⟨⟨⟨r1v_1v_b, r1v_1v_i, r1v_1v_h⟩, ⟨⟨r1v_2v_Schemav_Cols⟩, r1v_2v_Version, r1v_2v_Tables⟩⟩, h_r1, h⟩ := bnd h
  refine Run.region hL hT [(1, .call [true] [.v (.bx 88 [.im true (eu8_c a0v_b), .s (.int .i64 r1v_1v_i), .s (.int .i64 r1v_1v_h)])] [.ag [.ow 3 (eInt_c r1v_2v_Schemav_Cols), .s (.int .i64 r1v_2v_Version), .ow 72 (eRowS_o r1v_2v_Tables)]])] (by cbv) ?_ ?_
  · exact (hq (hC (spec_l7DrawRight_ac h_r1)) (hq trivial hq0))
  refine Run.seq ?_
  refine Run.seq ?_
  obtain ⟨⟨⟨r2v_1v_b, r2v_1v_i, r2v_1v_h⟩, r2v_2⟩, h_r2, h⟩ := bnd h
  refine Run.region hL hT [(1, .call [true, false] [.v (.bx 88 [.im true (eu8_c a0v_b), .s (.int .i64 r2v_1v_i), .s (.int .i64 r2v_1v_h)]), .v (.jk)] [.v (.s (.int .i64 r2v_2))])] (by cbv) ?_ ?_
  · exact (hq (hC (spec_l1Below_ac h_r2)) hq0)
  refine Run.block ?_
  refine Run.seq ?_
  refine Run.region hL hT [] (by cbv) ?_ ?_
  · exact (hq trivial hq0)
  refine Run.cond (by cbv) (hq0) (fun c3 => ?_) (fun c3 => ?_)
  · have h := if_t c3 h
    obtain ⟨l4, h_l4, h⟩ := bnd h
    obtain ⟨⟨⟨r5v_1v_b, r5v_1v_i, r5v_1v_h⟩, r5v_2⟩, h_r5, h⟩ := bnd h
    refine Run.region hL hT [(2, .call [true, false] [.v (.bx 88 [.im true (eu8_c a0v_b), .s (.int .i64 r5v_1v_i), .s (.int .i64 r5v_1v_h)]), .v (.jk)] [.v (.s (.int .i64 r5v_2))])] (by cbv) ?_ ?_
    · exact (hq (hC (AC.args (spec_l1PickInt_ac h_r5) (ALe.v LLe.r (ALe.v (fr_lit rfl (some_le (f := Int_c) h_l4 (RLe.cons rfl LLe.r (RLe.cons rfl LLe.r (RLe.cons rfl LLe.r RLe.nil))))) ALe.nil)))) (hq trivial hq0))
    refine Run.row (rows := [[.s (.int .i64 (-1))], [.s (.int .i64 100000)], [.s (.int .i64 100001)]]) 16386 (eInt_c l4) (by cbv) (some_le (f := Int_c) h_l4 (RLe.cons rfl LLe.r (RLe.cons rfl LLe.r (RLe.cons rfl LLe.r RLe.nil)))) ?_
    refine Run.seq ?_
    refine Run.region hL hT [] (by cbv) ?_ ?_
    · exact (hq trivial (hq trivial hq0))
    refine Run.weak ?_ (Weak.keep (rows := eInt_c r1v_2v_Schemav_Cols) 4098 (by cbv) (eInt_c r1v_2v_Schemav_Cols) (fr_row Int_c_z _))
    refine Run.weak ?_ (Weak.keep (rows := eRowS_o r1v_2v_Tables) 4354 (by cbv) (eRowS_i r1v_2v_Tables) (fr_row RowS_o_z _))
    refine Run.ret ?_
    cases h
    refine ⟨_, _, by cbv, ?_, ?_⟩
    · exact LLe.r
    · exact (ALe.ag rfl LLe.r ALe.nil)
  · have h := if_f c3 h
    refine Run.seq ?_
    refine Run.region hL hT [] (by cbv) ?_ ?_
    · exact (hq trivial hq0)
    refine Run.cond (by cbv) (hq0) (fun c6 => ?_) (fun c6 => ?_)
    · have h := if_t c6 h
      obtain ⟨l7, h_l7, h⟩ := bnd h
      refine Run.region hL hT [] (by cbv) ?_ ?_
      · exact (hq trivial (hq (cut_0 h_l7) (hq (cut_1r (f := RowS_o) h_l7) (hq (Int.le_refl _) (hq trivial hq0)))))
      rw [show ln (eRowS_o r1v_2v_Tables) = lenI_RowS r1v_2v_Tables from ln_eq RowS_o _]
      refine Run.seq ?_
      refine Run.region hL hT [] (by cbv) ?_ ?_
      · exact (hq trivial (hq trivial hq0))
      refine Run.weak ?_ (Weak.keep (rows := eInt_c r1v_2v_Schemav_Cols) 4098 (by cbv) (eInt_c r1v_2v_Schemav_Cols) (fr_row Int_c_z _))
      refine Run.weak ?_ (Weak.keepB (rows := eRowS_o r1v_2v_Tables) (l := [.t (.im true (eInt_c r1v_2v_Schemav_Cols)), .t (.s (.int .i64 r1v_2v_Version))]) 1 4354 (by cbv) (by cbv) (eRowS_i l7) ((congrArg (fun q => sr q 1 (lenI_RowS r1v_2v_Tables)) (fr_row RowS_o_z _)).trans (cut_sr RowS_i h_l7)))
      refine Run.ret ?_
      cases h
      refine ⟨_, _, by cbv, ?_, ?_⟩
      · exact LLe.r
      · exact (ALe.ag rfl LLe.r ALe.nil)
    · have h := if_f c6 h
      refine Run.seq ?_
      refine Run.region hL hT [] (by cbv) ?_ ?_
      · exact (hq trivial hq0)
      refine Run.cond (by cbv) (hq0) (fun c8 => ?_) (fun c8 => ?_)
      · have h := if_t c8 h
        obtain ⟨x9, h_x9, h⟩ := bnd h
        obtain ⟨⟨⟨r10v_1v_b, r10v_1v_i, r10v_1v_h⟩, ⟨r10v_2v_Id, r10v_2v_Cells⟩⟩, h_r10, h⟩ := bnd h
        obtain ⟨l11, h_l11, h⟩ := bnd h
        obtain ⟨l12, h_l12, h⟩ := bnd h
        obtain ⟨l13, h_l13, h⟩ := bnd h
        refine Run.weak ?_ (Weak.take (rows := eRowS_o r1v_2v_Tables) (e2 := 38) (r2 := eRow_o x9) hT 4354 0 0 27577 1027577 (by cbv) (by cbv) (by cbv) (get_le' h_x9) (get_lt' RowS_o h_x9) ((congrArg (fun q => q[0]?) (get_ge (f := RowS_o) h_x9)).trans rfl) rfl (up (eRowS_o r1v_2v_Tables) 0 0 [.jk]) rfl)
        refine Run.draw hL hT hM [(5, .lk [.jk] [(0, 1027577)]), (7, .call [true, false] [.v (.bx 88 [.im true (eu8_c a0v_b), .s (.int .i64 r10v_1v_i), .s (.int .i64 r10v_1v_h)]), .v (.jk)] [.ag [.s (.int .i64 r10v_2v_Id), .ow 3 (eInt_c r10v_2v_Cells)]])] (by cbv) (by cbv) (by cbv) (by cbv) (by cbv) ?_ ?_
        · exact (hq trivial (hq trivial (hq (get_le h_x9) (hq (up_lt RowS_o h_x9) (hq trivial (hq (get_le h_x9) (hq (up_lt RowS_o h_x9) (hq (up_ge RowS_o h_x9) (hq (hC (spec_l6DrawRow_ac h_r10)) (hq (app_mb (P := Try.prog) (f := Row_o) RLe.r (some_le (f := Row_o) h_l11 (RLe.cons rfl LLe.r RLe.nil)) h_l12) (hq (get_le h_x9) (hq (up_lt RowS_o h_x9) (hq (get_le h_x9) (hq (up_lt RowS_o h_x9) hq0))))))))))))))
        refine Run.row (rows := (up (up (eRowS_o r1v_2v_Tables) 0 0 [.jk]) 0 0 [.ow 38 ((ap (eRow_o x9) ([[.s (.int .i64 r10v_2v_Id), .ow 3 (eInt_c r10v_2v_Cells)]])))])) 4354 (eRowS_o l13) (by cbv) (hole_le (f := RowS_o) h_x9 h_l13 (ltn (RowS_o_n _) (by decide)) rfl (LLe.cons (LLe.ow (app_le (f := Row_o) RLe.r (some_le (f := Row_o) h_l11 (RLe.cons rfl LLe.r RLe.nil)) h_l12)) LLe.nil)) ?_
        refine Run.seq ?_
        refine Run.region hL hT [] (by cbv) ?_ ?_
        · exact (hq trivial (hq trivial hq0))
        refine Run.weak ?_ (Weak.keep (rows := eInt_c r1v_2v_Schemav_Cols) 4098 (by cbv) (eInt_c r1v_2v_Schemav_Cols) (fr_row Int_c_z _))
        refine Run.weak ?_ (Weak.keep (rows := eRowS_o l13) 4354 (by cbv) (eRowS_i l13) (fr_row RowS_o_z _))
        refine Run.ret ?_
        cases h
        refine ⟨_, _, by cbv, ?_, ?_⟩
        · exact LLe.r
        · exact (ALe.ag rfl LLe.r ALe.nil)
      · have h := if_f c8 h
        refine Run.seq ?_
        refine Run.region hL hT [] (by cbv) ?_ ?_
        · exact (hq trivial hq0)
        refine Run.cond (by cbv) (hq0) (fun c14 => ?_) (fun c14 => ?_)
        · have h := if_t c14 h
          obtain ⟨⟨⟨r15v_1v_b, r15v_1v_i, r15v_1v_h⟩, ⟨r15v_2v_Cols⟩⟩, h_r15, h⟩ := bnd h
          refine Run.region hL hT [(1, .call [true] [.v (.bx 88 [.im true (eu8_c a0v_b), .s (.int .i64 r15v_1v_i), .s (.int .i64 r15v_1v_h)])] [.ag [.ow 3 (eInt_c r15v_2v_Cols)]])] (by cbv) ?_ ?_
          · exact (hq (hC (spec_l6DrawBad_ac h_r15)) (hq trivial hq0))
          refine Run.seq ?_
          refine Run.region hL hT [] (by cbv) ?_ ?_
          · exact (hq trivial (hq trivial hq0))
          refine Run.weak ?_ (Weak.keep (rows := eInt_c r15v_2v_Cols) 28674 (by cbv) (eInt_c r15v_2v_Cols) (fr_row Int_c_z _))
          refine Run.weak ?_ (Weak.keep (rows := eRowS_o r1v_2v_Tables) 4354 (by cbv) (eRowS_i r1v_2v_Tables) (fr_row RowS_o_z _))
          refine Run.ret ?_
          cases h
          refine ⟨_, _, by cbv, ?_, ?_⟩
          · exact LLe.r
          · exact (ALe.ag rfl LLe.r ALe.nil)
        · have h := if_f c14 h
          refine Run.skip ?_
          refine Run.seq ?_
          refine Run.region hL hT [] (by cbv) ?_ ?_
          · exact (hq trivial (hq trivial hq0))
          refine Run.weak ?_ (Weak.keep (rows := eInt_c r1v_2v_Schemav_Cols) 4098 (by cbv) (eInt_c r1v_2v_Schemav_Cols) (fr_row Int_c_z _))
          refine Run.weak ?_ (Weak.keep (rows := eRowS_o r1v_2v_Tables) 4354 (by cbv) (eRowS_i r1v_2v_Tables) (fr_row RowS_o_z _))
          refine Run.ret ?_
          cases h
          refine ⟨_, _, by cbv, ?_, ?_⟩
          · exact LLe.r
          · exact (ALe.ag rfl LLe.r ALe.nil)

set_option maxRecDepth 8000 in
theorem spec_RecordNew_ac {a0v_Schemav_Cols : List Int} {a0v_Version : Int} {a0v_Tables : List (List Row)} {r : Record} (h : spec_RecordNew.f (Store.mk (Schema.mk a0v_Schemav_Cols) a0v_Version a0v_Tables) = some r) : AC Try.prog 104 [.ag [.im false (rowsOf Int_c a0v_Schemav_Cols), .s (.int .i64 a0v_Version), .im false (rowsOf RowS_i a0v_Tables)]] [.ag [.jk, .jk, .jk]] [.ag [.ow 3 (rowsOf Int_c r.First.Schema.Cols), .s (.int .i64 r.First.Version), .ow 72 (rowsOf RowS_o r.First.Tables), .ow 30 (rowsOf ChangeS_o r.Steps)]] := by
  unfold spec_RecordNew.f at h
  let ar := Ls.ar; let cm := Ls.cm; let bo := Ls.bo; let sc := Ls.sc; let sa := Ls.sa; let sx := Ls.sx; let ss := Ls.ss; let sl := Ls.sl; let bs := Ls.bs; let sb := Ls.sb; let ln := Ls.ln; let sr := Ls.sr; let ap := Ls.ap; let up := Ls.up; let rp := Ls.rp; let fr := Ls.fr; let ge := Ls.ge; let le := Ls.le; let lt := Ls.lt; let nz := Ls.nz; let mm := Ls.mm; let ma := Ls.ma; let sm := Ls.sm; let fl := Ls.fl; let al := Ls.al; let ci := Ls.ci
  let eInt_c := rowsOf Int_c
  let eRowS_i := rowsOf RowS_i
  let eRowS_o := rowsOf RowS_o
  have hL : (⟨ar, cm, bo, sc, sa, sx, ss, sl, bs, sb, ln, sr, ap, up, rp, fr, ge, le, lt, nz, mm, ma, sm, fl, al, ci⟩ : Lf) = Ls := rfl
  show AC Try.prog 104 [.ag [.im false (eInt_c a0v_Schemav_Cols), .s (.int .i64 a0v_Version), .im false (eRowS_i a0v_Tables)]] _ _
  refine AC.of_run2 tab_ok Try.func104 (by rfl) (by rfl) (by cbv) ⟨by decide, rfl⟩ fun F hP hA => ?_
  have hT : TabOk F.P tab := hP ▸ tab_ok
  have hM : F.P.follows .mixedOrders = true := hP ▸ mixed
  have hC : ∀ {f a o r}, AC Try.prog f a o r → AC F.P f a o r := fun h => hP ▸ h
  refine Run.seq ?_
  refine Run.region hL hT [] (by cbv) ?_ ?_
  · exact hq0
  refine Run.seq ?_
  refine Run.seq ?_
  obtain ⟨r1, h_r1, h⟩ := bnd h
  refine Run.region hL hT [(1, .call [false] [.ag [.jk, .jk, .jk]] [.v (.s (.bool r1))])] (by cbv) ?_ ?_
  · exact (hq trivial (hq (hC (spec_StoreOk_ac h_r1)) hq0))
  refine Run.cond (by cbv) (hq0) (fun c2 => ?_) (fun c2 => ?_)
  · have h := if_t c2 h
    refine Run.seq ?_
    refine Run.region hL hT [] (by cbv) ?_ ?_
    · exact (hq trivial hq0)
    refine Run.ret ?_
    cases h
    refine ⟨_, _, by cbv, ?_, ?_⟩
    · exact LLe.r
    · exact (ALe.ag rfl (LLe.cons LLe.nilO (LLe.c (LLe.cons LLe.nilO (LLe.cons LLe.nilO LLe.nil)))) ALe.nil)
  · have h := if_f c2 h
    refine Run.skip ?_
    refine Run.seq ?_
    obtain ⟨⟨⟨r3v_Schemav_Cols⟩, r3v_Version, r3v_Tables⟩, h_r3, h⟩ := bnd h
    refine Run.region hL hT [(1, .call [false] [.ag [.jk, .jk, .jk]] [.ag [.ow 3 (eInt_c r3v_Schemav_Cols), .s (.int .i64 r3v_Version), .ow 72 (eRowS_o r3v_Tables)]])] (by cbv) ?_ ?_
    · exact (hq trivial (hq (hC (spec_l7Copy_ac h_r3)) (hq trivial hq0)))
    refine Run.ret ?_
    cases h
    refine ⟨_, _, by cbv, ?_, ?_⟩
    · exact LLe.r
    · exact (ALe.ag rfl (LLe.c (LLe.c (LLe.c (LLe.cons LLe.nilO LLe.nil)))) ALe.nil)

set_option maxRecDepth 8000 in
theorem spec_l8Changes_ac {a0 : List Change} {r : (List Change)} (h : spec_l8Changes.f a0 = some r) : AC Try.prog 58 [.v (.im false (rowsOf Change_i a0))] [.v (.jk)] [.v (.ow 40 (rowsOf Change_o r))] := by
  unfold spec_l8Changes.f at h
  let ar := Ls.ar; let cm := Ls.cm; let bo := Ls.bo; let sc := Ls.sc; let sa := Ls.sa; let sx := Ls.sx; let ss := Ls.ss; let sl := Ls.sl; let bs := Ls.bs; let sb := Ls.sb; let ln := Ls.ln; let sr := Ls.sr; let ap := Ls.ap; let up := Ls.up; let rp := Ls.rp; let fr := Ls.fr; let ge := Ls.ge; let le := Ls.le; let lt := Ls.lt; let nz := Ls.nz; let mm := Ls.mm; let ma := Ls.ma; let sm := Ls.sm; let fl := Ls.fl; let al := Ls.al; let ci := Ls.ci
  let eChange_i := rowsOf Change_i
  let eChange_o := rowsOf Change_o
  let eInt_c := rowsOf Int_c
  let lenI_Change := @lenI Change
  have hL : (⟨ar, cm, bo, sc, sa, sx, ss, sl, bs, sb, ln, sr, ap, up, rp, fr, ge, le, lt, nz, mm, ma, sm, fl, al, ci⟩ : Lf) = Ls := rfl
  show AC Try.prog 58 [.v (.im false (eChange_i a0))] _ _
  refine AC.of_run2 tab_ok Try.func58 (by rfl) (by rfl) (by cbv) ⟨by decide, rfl⟩ fun F hP hA => ?_
  have hT : TabOk F.P tab := hP ▸ tab_ok
  have hM : F.P.follows .mixedOrders = true := hP ▸ mixed
  have hC : ∀ {f a o r}, AC Try.prog f a o r → AC F.P f a o r := fun h => hP ▸ h
  refine Run.seq ?_
  refine Run.region hL hT [] (by cbv) ?_ ?_
  · exact hq0
  refine Run.seq ?_
  refine Run.region hL hT [] (by cbv) ?_ ?_
  · exact hq0
  refine Run.seq ?_
  refine Run.seq ?_
  refine Run.region hL hT [] (by cbv) ?_ ?_
  · exact hq0
  refine Run.block ?_
  refine Run.loop2 (fun (z4 : List Change) (z5 : Int) => ⟨34, 100000, [(0, .t (.im false (eChange_i a0))), (3, .rf 1), (4, .t (.s (.int .i64 z5)))], [(1, .row 0 40 7 (eChange_o z4))]⟩) (x0 := []) (x1 := 0) h (Weak.of _ [(1, 4096)] hA (by cbv) ?_) (fun _ _ => rfl) ?_
  · repeat (first | exact hq0 | refine hq (by first | exact True.intro | rfl) ?_)
  · intro k z4 z5 h
    rw [spec_l8Changes.l0] at h
    refine Run.seq ?_
    refine Run.seq ?_
    refine Run.region hL hT [] (by cbv) ?_ ?_
    · exact (hq trivial hq0)
    rw [show ln (eChange_i a0) = lenI_Change a0 from ln_eq Change_i _]
    refine Run.cond (by cbv) (hq0) (fun c6 => ?_) (fun c6 => ?_)
    · have h := if_t c6 h
      refine Run.skip ?_
      refine Run.seq ?_
      refine Run.block ?_
      refine Run.seq ?_
      obtain ⟨⟨x7v_Table, x7v_Had, x7v_Has, ⟨x7v_Oldv_Id, x7v_Oldv_Cells⟩, ⟨x7v_Newv_Id, x7v_Newv_Cells⟩⟩, h_x7, h⟩ := bnd h
      refine Run.region hL hT [(2, .el [.s (.int .i64 x7v_Table), .s (.bool x7v_Had), .s (.bool x7v_Has), .s (.int .i64 x7v_Oldv_Id), .im false (eInt_c x7v_Oldv_Cells), .s (.int .i64 x7v_Newv_Id), .im false (eInt_c x7v_Newv_Cells)])] (by cbv) ?_ ?_
      · exact (hq (get_le h_x7) (hq (get_lt (f := Change_i) h_x7) (hq (get_ge (f := Change_i) h_x7) (hq trivial hq0))))
      obtain ⟨⟨r8v_Id, r8v_Cells⟩, h_r8, h⟩ := bnd h
      obtain ⟨⟨r9v_Id, r9v_Cells⟩, h_r9, h⟩ := bnd h
      obtain ⟨l10, h_l10, h⟩ := bnd h
      obtain ⟨l11, h_l11, h⟩ := bnd h
      refine Run.draw hL hT hM [(9, .call [false] [.ag [.jk, .jk]] [.ag [.s (.int .i64 r8v_Id), .ow 3 (eInt_c r8v_Cells)]]), (12, .call [false] [.ag [.jk, .jk]] [.ag [.s (.int .i64 r9v_Id), .ow 3 (eInt_c r9v_Cells)]])] (by cbv) (by cbv) (by cbv) (by cbv) (by cbv) ?_ ?_
      · exact (hq trivial (hq trivial (hq trivial (hq trivial (hq (hC (spec_l6Copy_ac h_r8)) (hq trivial (hq (hC (spec_l6Copy_ac h_r9)) (hq (app_mb (P := Try.prog) (f := Change_o) RLe.r (some_le (f := Change_o) h_l10 (RLe.cons rfl LLe.r RLe.nil)) h_l11) hq0))))))))
      refine Run.row (rows := (ap (eChange_o z4) ([[.s (.int .i64 x7v_Table), .s (.bool x7v_Had), .s (.bool x7v_Has), .s (.int .i64 r8v_Id), .ow 3 (eInt_c r8v_Cells), .s (.int .i64 r9v_Id), .ow 3 (eInt_c r9v_Cells)]]))) 108207 (eChange_o l11) (by cbv) (app_le (f := Change_o) RLe.r (some_le (f := Change_o) h_l10 (RLe.cons rfl LLe.r RLe.nil)) h_l11) ?_
      refine Run.region hL hT [] (by cbv) ?_ ?_
      · exact (hq trivial hq0)
      refine ⟨l11, (ar .add .i64 z5 1), h, Weak.of _ [(1, 108207)] hA (by cbv) ?_⟩
      repeat (first | exact hq0 | refine hq (by first | exact True.intro | rfl) ?_)
    · have h := if_f c6 h
      refine Run.exit ?_
      refine Run.seq ?_
      refine Run.region hL hT [] (by cbv) ?_ ?_
      · exact hq0
      refine Run.ret ?_
      cases h
      refine ⟨_, _, by cbv, ?_, ?_⟩
      · exact LLe.r
      · exact (ALe.v LLe.r ALe.nil)

set_option maxRecDepth 8000 in
theorem spec_l8Copy_ac {a0v_Firstv_Schemav_Cols : List Int} {a0v_Firstv_Version : Int} {a0v_Firstv_Tables : List (List Row)} {a0v_Steps : List (List Change)} {r : Record} (h : spec_l8Copy.f (Record.mk (Store.mk (Schema.mk a0v_Firstv_Schemav_Cols) a0v_Firstv_Version a0v_Firstv_Tables) a0v_Steps) = some r) : AC Try.prog 61 [.ag [.im false (rowsOf Int_c a0v_Firstv_Schemav_Cols), .s (.int .i64 a0v_Firstv_Version), .im false (rowsOf RowS_i a0v_Firstv_Tables), .im false (rowsOf ChangeS_i a0v_Steps)]] [.ag [.jk, .jk, .jk, .jk]] [.ag [.ow 3 (rowsOf Int_c r.First.Schema.Cols), .s (.int .i64 r.First.Version), .ow 72 (rowsOf RowS_o r.First.Tables), .ow 30 (rowsOf ChangeS_o r.Steps)]] := by
  unfold spec_l8Copy.f at h
  let ar := Ls.ar; let cm := Ls.cm; let bo := Ls.bo; let sc := Ls.sc; let sa := Ls.sa; let sx := Ls.sx; let ss := Ls.ss; let sl := Ls.sl; let bs := Ls.bs; let sb := Ls.sb; let ln := Ls.ln; let sr := Ls.sr; let ap := Ls.ap; let up := Ls.up; let rp := Ls.rp; let fr := Ls.fr; let ge := Ls.ge; let le := Ls.le; let lt := Ls.lt; let nz := Ls.nz; let mm := Ls.mm; let ma := Ls.ma; let sm := Ls.sm; let fl := Ls.fl; let al := Ls.al; let ci := Ls.ci
  let eChangeS_i := rowsOf ChangeS_i
  let eChangeS_o := rowsOf ChangeS_o
  let eChange_i := rowsOf Change_i
  let eChange_o := rowsOf Change_o
  let eInt_c := rowsOf Int_c
  let eRowS_i := rowsOf RowS_i
  let eRowS_o := rowsOf RowS_o
  let lenI_ChangeS := @lenI (List Change)
  have hL : (⟨ar, cm, bo, sc, sa, sx, ss, sl, bs, sb, ln, sr, ap, up, rp, fr, ge, le, lt, nz, mm, ma, sm, fl, al, ci⟩ : Lf) = Ls := rfl
  show AC Try.prog 61 [.ag [.im false (eInt_c a0v_Firstv_Schemav_Cols), .s (.int .i64 a0v_Firstv_Version), .im false (eRowS_i a0v_Firstv_Tables), .im false (eChangeS_i a0v_Steps)]] _ _
  refine AC.of_run2 tab_ok Try.func61 (by rfl) (by rfl) (by cbv) ⟨by decide, rfl⟩ fun F hP hA => ?_
  have hT : TabOk F.P tab := hP ▸ tab_ok
  have hM : F.P.follows .mixedOrders = true := hP ▸ mixed
  have hC : ∀ {f a o r}, AC Try.prog f a o r → AC F.P f a o r := fun h => hP ▸ h
  refine Run.seq ?_
  refine Run.region hL hT [] (by cbv) ?_ ?_
  · exact hq0
  refine Run.seq ?_
  obtain ⟨⟨⟨r1v_Schemav_Cols⟩, r1v_Version, r1v_Tables⟩, h_r1, h⟩ := bnd h
  refine Run.region hL hT [(2, .call [false] [.ag [.jk, .jk, .jk]] [.ag [.ow 3 (eInt_c r1v_Schemav_Cols), .s (.int .i64 r1v_Version), .ow 72 (eRowS_o r1v_Tables)]])] (by cbv) ?_ ?_
  · exact (hq trivial (hq (hC (spec_l7Copy_ac h_r1)) (hq trivial hq0)))
  refine Run.seq ?_
  refine Run.seq ?_
  refine Run.region hL hT [] (by cbv) ?_ ?_
  · exact hq0
  refine Run.block ?_
  refine Run.loop2 (fun (z21 : List (List Change)) (z22 : Int) => ⟨28, 100000, [(1, .pt 1 0 0), (2, .pt 2 0 0), (3, .pt 3 0 0), (4, .t (.s (.int .i64 z22)))], [(1, .box 49 [.t (.im false (eInt_c a0v_Firstv_Schemav_Cols)), .t (.s (.int .i64 a0v_Firstv_Version)), .t (.im false (eRowS_i a0v_Firstv_Tables)), .t (.im false (eChangeS_i a0v_Steps))]), (2, .box 49 [.t (.s (.slice none 0 0)), .t (.s (.int .i64 0)), .t (.s (.slice none 0 0)), .t (.s (.slice none 0 0))]), (3, .box 49 [.rf 4, .t (.s (.int .i64 r1v_Version)), .rf 5, .rf 6]), (4, .row 0 3 1 (eInt_c r1v_Schemav_Cols)), (5, .row 0 72 1 (eRowS_o r1v_Tables)), (6, .row 0 30 1 (eChangeS_o z21))]⟩) (x0 := []) (x1 := 0) h ((Weak.nilB (l := [.rf 4098, .t (.s (.int .i64 r1v_Version)), .rf 4354]) hT 4100 3 13288 30 rfl (by cbv) (by cbv) (by cbv)).trans (Weak.of _ [(1, 0), (2, 1), (3, 4100), (4, 4098), (5, 4354), (6, 13288)] hA (by cbv) ?_)) (fun _ _ => rfl) ?_
  · repeat (first | exact hq0 | refine hq (by first | exact True.intro | rfl) ?_)
  · intro k z21 z22 h
    rw [spec_l8Copy.l0] at h
    refine Run.seq ?_
    refine Run.seq ?_
    refine Run.region hL hT [] (by cbv) ?_ ?_
    · exact (hq trivial (hq trivial hq0))
    rw [show ln (eChangeS_i a0v_Steps) = lenI_ChangeS a0v_Steps from ln_eq ChangeS_i _]
    refine Run.cond (by cbv) (hq0) (fun c23 => ?_) (fun c23 => ?_)
    · have h := if_t c23 h
      refine Run.skip ?_
      refine Run.seq ?_
      refine Run.block ?_
      obtain ⟨x24, h_x24, h⟩ := bnd h
      obtain ⟨r25, h_r25, h⟩ := bnd h
      obtain ⟨l26, h_l26, h⟩ := bnd h
      obtain ⟨l27, h_l27, h⟩ := bnd h
      refine Run.draw hL hT hM [(5, .el [.im false (eChange_i x24)]), (7, .call [false] [.v (.jk)] [.v (.ow 40 (eChange_o r25))])] (by cbv) (by cbv) (by cbv) (by cbv) (by cbv) ?_ ?_
      · exact (hq trivial (hq trivial (hq (get_le h_x24) (hq (get_lt (f := ChangeS_i) h_x24) (hq (get_ge (f := ChangeS_i) h_x24) (hq (hC (spec_l8Changes_ac h_r25)) (hq (app_mb (P := Try.prog) (f := ChangeS_o) RLe.r (some_le (f := ChangeS_o) h_l26 (RLe.cons rfl LLe.r RLe.nil)) h_l27) (hq trivial hq0))))))))
      refine Run.row (rows := (ap (eChangeS_o z21) ([[.ow 40 (eChange_o r25)]]))) 104105 (eChangeS_o l27) (by cbv) (app_le (f := ChangeS_o) RLe.r (some_le (f := ChangeS_o) h_l26 (RLe.cons rfl LLe.r RLe.nil)) h_l27) ?_
      refine Run.region hL hT [] (by cbv) ?_ ?_
      · exact (hq trivial hq0)
      refine ⟨l27, (ar .add .i64 z22 1), h, Weak.of _ [(1, 1), (2, 2), (3, 3), (4, 4), (5, 5), (6, 104105)] hA (by cbv) ?_⟩
      repeat (first | exact hq0 | refine hq (by first | exact True.intro | rfl) ?_)
    · have h := if_f c23 h
      refine Run.exit ?_
      refine Run.seq ?_
      refine Run.region hL hT [] (by cbv) ?_ ?_
      · exact (hq trivial (hq trivial hq0))
      refine Run.ret ?_
      cases h
      refine ⟨_, _, by cbv, ?_, ?_⟩
      · exact LLe.r
      · exact (ALe.ag rfl LLe.r ALe.nil)

set_option maxRecDepth 8000 in
theorem spec_RecordPut_ac {a0v_Firstv_Schemav_Cols : List Int} {a0v_Firstv_Version : Int} {a0v_Firstv_Tables : List (List Row)} {a0v_Steps : List (List Change)} {a1 : List Change} {r : Record × Bool} (h : spec_RecordPut.f (Record.mk (Store.mk (Schema.mk a0v_Firstv_Schemav_Cols) a0v_Firstv_Version a0v_Firstv_Tables) a0v_Steps) a1 = some r) : AC Try.prog 30 [.ag [.im false (rowsOf Int_c a0v_Firstv_Schemav_Cols), .s (.int .i64 a0v_Firstv_Version), .im false (rowsOf RowS_i a0v_Firstv_Tables), .im false (rowsOf ChangeS_i a0v_Steps)], .v (.im false (rowsOf Change_i a1))] [.ag [.jk, .jk, .jk, .jk], .v (.jk)] [.ag [.ow 3 (rowsOf Int_c r.1.First.Schema.Cols), .s (.int .i64 r.1.First.Version), .ow 72 (rowsOf RowS_o r.1.First.Tables), .ow 30 (rowsOf ChangeS_o r.1.Steps)], .v (.s (.bool r.2))] := by
  unfold spec_RecordPut.f at h
  let ar := Ls.ar; let cm := Ls.cm; let bo := Ls.bo; let sc := Ls.sc; let sa := Ls.sa; let sx := Ls.sx; let ss := Ls.ss; let sl := Ls.sl; let bs := Ls.bs; let sb := Ls.sb; let ln := Ls.ln; let sr := Ls.sr; let ap := Ls.ap; let up := Ls.up; let rp := Ls.rp; let fr := Ls.fr; let ge := Ls.ge; let le := Ls.le; let lt := Ls.lt; let nz := Ls.nz; let mm := Ls.mm; let ma := Ls.ma; let sm := Ls.sm; let fl := Ls.fl; let al := Ls.al; let ci := Ls.ci
  let eChangeS_i := rowsOf ChangeS_i
  let eChangeS_o := rowsOf ChangeS_o
  let eChange_i := rowsOf Change_i
  let eChange_o := rowsOf Change_o
  let eInt_c := rowsOf Int_c
  let eRowS_i := rowsOf RowS_i
  let eRowS_o := rowsOf RowS_o
  have hL : (⟨ar, cm, bo, sc, sa, sx, ss, sl, bs, sb, ln, sr, ap, up, rp, fr, ge, le, lt, nz, mm, ma, sm, fl, al, ci⟩ : Lf) = Ls := rfl
  show AC Try.prog 30 [.ag [.im false (eInt_c a0v_Firstv_Schemav_Cols), .s (.int .i64 a0v_Firstv_Version), .im false (eRowS_i a0v_Firstv_Tables), .im false (eChangeS_i a0v_Steps)], .v (.im false (eChange_i a1))] _ _
  refine AC.of_run2 tab_ok Try.func30 (by rfl) (by rfl) (by cbv) ⟨by decide, rfl⟩ fun F hP hA => ?_
  have hT : TabOk F.P tab := hP ▸ tab_ok
  have hM : F.P.follows .mixedOrders = true := hP ▸ mixed
  have hC : ∀ {f a o r}, AC Try.prog f a o r → AC F.P f a o r := fun h => hP ▸ h
  refine Run.seq ?_
  refine Run.region hL hT [] (by cbv) ?_ ?_
  · exact hq0
  refine Run.seq ?_
  refine Run.seq ?_
  obtain ⟨r1, h_r1, h⟩ := bnd h
  refine Run.region hL hT [(1, .call [false] [.ag [.jk, .jk, .jk, .jk]] [.v (.s (.bool r1))])] (by cbv) ?_ ?_
  · exact (hq trivial (hq (hC (spec_RecordOk_ac h_r1)) hq0))
  refine Run.cond (by cbv) (hq0) (fun c2 => ?_) (fun c2 => ?_)
  · have h := if_t c2 h
    refine Run.seq ?_
    refine Run.region hL hT [] (by cbv) ?_ ?_
    · exact (hq trivial hq0)
    refine Run.ret ?_
    cases h
    refine ⟨_, _, by cbv, ?_, ?_⟩
    · exact LLe.r
    · exact (ALe.ag rfl (LLe.cons LLe.nilO (LLe.c (LLe.cons LLe.nilO (LLe.cons LLe.nilO LLe.nil)))) (ALe.v LLe.r ALe.nil))
  · have h := if_f c2 h
    refine Run.skip ?_
    refine Run.seq ?_
    obtain ⟨⟨⟨⟨r3v_Firstv_Schemav_Cols⟩, r3v_Firstv_Version, r3v_Firstv_Tables⟩, r3v_Steps⟩, h_r3, h⟩ := bnd h
    refine Run.region hL hT [(1, .call [false] [.ag [.jk, .jk, .jk, .jk]] [.ag [.ow 3 (eInt_c r3v_Firstv_Schemav_Cols), .s (.int .i64 r3v_Firstv_Version), .ow 72 (eRowS_o r3v_Firstv_Tables), .ow 30 (eChangeS_o r3v_Steps)]])] (by cbv) ?_ ?_
    · exact (hq trivial (hq (hC (spec_l8Copy_ac h_r3)) (hq trivial hq0)))
    refine Run.seq ?_
    obtain ⟨r4, h_r4, h⟩ := bnd h
    obtain ⟨l5, h_l5, h⟩ := bnd h
    obtain ⟨l6, h_l6, h⟩ := bnd h
    refine Run.draw hL hT hM [(3, .call [false] [.v (.jk)] [.v (.ow 40 (eChange_o r4))])] (by cbv) (by cbv) (by cbv) (by cbv) (by cbv) ?_ ?_
    · exact (hq trivial (hq (hC (spec_l8Changes_ac h_r4)) (hq (app_mb (P := Try.prog) (f := ChangeS_o) RLe.r (some_le (f := ChangeS_o) h_l5 (RLe.cons rfl LLe.r RLe.nil)) h_l6) (hq trivial hq0))))
    refine Run.row (rows := (ap (eChangeS_o r3v_Steps) ([[.ow 40 (eChange_o r4)]]))) 12293 (eChangeS_o l6) (by cbv) (app_le (f := ChangeS_o) RLe.r (some_le (f := ChangeS_o) h_l5 (RLe.cons rfl LLe.r RLe.nil)) h_l6) ?_
    refine Run.seq ?_
    refine Run.seq ?_
    obtain ⟨r7, h_r7, h⟩ := bnd h
    refine Run.region hL hT [(1, .call [false] [.ag [.jk, .jk, .jk, .jk]] [.v (.s (.bool r7))])] (by cbv) ?_ ?_
    · exact (hq trivial (hq (hC (AC.args (spec_RecordOk_ac h_r7) (ALe.ag rfl (LLe.cons (LLe.im (RLe.eq (fr_row Int_c_z _))) (LLe.c (LLe.cons (LLe.im (RLe.eq (fr_row RowS_o_z _))) (LLe.cons (LLe.im (RLe.eq (fr_row ChangeS_o_z _))) LLe.nil)))) ALe.nil))) hq0))
    refine Run.cond (by cbv) (hq0) (fun c8 => ?_) (fun c8 => ?_)
    · have h := if_t c8 h
      refine Run.seq ?_
      obtain ⟨⟨⟨⟨r9v_Firstv_Schemav_Cols⟩, r9v_Firstv_Version, r9v_Firstv_Tables⟩, r9v_Steps⟩, h_r9, h⟩ := bnd h
      refine Run.region hL hT [(1, .call [false] [.ag [.jk, .jk, .jk, .jk]] [.ag [.ow 3 (eInt_c r9v_Firstv_Schemav_Cols), .s (.int .i64 r9v_Firstv_Version), .ow 72 (eRowS_o r9v_Firstv_Tables), .ow 30 (eChangeS_o r9v_Steps)]])] (by cbv) ?_ ?_
      · exact (hq trivial (hq (hC (spec_l8Copy_ac h_r9)) (hq trivial hq0)))
      refine Run.ret ?_
      cases h
      refine ⟨_, _, by cbv, ?_, ?_⟩
      · exact LLe.r
      · exact (ALe.ag rfl LLe.r (ALe.v LLe.r ALe.nil))
    · have h := if_f c8 h
      refine Run.skip ?_
      refine Run.seq ?_
      refine Run.region hL hT [] (by cbv) ?_ ?_
      · exact (hq trivial (hq trivial hq0))
      refine Run.ret ?_
      cases h
      refine ⟨_, _, by cbv, ?_, ?_⟩
      · exact LLe.r
      · exact (ALe.ag rfl LLe.r (ALe.v LLe.r ALe.nil))

set_option maxRecDepth 8000 in
theorem spec_l8DrawRight_ac {a0v_b : List Int} {a0v_i : Int} {a0v_h : Int} {r : l1Cur × Record} (h : spec_l8DrawRight.f (l1Cur.mk a0v_b a0v_i a0v_h) = some r) : AC Try.prog 90 [.v (.bx 88 [.im true (rowsOf u8_c a0v_b), .s (.int .i64 a0v_i), .s (.int .i64 a0v_h)])] [.v (.bx 88 [.im true (rowsOf u8_c a0v_b), .s (.int .i64 r.1.i), .s (.int .i64 r.1.h)])] [.ag [.ow 3 (rowsOf Int_c r.2.First.Schema.Cols), .s (.int .i64 r.2.First.Version), .ow 72 (rowsOf RowS_o r.2.First.Tables), .ow 30 (rowsOf ChangeS_o r.2.Steps)]] := by
  unfold spec_l8DrawRight.f at h
  let ar := Ls.ar; let cm := Ls.cm; let bo := Ls.bo; let sc := Ls.sc; let sa := Ls.sa; let sx := Ls.sx; let ss := Ls.ss; let sl := Ls.sl; let bs := Ls.bs; let sb := Ls.sb; let ln := Ls.ln; let sr := Ls.sr; let ap := Ls.ap; let up := Ls.up; let rp := Ls.rp; let fr := Ls.fr; let ge := Ls.ge; let le := Ls.le; let lt := Ls.lt; let nz := Ls.nz; let mm := Ls.mm; let ma := Ls.ma; let sm := Ls.sm; let fl := Ls.fl; let al := Ls.al; let ci := Ls.ci
  let eChangeS_o := rowsOf ChangeS_o
  let eChange_o := rowsOf Change_o
  let eInt_c := rowsOf Int_c
  let eMut_o := rowsOf Mut_o
  let eRowS_o := rowsOf RowS_o
  let eu8_c := rowsOf u8_c
  have hL : (⟨ar, cm, bo, sc, sa, sx, ss, sl, bs, sb, ln, sr, ap, up, rp, fr, ge, le, lt, nz, mm, ma, sm, fl, al, ci⟩ : Lf) = Ls := rfl
  show AC Try.prog 90 [.v (.bx 88 [.im true (eu8_c a0v_b), .s (.int .i64 a0v_i), .s (.int .i64 a0v_h)])] _ _
  refine AC.of_run2 tab_ok Try.func90 (by rfl) (by rfl) (by cbv) ⟨by decide, rfl⟩ fun F hP hA => ?_
  have hT : TabOk F.P tab := hP ▸ tab_ok
  have hM : F.P.follows .mixedOrders = true := hP ▸ mixed
  have hC : ∀ {f a o r}, AC Try.prog f a o r → AC F.P f a o r := fun h => hP ▸ h
  refine Run.seq ?_
  refine Run.region hL hT [] (by cbv) ?_ ?_
  · exact hq0
  refine Run.seq ?_
  obtain ⟨⟨⟨r1v_1v_b, r1v_1v_i, r1v_1v_h⟩, ⟨⟨r1v_2v_Schemav_Cols⟩, r1v_2v_Version, r1v_2v_Tables⟩⟩, h_r1, h⟩ := bnd h
  refine Run.region hL hT [(1, .call [true] [.v (.bx 88 [.im true (eu8_c a0v_b), .s (.int .i64 r1v_1v_i), .s (.int .i64 r1v_1v_h)])] [.ag [.ow 3 (eInt_c r1v_2v_Schemav_Cols), .s (.int .i64 r1v_2v_Version), .ow 72 (eRowS_o r1v_2v_Tables)]])] (by cbv) ?_ ?_
  · exact (hq (hC (spec_l7DrawRight_ac h_r1)) (hq trivial hq0))
  refine Run.seq ?_
  obtain ⟨⟨⟨⟨r2v_Firstv_Schemav_Cols⟩, r2v_Firstv_Version, r2v_Firstv_Tables⟩, r2v_Steps⟩, h_r2, h⟩ := bnd h
  refine Run.region hL hT [(1, .call [false] [.ag [.jk, .jk, .jk]] [.ag [.ow 3 (eInt_c r2v_Firstv_Schemav_Cols), .s (.int .i64 r2v_Firstv_Version), .ow 72 (eRowS_o r2v_Firstv_Tables), .ow 30 (eChangeS_o r2v_Steps)]])] (by cbv) ?_ ?_
  · exact (hq trivial (hq (hC (AC.args (spec_RecordNew_ac h_r2) (ALe.ag rfl (LLe.cons (LLe.im (RLe.eq (fr_row Int_c_z _))) (LLe.c (LLe.cons (LLe.im (RLe.eq (fr_row RowS_o_z _))) LLe.nil))) ALe.nil))) (hq trivial hq0)))
  refine Run.seq ?_
  obtain ⟨⟨⟨r3v_1v_b, r3v_1v_i, r3v_1v_h⟩, r3v_2⟩, h_r3, h⟩ := bnd h
  refine Run.region hL hT [(1, .call [true, false] [.v (.bx 88 [.im true (eu8_c a0v_b), .s (.int .i64 r3v_1v_i), .s (.int .i64 r3v_1v_h)]), .v (.jk)] [.v (.s (.int .i64 r3v_2))])] (by cbv) ?_ ?_
  · exact (hq (hC (spec_l1Below_ac h_r3)) hq0)
  refine Run.seq ?_
  refine Run.seq ?_
  refine Run.region hL hT [] (by cbv) ?_ ?_
  · exact hq0
  refine Run.block ?_
  refine Run.loop10 (fun (z17 : Int) (z18 : Int) (z19 : List Int) (z20 : Int) (z21 : List (List Row)) (z22 : List Int) (z23 : Int) (z24 : List (List Row)) (z25 : List (List Change)) (z26 : Int) => ⟨39, 100000, [(0, .pt 0 0 0), (2, .pt 1 0 0), (3, .pt 2 0 0), (4, .pt 5 0 0), (5, .t (.s (.int .i64 r3v_2))), (6, .t (.s (.int .i64 z26)))], [(0, .box 88 [.t (.im true (eu8_c a0v_b)), .t (.s (.int .i64 z17)), .t (.s (.int .i64 z18))]), (1, .box 49 [.t (.s (.slice none 0 0)), .t (.s (.int .i64 0)), .t (.s (.slice none 0 0)), .t (.s (.slice none 0 0))]), (2, .box 29 [.rf 3, .t (.s (.int .i64 z20)), .rf 4]), (3, .row 0 3 1 (eInt_c z19)), (4, .row 0 72 1 (eRowS_o z21)), (5, .box 49 [.rf 6, .t (.s (.int .i64 z23)), .rf 7, .rf 8]), (6, .row 0 3 1 (eInt_c z22)), (7, .row 0 72 1 (eRowS_o z24)), (8, .row 0 30 1 (eChangeS_o z25))]⟩) (x0 := r3v_1v_i) (x1 := r3v_1v_h) (x2 := r1v_2v_Schemav_Cols) (x3 := r1v_2v_Version) (x4 := r1v_2v_Tables) (x5 := r2v_Firstv_Schemav_Cols) (x6 := r2v_Firstv_Version) (x7 := r2v_Firstv_Tables) (x8 := r2v_Steps) (x9 := 0) h (Weak.of _ [(0, 0), (1, 1), (2, 4099), (3, 4098), (4, 4354), (5, 8195), (6, 8194), (7, 8450), (8, 8706)] hA (by cbv) ?_) (fun _ _ _ _ _ _ _ _ _ _ => rfl) ?_
  · repeat (first | exact hq0 | refine hq (by first | exact True.intro | rfl) ?_)
  · intro k z17 z18 z19 z20 z21 z22 z23 z24 z25 z26 h
    rw [spec_l8DrawRight.l0] at h
    refine Run.seq ?_
    refine Run.seq ?_
    refine Run.region hL hT [] (by cbv) ?_ ?_
    · exact (hq trivial hq0)
    refine Run.cond (by cbv) (hq0) (fun c27 => ?_) (fun c27 => ?_)
    · have h := if_t c27 h
      refine Run.skip ?_
      refine Run.seq ?_
      refine Run.block ?_
      refine Run.seq ?_
      obtain ⟨⟨⟨r28v_1v_b, r28v_1v_i, r28v_1v_h⟩, r28v_2⟩, h_r28, h⟩ := bnd h
      obtain ⟨⟨⟨⟨r29v_1v_Schemav_Cols⟩, r29v_1v_Version, r29v_1v_Tables⟩, r29v_2v_1, r29v_2v_2⟩, h_r29, h⟩ := bnd h
      refine Run.draw hL hT hM [(3, .call [true, false] [.v (.bx 88 [.im true (eu8_c a0v_b), .s (.int .i64 r28v_1v_i), .s (.int .i64 r28v_1v_h)]), .ag [.jk, .jk, .jk]] [.v (.ow 78 (eMut_o r28v_2))]), (4, .call [false, false] [.ag [.jk, .jk, .jk], .v (.jk)] [.ag [.ow 3 (eInt_c r29v_1v_Schemav_Cols), .s (.int .i64 r29v_1v_Version), .ow 72 (eRowS_o r29v_1v_Tables)], .v (.ow 40 (eChange_o r29v_2v_1)), .v (.s (.bool r29v_2v_2))])] (by cbv) (by cbv) (by cbv) (by cbv) (by cbv) ?_ ?_
      · exact (hq trivial (hq trivial (hq (hC (AC.args (spec_l7DrawBatch_ac h_r28) (ALe.v LLe.r (ALe.ag rfl (LLe.cons (LLe.im (RLe.eq (fr_row Int_c_z _))) (LLe.c (LLe.cons (LLe.im (RLe.eq (fr_row RowS_o_z _))) LLe.nil))) ALe.nil)))) (hq (hC (AC.args (spec_BatchDo_ac h_r29) (ALe.ag rfl (LLe.cons (LLe.im (RLe.eq (fr_row Int_c_z _))) (LLe.c (LLe.cons (LLe.im (RLe.eq (fr_row RowS_o_z _))) LLe.nil))) (ALe.v (LLe.im (RLe.eq (fr_row Mut_o_z _))) ALe.nil)))) (hq trivial hq0)))))
      refine Run.seq ?_
      refine Run.region hL hT [] (by cbv) ?_ ?_
      · exact hq0
      refine Run.cond (by cbv) (hq0) (fun c30 => ?_) (fun c30 => ?_)
      · have h := if_t c30 h
        refine Run.seq ?_
        refine Run.region hL hT [] (by cbv) ?_ ?_
        · exact (hq trivial (hq trivial hq0))
        obtain ⟨⟨⟨⟨⟨r31v_1v_Firstv_Schemav_Cols⟩, r31v_1v_Firstv_Version, r31v_1v_Firstv_Tables⟩, r31v_1v_Steps⟩, r31v_2⟩, h_r31, h⟩ := bnd h
        refine Run.region hL hT [(2, .call [false, false] [.ag [.jk, .jk, .jk, .jk], .v (.jk)] [.ag [.ow 3 (eInt_c r31v_1v_Firstv_Schemav_Cols), .s (.int .i64 r31v_1v_Firstv_Version), .ow 72 (eRowS_o r31v_1v_Firstv_Tables), .ow 30 (eChangeS_o r31v_1v_Steps)], .v (.s (.bool r31v_2))])] (by cbv) ?_ ?_
        · exact (hq trivial (hq (hC (AC.args (spec_RecordPut_ac h_r31) (ALe.ag rfl (LLe.cons (LLe.im (RLe.eq (fr_row Int_c_z _))) (LLe.c (LLe.cons (LLe.im (RLe.eq (fr_row RowS_o_z _))) (LLe.cons (LLe.im (RLe.eq (fr_row ChangeS_o_z _))) LLe.nil)))) (ALe.v (LLe.im (RLe.eq (fr_row Change_o_z _))) ALe.nil)))) (hq trivial hq0)))
        refine Run.region hL hT [] (by cbv) ?_ ?_
        · exact (hq trivial hq0)
        refine ⟨r28v_1v_i, r28v_1v_h, r29v_1v_Schemav_Cols, r29v_1v_Version, r29v_1v_Tables, r31v_1v_Firstv_Schemav_Cols, r31v_1v_Firstv_Version, r31v_1v_Firstv_Tables, r31v_1v_Steps, (ar .add .i64 z26 1), h, Weak.of _ [(0, 0), (1, 1), (2, 2), (3, 104100), (4, 104356), (5, 5), (6, 116386), (7, 116642), (8, 116898)] hA (by cbv) ?_⟩
        repeat (first | exact hq0 | refine hq (by first | exact True.intro | rfl) ?_)
      · have h := if_f c30 h
        refine Run.skip ?_
        refine Run.region hL hT [] (by cbv) ?_ ?_
        · exact (hq trivial hq0)
        refine ⟨r28v_1v_i, r28v_1v_h, z19, z20, z21, z22, z23, z24, z25, (ar .add .i64 z26 1), h, Weak.of _ [(0, 0), (1, 1), (2, 2), (3, 3), (4, 4), (5, 5), (6, 6), (7, 7), (8, 8)] hA (by cbv) ?_⟩
        repeat (first | exact hq0 | refine hq (by first | exact True.intro | rfl) ?_)
    · have h := if_f c27 h
      refine Run.exit ?_
      refine Run.seq ?_
      refine Run.region hL hT [] (by cbv) ?_ ?_
      · exact (hq trivial (hq trivial hq0))
      refine Run.ret ?_
      cases h
      refine ⟨_, _, by cbv, ?_, ?_⟩
      · exact LLe.r
      · exact (ALe.ag rfl LLe.r ALe.nil)

set_option maxRecDepth 8000 in
theorem spec_l8Draw_ac {a0v_b : List Int} {a0v_i : Int} {a0v_h : Int} {r : l1Cur × Record} (h : spec_l8Draw.f (l1Cur.mk a0v_b a0v_i a0v_h) = some r) : AC Try.prog 59 [.v (.bx 88 [.im true (rowsOf u8_c a0v_b), .s (.int .i64 a0v_i), .s (.int .i64 a0v_h)])] [.v (.bx 88 [.im true (rowsOf u8_c a0v_b), .s (.int .i64 r.1.i), .s (.int .i64 r.1.h)])] [.ag [.im true (rowsOf Int_c r.2.First.Schema.Cols), .s (.int .i64 r.2.First.Version), .im true (rowsOf RowS_i r.2.First.Tables), .im true (rowsOf ChangeS_i r.2.Steps)]] := by
  unfold spec_l8Draw.f at h
  let ar := Ls.ar; let cm := Ls.cm; let bo := Ls.bo; let sc := Ls.sc; let sa := Ls.sa; let sx := Ls.sx; let ss := Ls.ss; let sl := Ls.sl; let bs := Ls.bs; let sb := Ls.sb; let ln := Ls.ln; let sr := Ls.sr; let ap := Ls.ap; let up := Ls.up; let rp := Ls.rp; let fr := Ls.fr; let ge := Ls.ge; let le := Ls.le; let lt := Ls.lt; let nz := Ls.nz; let mm := Ls.mm; let ma := Ls.ma; let sm := Ls.sm; let fl := Ls.fl; let al := Ls.al; let ci := Ls.ci
  let eChangeS_i := rowsOf ChangeS_i
  let eChangeS_o := rowsOf ChangeS_o
  let eChange_o := rowsOf Change_o
  let eInt_c := rowsOf Int_c
  let eRowS_i := rowsOf RowS_i
  let eRowS_o := rowsOf RowS_o
  let eu8_c := rowsOf u8_c
  let lenI_ChangeS := @lenI (List Change)
  have hL : (⟨ar, cm, bo, sc, sa, sx, ss, sl, bs, sb, ln, sr, ap, up, rp, fr, ge, le, lt, nz, mm, ma, sm, fl, al, ci⟩ : Lf) = Ls := rfl
  show AC Try.prog 59 [.v (.bx 88 [.im true (eu8_c a0v_b), .s (.int .i64 a0v_i), .s (.int .i64 a0v_h)])] _ _
  refine AC.of_run2 tab_ok Try.func59 (by rfl) (by rfl) (by cbv) ⟨by decide, rfl⟩ fun F hP hA => ?_
  have hT : TabOk F.P tab := hP ▸ tab_ok
  have hM : F.P.follows .mixedOrders = true := hP ▸ mixed
  have hC : ∀ {f a o r}, AC Try.prog f a o r → AC F.P f a o r := fun h => hP ▸ h
  refine Run.seq ?_
  refine Run.region hL hT [] (by cbv) ?_ ?_
  · exact hq0
  refine Run.seq ?_
  obtain ⟨⟨⟨r1v_1v_b, r1v_1v_i, r1v_1v_h⟩, ⟨⟨⟨r1v_2v_Firstv_Schemav_Cols⟩, r1v_2v_Firstv_Version, r1v_2v_Firstv_Tables⟩, r1v_2v_Steps⟩⟩, h_r1, h⟩ := bnd h
  refine Run.region hL hT [(1, .call [true] [.v (.bx 88 [.im true (eu8_c a0v_b), .s (.int .i64 r1v_1v_i), .s (.int .i64 r1v_1v_h)])] [.ag [.ow 3 (eInt_c r1v_2v_Firstv_Schemav_Cols), .s (.int .i64 r1v_2v_Firstv_Version), .ow 72 (eRowS_o r1v_2v_Firstv_Tables), .ow 30 (eChangeS_o r1v_2v_Steps)]])] (by cbv) ?_ ?_
  · exact (hq (hC (spec_l8DrawRight_ac h_r1)) (hq trivial hq0))
  refine Run.seq ?_
  refine Run.seq ?_
  obtain ⟨⟨⟨r2v_1v_b, r2v_1v_i, r2v_1v_h⟩, r2v_2⟩, h_r2, h⟩ := bnd h
  refine Run.region hL hT [(1, .call [true, false] [.v (.bx 88 [.im true (eu8_c a0v_b), .s (.int .i64 r2v_1v_i), .s (.int .i64 r2v_1v_h)]), .v (.jk)] [.v (.s (.int .i64 r2v_2))])] (by cbv) ?_ ?_
  · exact (hq (hC (spec_l1Below_ac h_r2)) hq0)
  refine Run.block ?_
  refine Run.seq ?_
  refine Run.region hL hT [] (by cbv) ?_ ?_
  · exact (hq trivial hq0)
  refine Run.cond (by cbv) (hq0) (fun c3 => ?_) (fun c3 => ?_)
  · have h := if_t c3 h
    obtain ⟨⟨⟨r4v_1v_b, r4v_1v_i, r4v_1v_h⟩, ⟨⟨r4v_2v_Schemav_Cols⟩, r4v_2v_Version, r4v_2v_Tables⟩⟩, h_r4, h⟩ := bnd h
    refine Run.region hL hT [(1, .call [true] [.v (.bx 88 [.im true (eu8_c a0v_b), .s (.int .i64 r4v_1v_i), .s (.int .i64 r4v_1v_h)])] [.ag [.im true (eInt_c r4v_2v_Schemav_Cols), .s (.int .i64 r4v_2v_Version), .im true (eRowS_i r4v_2v_Tables)]])] (by cbv) ?_ ?_
    · exact (hq (hC (spec_l7Draw_ac h_r4)) (hq trivial hq0))
    refine Run.seq ?_
    refine Run.region hL hT [] (by cbv) ?_ ?_
    · exact (hq trivial (hq trivial hq0))
    refine Run.weak ?_ (Weak.keep (rows := eChangeS_o r1v_2v_Steps) 4610 (by cbv) (eChangeS_i r1v_2v_Steps) (fr_row ChangeS_o_z _))
    refine Run.ret ?_
    cases h
    refine ⟨_, _, by cbv, ?_, ?_⟩
    · exact LLe.r
    · exact (ALe.ag rfl LLe.r ALe.nil)
  · have h := if_f c3 h
    refine Run.seq ?_
    refine Run.region hL hT [] (by cbv) ?_ ?_
    · exact (hq trivial hq0)
    refine Run.cond (by cbv) (hq0) (fun c5 => ?_) (fun c5 => ?_)
    · have h := if_t c5 h
      refine Run.seq ?_
      refine Run.region hL hT [] (by cbv) ?_ ?_
      · exact (hq trivial (hq trivial hq0))
      rw [show ln (eChangeS_o r1v_2v_Steps) = lenI_ChangeS r1v_2v_Steps from ln_eq ChangeS_o _]
      refine Run.cond (by cbv) (hq0) (fun c6 => ?_) (fun c6 => ?_)
      · have h := if_t c6 h
        obtain ⟨l7, h_l7, h⟩ := bnd h
        refine Run.region hL hT [] (by cbv) ?_ ?_
        · exact (hq trivial (hq (cut_0 h_l7) (hq (cut_1r (f := ChangeS_o) h_l7) (hq (Int.le_refl _) (hq trivial hq0)))))
        rw [show ln (eChangeS_o r1v_2v_Steps) = lenI_ChangeS r1v_2v_Steps from ln_eq ChangeS_o _]
        refine Run.seq ?_
        refine Run.region hL hT [] (by cbv) ?_ ?_
        · exact (hq trivial (hq trivial hq0))
        refine Run.weak ?_ (Weak.keep (rows := eInt_c r1v_2v_Firstv_Schemav_Cols) 4098 (by cbv) (eInt_c r1v_2v_Firstv_Schemav_Cols) (fr_row Int_c_z _))
        refine Run.weak ?_ (Weak.keep (rows := eRowS_o r1v_2v_Firstv_Tables) 4354 (by cbv) (eRowS_i r1v_2v_Firstv_Tables) (fr_row RowS_o_z _))
        refine Run.weak ?_ (Weak.keepB (rows := eChangeS_o r1v_2v_Steps) (l := [.t (.im true (eInt_c r1v_2v_Firstv_Schemav_Cols)), .t (.s (.int .i64 r1v_2v_Firstv_Version)), .t (.im true (eRowS_i r1v_2v_Firstv_Tables))]) 1 4610 (by cbv) (by cbv) (eChangeS_i l7) ((congrArg (fun q => sr q 1 (lenI_ChangeS r1v_2v_Steps)) (fr_row ChangeS_o_z _)).trans (cut_sr ChangeS_i h_l7)))
        refine Run.ret ?_
        cases h
        refine ⟨_, _, by cbv, ?_, ?_⟩
        · exact LLe.r
        · exact (ALe.ag rfl LLe.r ALe.nil)
      · have h := if_f c6 h
        refine Run.skip ?_
        refine Run.seq ?_
        refine Run.region hL hT [] (by cbv) ?_ ?_
        · exact (hq trivial (hq trivial hq0))
        refine Run.weak ?_ (Weak.keep (rows := eInt_c r1v_2v_Firstv_Schemav_Cols) 4098 (by cbv) (eInt_c r1v_2v_Firstv_Schemav_Cols) (fr_row Int_c_z _))
        refine Run.weak ?_ (Weak.keep (rows := eRowS_o r1v_2v_Firstv_Tables) 4354 (by cbv) (eRowS_i r1v_2v_Firstv_Tables) (fr_row RowS_o_z _))
        refine Run.weak ?_ (Weak.keep (rows := eChangeS_o r1v_2v_Steps) 4610 (by cbv) (eChangeS_i r1v_2v_Steps) (fr_row ChangeS_o_z _))
        refine Run.ret ?_
        cases h
        refine ⟨_, _, by cbv, ?_, ?_⟩
        · exact LLe.r
        · exact (ALe.ag rfl LLe.r ALe.nil)
    · have h := if_f c5 h
      refine Run.seq ?_
      refine Run.region hL hT [] (by cbv) ?_ ?_
      · exact (hq trivial hq0)
      refine Run.cond (by cbv) (hq0) (fun c8 => ?_) (fun c8 => ?_)
      · have h := if_t c8 h
        obtain ⟨⟨⟨r9v_1v_b, r9v_1v_i, r9v_1v_h⟩, ⟨r9v_2v_Id, r9v_2v_Cells⟩⟩, h_r9, h⟩ := bnd h
        obtain ⟨l10, h_l10, h⟩ := bnd h
        obtain ⟨l11, h_l11, h⟩ := bnd h
        obtain ⟨l12, h_l12, h⟩ := bnd h
        refine Run.draw hL hT hM [(3, .call [true, false] [.v (.bx 88 [.im true (eu8_c a0v_b), .s (.int .i64 r9v_1v_i), .s (.int .i64 r9v_1v_h)]), .v (.jk)] [.ag [.s (.int .i64 r9v_2v_Id), .ow 3 (eInt_c r9v_2v_Cells)]])] (by cbv) (by cbv) (by cbv) (by cbv) (by cbv) ?_ ?_
        · exact (hq trivial (hq (hC (spec_l6DrawRow_ac h_r9)) (hq (app_mb (P := Try.prog) (f := ChangeS_o) RLe.r (some_le (f := ChangeS_o) h_l11 (RLe.cons rfl (LLe.cons (LLe.ow (some_le (f := Change_o) h_l10 (RLe.cons rfl (LLe.c (LLe.c (LLe.c (LLe.c (LLe.cons LLe.nilO (LLe.c (LLe.c LLe.nil))))))) RLe.nil))) LLe.nil) RLe.nil)) h_l12) (hq trivial hq0))))
        refine Run.row (rows := (ap (eChangeS_o r1v_2v_Steps) ([[.ow 40 ([[.s (.int .i64 0), .s (.bool false), .s (.bool true), .s (.int .i64 0), .s (.slice none 0 0), .s (.int .i64 r9v_2v_Id), .ow 3 (eInt_c r9v_2v_Cells)]])]]))) 24584 (eChangeS_o l12) (by cbv) (app_le (f := ChangeS_o) RLe.r (some_le (f := ChangeS_o) h_l11 (RLe.cons rfl (LLe.cons (LLe.ow (some_le (f := Change_o) h_l10 (RLe.cons rfl (LLe.c (LLe.c (LLe.c (LLe.c (LLe.cons LLe.nilO (LLe.c (LLe.c LLe.nil))))))) RLe.nil))) LLe.nil) RLe.nil)) h_l12) ?_
        refine Run.seq ?_
        refine Run.region hL hT [] (by cbv) ?_ ?_
        · exact (hq trivial (hq trivial hq0))
        refine Run.weak ?_ (Weak.keep (rows := eInt_c r1v_2v_Firstv_Schemav_Cols) 4098 (by cbv) (eInt_c r1v_2v_Firstv_Schemav_Cols) (fr_row Int_c_z _))
        refine Run.weak ?_ (Weak.keep (rows := eRowS_o r1v_2v_Firstv_Tables) 4354 (by cbv) (eRowS_i r1v_2v_Firstv_Tables) (fr_row RowS_o_z _))
        refine Run.weak ?_ (Weak.keep (rows := eChangeS_o l12) 24584 (by cbv) (eChangeS_i l12) (fr_row ChangeS_o_z _))
        refine Run.ret ?_
        cases h
        refine ⟨_, _, by cbv, ?_, ?_⟩
        · exact LLe.r
        · exact (ALe.ag rfl LLe.r ALe.nil)
      · have h := if_f c8 h
        refine Run.skip ?_
        refine Run.seq ?_
        refine Run.region hL hT [] (by cbv) ?_ ?_
        · exact (hq trivial (hq trivial hq0))
        refine Run.weak ?_ (Weak.keep (rows := eInt_c r1v_2v_Firstv_Schemav_Cols) 4098 (by cbv) (eInt_c r1v_2v_Firstv_Schemav_Cols) (fr_row Int_c_z _))
        refine Run.weak ?_ (Weak.keep (rows := eRowS_o r1v_2v_Firstv_Tables) 4354 (by cbv) (eRowS_i r1v_2v_Firstv_Tables) (fr_row RowS_o_z _))
        refine Run.weak ?_ (Weak.keep (rows := eChangeS_o r1v_2v_Steps) 4610 (by cbv) (eChangeS_i r1v_2v_Steps) (fr_row ChangeS_o_z _))
        refine Run.ret ?_
        cases h
        refine ⟨_, _, by cbv, ?_, ?_⟩
        · exact LLe.r
        · exact (ALe.ag rfl LLe.r ALe.nil)

set_option maxRecDepth 8000 in
theorem spec_DrawRecordPut_ac {a0 : List Int} {r : Record × (List Change)} (h : spec_DrawRecordPut.f a0 = some r) : AC Try.prog 28 [.v (.im true (rowsOf u8_c a0))] [.v (.jk)] [.ag [.im true (rowsOf Int_c r.1.First.Schema.Cols), .s (.int .i64 r.1.First.Version), .im true (rowsOf RowS_i r.1.First.Tables), .im true (rowsOf ChangeS_i r.1.Steps)], .v (.im true (rowsOf Change_i r.2))] := by
  unfold spec_DrawRecordPut.f at h
  let ar := Ls.ar; let cm := Ls.cm; let bo := Ls.bo; let sc := Ls.sc; let sa := Ls.sa; let sx := Ls.sx; let ss := Ls.ss; let sl := Ls.sl; let bs := Ls.bs; let sb := Ls.sb; let ln := Ls.ln; let sr := Ls.sr; let ap := Ls.ap; let up := Ls.up; let rp := Ls.rp; let fr := Ls.fr; let ge := Ls.ge; let le := Ls.le; let lt := Ls.lt; let nz := Ls.nz; let mm := Ls.mm; let ma := Ls.ma; let sm := Ls.sm; let fl := Ls.fl; let al := Ls.al; let ci := Ls.ci
  let eChangeS_i := rowsOf ChangeS_i
  let eChange_i := rowsOf Change_i
  let eInt_c := rowsOf Int_c
  let eRowS_i := rowsOf RowS_i
  let eRowS_o := rowsOf RowS_o
  let eu8_c := rowsOf u8_c
  have hL : (⟨ar, cm, bo, sc, sa, sx, ss, sl, bs, sb, ln, sr, ap, up, rp, fr, ge, le, lt, nz, mm, ma, sm, fl, al, ci⟩ : Lf) = Ls := rfl
  show AC Try.prog 28 [.v (.im true (eu8_c a0))] _ _
  refine AC.of_run2 tab_ok Try.func28 (by rfl) (by rfl) (by cbv) ⟨by decide, rfl⟩ fun F hP hA => ?_
  have hT : TabOk F.P tab := hP ▸ tab_ok
  have hM : F.P.follows .mixedOrders = true := hP ▸ mixed
  have hC : ∀ {f a o r}, AC Try.prog f a o r → AC F.P f a o r := fun h => hP ▸ h
  refine Run.seq ?_
  refine Run.region hL hT [] (by cbv) ?_ ?_
  · exact hq0
  refine Run.seq ?_
  obtain ⟨⟨r1v_b, r1v_i, r1v_h⟩, h_r1, h⟩ := bnd h
  refine Run.region hL hT [(1, .call [true] [.v (.jk)] [.v (.bx 88 [.im true (eu8_c r1v_b), .s (.int .i64 r1v_i), .s (.int .i64 r1v_h)])])] (by cbv) ?_ ?_
  · exact (hq (hC (spec_l1New_ac h_r1)) hq0)
  refine Run.seq ?_
  obtain ⟨⟨⟨r2v_1v_b, r2v_1v_i, r2v_1v_h⟩, ⟨⟨⟨r2v_2v_Firstv_Schemav_Cols⟩, r2v_2v_Firstv_Version, r2v_2v_Firstv_Tables⟩, r2v_2v_Steps⟩⟩, h_r2, h⟩ := bnd h
  refine Run.region hL hT [(1, .call [true] [.v (.bx 88 [.im true (eu8_c r1v_b), .s (.int .i64 r2v_1v_i), .s (.int .i64 r2v_1v_h)])] [.ag [.im true (eInt_c r2v_2v_Firstv_Schemav_Cols), .s (.int .i64 r2v_2v_Firstv_Version), .im true (eRowS_i r2v_2v_Firstv_Tables), .im true (eChangeS_i r2v_2v_Steps)]])] (by cbv) ?_ ?_
  · exact (hq (hC (spec_l8Draw_ac h_r2)) (hq trivial hq0))
  refine Run.seq ?_
  obtain ⟨r3, h_r3, h⟩ := bnd h
  obtain ⟨⟨⟨⟨r4v_1v_Schemav_Cols⟩, r4v_1v_Version, r4v_1v_Tables⟩, r4v_2⟩, h_r4, h⟩ := bnd h
  refine Run.draw hL hT hM [(2, .call [false] [.ag [.jk, .jk, .jk, .jk]] [.v (.s (.int .i64 r3))]), (3, .call [false, false] [.ag [.jk, .jk, .jk, .jk], .v (.jk)] [.ag [.ow 3 (eInt_c r4v_1v_Schemav_Cols), .s (.int .i64 r4v_1v_Version), .ow 72 (eRowS_o r4v_1v_Tables)], .v (.s (.bool r4v_2))])] (by cbv) (by cbv) (by cbv) (by cbv) (by cbv) ?_ ?_
  · exact (hq trivial (hq trivial (hq (hC (spec_Last_ac h_r3)) (hq (hC (spec_At_ac h_r4)) (hq trivial hq0)))))
  refine Run.seq ?_
  obtain ⟨⟨⟨r5v_1v_b, r5v_1v_i, r5v_1v_h⟩, r5v_2⟩, h_r5, h⟩ := bnd h
  refine Run.draw hL hT hM [(3, .call [true, false] [.v (.bx 88 [.im true (eu8_c r1v_b), .s (.int .i64 r5v_1v_i), .s (.int .i64 r5v_1v_h)]), .ag [.jk, .jk, .jk]] [.v (.im true (eChange_i r5v_2))])] (by cbv) (by cbv) (by cbv) (by cbv) (by cbv) ?_ ?_
  · exact (hq trivial (hq trivial (hq (hC (AC.args (spec_l8DrawStep_ac h_r5) (ALe.v LLe.r (ALe.ag rfl (LLe.cons (LLe.im (RLe.eq (fr_row Int_c_z _))) (LLe.c (LLe.cons (LLe.im (RLe.eq (fr_row RowS_o_z _))) LLe.nil))) ALe.nil)))) (hq trivial hq0))))
  refine Run.ret ?_
  cases h
  refine ⟨_, _, by cbv, ?_, ?_⟩
  · exact LLe.r
  · exact (ALe.ag rfl LLe.r (ALe.v LLe.r ALe.nil))

set_option maxRecDepth 8000 in
theorem impl_copyChange_ac {a0v_Table : Int} {a0v_Had : Bool} {a0v_Has : Bool} {a0v_Oldv_Id : Int} {a0v_Oldv_Cells : List Int} {a0v_Newv_Id : Int} {a0v_Newv_Cells : List Int} {r : Change} (h : impl_copyChange.f (Change.mk a0v_Table a0v_Had a0v_Has (Row.mk a0v_Oldv_Id a0v_Oldv_Cells) (Row.mk a0v_Newv_Id a0v_Newv_Cells)) = some r) : AC Try.prog 88 [.ag [.s (.int .i64 a0v_Table), .s (.bool a0v_Had), .s (.bool a0v_Has), .s (.int .i64 a0v_Oldv_Id), .im false (rowsOf Int_c a0v_Oldv_Cells), .s (.int .i64 a0v_Newv_Id), .im false (rowsOf Int_c a0v_Newv_Cells)]] [.ag [.jk, .jk, .jk, .jk, .jk, .jk, .jk]] [.ag [.s (.int .i64 r.Table), .s (.bool r.Had), .s (.bool r.Has), .s (.int .i64 r.Old.Id), .ow 3 (rowsOf Int_c r.Old.Cells), .s (.int .i64 r.New.Id), .ow 3 (rowsOf Int_c r.New.Cells)]] := by
  unfold impl_copyChange.f at h
  let ar := Ls.ar; let cm := Ls.cm; let bo := Ls.bo; let sc := Ls.sc; let sa := Ls.sa; let sx := Ls.sx; let ss := Ls.ss; let sl := Ls.sl; let bs := Ls.bs; let sb := Ls.sb; let ln := Ls.ln; let sr := Ls.sr; let ap := Ls.ap; let up := Ls.up; let rp := Ls.rp; let fr := Ls.fr; let ge := Ls.ge; let le := Ls.le; let lt := Ls.lt; let nz := Ls.nz; let mm := Ls.mm; let ma := Ls.ma; let sm := Ls.sm; let fl := Ls.fl; let al := Ls.al; let ci := Ls.ci
  let eInt_c := rowsOf Int_c
  have hL : (⟨ar, cm, bo, sc, sa, sx, ss, sl, bs, sb, ln, sr, ap, up, rp, fr, ge, le, lt, nz, mm, ma, sm, fl, al, ci⟩ : Lf) = Ls := rfl
  show AC Try.prog 88 [.ag [.s (.int .i64 a0v_Table), .s (.bool a0v_Had), .s (.bool a0v_Has), .s (.int .i64 a0v_Oldv_Id), .im false (eInt_c a0v_Oldv_Cells), .s (.int .i64 a0v_Newv_Id), .im false (eInt_c a0v_Newv_Cells)]] _ _
  refine AC.of_run2 tab_ok Try.func88 (by rfl) (by rfl) (by cbv) ⟨by decide, rfl⟩ fun F hP hA => ?_
  have hT : TabOk F.P tab := hP ▸ tab_ok
  have hM : F.P.follows .mixedOrders = true := hP ▸ mixed
  have hC : ∀ {f a o r}, AC Try.prog f a o r → AC F.P f a o r := fun h => hP ▸ h
  refine Run.seq ?_
  refine Run.region hL hT [] (by cbv) ?_ ?_
  · exact hq0
  refine Run.seq ?_
  obtain ⟨⟨r1v_Id, r1v_Cells⟩, h_r1, h⟩ := bnd h
  obtain ⟨⟨r2v_Id, r2v_Cells⟩, h_r2, h⟩ := bnd h
  refine Run.draw hL hT hM [(2, .call [false] [.ag [.jk, .jk]] [.ag [.s (.int .i64 r1v_Id), .ow 3 (eInt_c r1v_Cells)]]), (5, .call [false] [.ag [.jk, .jk]] [.ag [.s (.int .i64 r2v_Id), .ow 3 (eInt_c r2v_Cells)]])] (by cbv) (by cbv) (by cbv) (by cbv) (by cbv) ?_ ?_
  · exact (hq trivial (hq (hC (impl_copyRow_ac h_r1)) (hq trivial (hq (hC (impl_copyRow_ac h_r2)) (hq trivial (hq trivial hq0))))))
  refine Run.seq ?_
  refine Run.region hL hT [] (by cbv) ?_ ?_
  · exact (hq trivial (hq trivial hq0))
  refine Run.ret ?_
  cases h
  refine ⟨_, _, by cbv, ?_, ?_⟩
  · exact LLe.r
  · exact (ALe.ag rfl LLe.r ALe.nil)

set_option maxRecDepth 8000 in
theorem impl_copyChanges_ac {a0 : List Change} {r : (List Change)} (h : impl_copyChanges.f a0 = some r) : AC Try.prog 55 [.v (.im false (rowsOf Change_i a0))] [.v (.jk)] [.v (.ow 40 (rowsOf Change_o r))] := by
  unfold impl_copyChanges.f at h
  let ar := Ls.ar; let cm := Ls.cm; let bo := Ls.bo; let sc := Ls.sc; let sa := Ls.sa; let sx := Ls.sx; let ss := Ls.ss; let sl := Ls.sl; let bs := Ls.bs; let sb := Ls.sb; let ln := Ls.ln; let sr := Ls.sr; let ap := Ls.ap; let up := Ls.up; let rp := Ls.rp; let fr := Ls.fr; let ge := Ls.ge; let le := Ls.le; let lt := Ls.lt; let nz := Ls.nz; let mm := Ls.mm; let ma := Ls.ma; let sm := Ls.sm; let fl := Ls.fl; let al := Ls.al; let ci := Ls.ci
  let eChange_i := rowsOf Change_i
  let eChange_o := rowsOf Change_o
  let eInt_c := rowsOf Int_c
  let lenI_Change := @lenI Change
  have hL : (⟨ar, cm, bo, sc, sa, sx, ss, sl, bs, sb, ln, sr, ap, up, rp, fr, ge, le, lt, nz, mm, ma, sm, fl, al, ci⟩ : Lf) = Ls := rfl
  show AC Try.prog 55 [.v (.im false (eChange_i a0))] _ _
  refine AC.of_run2 tab_ok Try.func55 (by rfl) (by rfl) (by cbv) ⟨by decide, rfl⟩ fun F hP hA => ?_
  have hT : TabOk F.P tab := hP ▸ tab_ok
  have hM : F.P.follows .mixedOrders = true := hP ▸ mixed
  have hC : ∀ {f a o r}, AC Try.prog f a o r → AC F.P f a o r := fun h => hP ▸ h
  refine Run.seq ?_
  refine Run.region hL hT [] (by cbv) ?_ ?_
  · exact hq0
  refine Run.seq ?_
  refine Run.region hL hT [] (by cbv) ?_ ?_
  · exact hq0
  refine Run.seq ?_
  refine Run.seq ?_
  refine Run.region hL hT [] (by cbv) ?_ ?_
  · exact hq0
  rw [show ln (eChange_i a0) = lenI_Change a0 from ln_eq Change_i _]
  refine Run.block ?_
  refine Run.loop2 (fun (z5 : List Change) (z6 : Int) => ⟨20, 100000, [(3, .rf 1), (7, .t (.im false (eChange_i a0))), (8, .t (.s (.int .i64 (lenI_Change a0)))), (9, .t (.s (.int .i64 z6)))], [(1, .row 0 40 7 (eChange_o z5))]⟩) (x0 := []) (x1 := 0) h (Weak.of _ [(1, 4096)] hA (by cbv) ?_) (fun _ _ => rfl) ?_
  · repeat (first | exact hq0 | refine hq (by first | exact True.intro | rfl) ?_)
  · intro k z5 z6 h
    rw [impl_copyChanges.l0] at h
    refine Run.seq ?_
    refine Run.region hL hT [] (by cbv) ?_ ?_
    · exact (hq trivial hq0)
    refine Run.seq ?_
    refine Run.cond (by cbv) (hq0) (fun c7 => ?_) (fun c7 => ?_)
    · have h := if_t c7 h
      refine Run.skip ?_
      refine Run.seq ?_
      refine Run.block ?_
      refine Run.seq ?_
      obtain ⟨⟨x8v_Table, x8v_Had, x8v_Has, ⟨x8v_Oldv_Id, x8v_Oldv_Cells⟩, ⟨x8v_Newv_Id, x8v_Newv_Cells⟩⟩, h_x8, h⟩ := bnd h
      refine Run.region hL hT [(0, .el [.s (.int .i64 x8v_Table), .s (.bool x8v_Had), .s (.bool x8v_Has), .s (.int .i64 x8v_Oldv_Id), .im false (eInt_c x8v_Oldv_Cells), .s (.int .i64 x8v_Newv_Id), .im false (eInt_c x8v_Newv_Cells)])] (by cbv) ?_ ?_
      · exact (hq (get_le h_x8) (hq (get_lt (f := Change_i) h_x8) (hq (get_ge (f := Change_i) h_x8) (hq trivial hq0))))
      obtain ⟨⟨r9v_Table, r9v_Had, r9v_Has, ⟨r9v_Oldv_Id, r9v_Oldv_Cells⟩, ⟨r9v_Newv_Id, r9v_Newv_Cells⟩⟩, h_r9, h⟩ := bnd h
      obtain ⟨l10, h_l10, h⟩ := bnd h
      obtain ⟨l11, h_l11, h⟩ := bnd h
      refine Run.region hL hT [(2, .call [false] [.ag [.jk, .jk, .jk, .jk, .jk, .jk, .jk]] [.ag [.s (.int .i64 r9v_Table), .s (.bool r9v_Had), .s (.bool r9v_Has), .s (.int .i64 r9v_Oldv_Id), .ow 3 (eInt_c r9v_Oldv_Cells), .s (.int .i64 r9v_Newv_Id), .ow 3 (eInt_c r9v_Newv_Cells)]])] (by cbv) ?_ ?_
      · exact (hq trivial (hq (hC (impl_copyChange_ac h_r9)) (hq (app_mb (P := Try.prog) (f := Change_o) RLe.r (some_le (f := Change_o) h_l10 (RLe.cons rfl LLe.r RLe.nil)) h_l11) hq0)))
      refine Run.row (rows := (ap (eChange_o z5) ([[.s (.int .i64 r9v_Table), .s (.bool r9v_Had), .s (.bool r9v_Has), .s (.int .i64 r9v_Oldv_Id), .ow 3 (eInt_c r9v_Oldv_Cells), .s (.int .i64 r9v_Newv_Id), .ow 3 (eInt_c r9v_Newv_Cells)]]))) 108196 (eChange_o l11) (by cbv) (app_le (f := Change_o) RLe.r (some_le (f := Change_o) h_l10 (RLe.cons rfl LLe.r RLe.nil)) h_l11) ?_
      refine Run.region hL hT [] (by cbv) ?_ ?_
      · exact (hq trivial hq0)
      refine ⟨l11, (ar .add .i64 z6 1), h, Weak.of _ [(1, 108196)] hA (by cbv) ?_⟩
      repeat (first | exact hq0 | refine hq (by first | exact True.intro | rfl) ?_)
    · have h := if_f c7 h
      refine Run.exit ?_
      refine Run.seq ?_
      refine Run.region hL hT [] (by cbv) ?_ ?_
      · exact hq0
      refine Run.ret ?_
      cases h
      refine ⟨_, _, by cbv, ?_, ?_⟩
      · exact LLe.r
      · exact (ALe.v LLe.r ALe.nil)

set_option maxRecDepth 8000 in
theorem impl_copyRecord_ac {a0v_Firstv_Schemav_Cols : List Int} {a0v_Firstv_Version : Int} {a0v_Firstv_Tables : List (List Row)} {a0v_Steps : List (List Change)} {r : Record} (h : impl_copyRecord.f (Record.mk (Store.mk (Schema.mk a0v_Firstv_Schemav_Cols) a0v_Firstv_Version a0v_Firstv_Tables) a0v_Steps) = some r) : AC Try.prog 60 [.ag [.im false (rowsOf Int_c a0v_Firstv_Schemav_Cols), .s (.int .i64 a0v_Firstv_Version), .im false (rowsOf RowS_i a0v_Firstv_Tables), .im false (rowsOf ChangeS_i a0v_Steps)]] [.ag [.jk, .jk, .jk, .jk]] [.ag [.ow 3 (rowsOf Int_c r.First.Schema.Cols), .s (.int .i64 r.First.Version), .ow 72 (rowsOf RowS_o r.First.Tables), .ow 30 (rowsOf ChangeS_o r.Steps)]] := by
  unfold impl_copyRecord.f at h
  let ar := Ls.ar; let cm := Ls.cm; let bo := Ls.bo; let sc := Ls.sc; let sa := Ls.sa; let sx := Ls.sx; let ss := Ls.ss; let sl := Ls.sl; let bs := Ls.bs; let sb := Ls.sb; let ln := Ls.ln; let sr := Ls.sr; let ap := Ls.ap; let up := Ls.up; let rp := Ls.rp; let fr := Ls.fr; let ge := Ls.ge; let le := Ls.le; let lt := Ls.lt; let nz := Ls.nz; let mm := Ls.mm; let ma := Ls.ma; let sm := Ls.sm; let fl := Ls.fl; let al := Ls.al; let ci := Ls.ci
  let eChangeS_i := rowsOf ChangeS_i
  let eChangeS_o := rowsOf ChangeS_o
  let eChange_i := rowsOf Change_i
  let eChange_o := rowsOf Change_o
  let eInt_c := rowsOf Int_c
  let eRowS_i := rowsOf RowS_i
  let eRowS_o := rowsOf RowS_o
  let lenI_ChangeS := @lenI (List Change)
  have hL : (⟨ar, cm, bo, sc, sa, sx, ss, sl, bs, sb, ln, sr, ap, up, rp, fr, ge, le, lt, nz, mm, ma, sm, fl, al, ci⟩ : Lf) = Ls := rfl
  show AC Try.prog 60 [.ag [.im false (eInt_c a0v_Firstv_Schemav_Cols), .s (.int .i64 a0v_Firstv_Version), .im false (eRowS_i a0v_Firstv_Tables), .im false (eChangeS_i a0v_Steps)]] _ _
  refine AC.of_run2 tab_ok Try.func60 (by rfl) (by rfl) (by cbv) ⟨by decide, rfl⟩ fun F hP hA => ?_
  have hT : TabOk F.P tab := hP ▸ tab_ok
  have hM : F.P.follows .mixedOrders = true := hP ▸ mixed
  have hC : ∀ {f a o r}, AC Try.prog f a o r → AC F.P f a o r := fun h => hP ▸ h
  refine Run.seq ?_
  refine Run.region hL hT [] (by cbv) ?_ ?_
  · exact hq0
  refine Run.seq ?_
  obtain ⟨⟨⟨r1v_Schemav_Cols⟩, r1v_Version, r1v_Tables⟩, h_r1, h⟩ := bnd h
  refine Run.region hL hT [(2, .call [false] [.ag [.jk, .jk, .jk]] [.ag [.ow 3 (eInt_c r1v_Schemav_Cols), .s (.int .i64 r1v_Version), .ow 72 (eRowS_o r1v_Tables)]])] (by cbv) ?_ ?_
  · exact (hq trivial (hq (hC (impl_copyStore_ac h_r1)) (hq trivial hq0)))
  refine Run.seq ?_
  refine Run.seq ?_
  refine Run.region hL hT [] (by cbv) ?_ ?_
  · exact (hq trivial hq0)
  rw [show ln (eChangeS_i a0v_Steps) = lenI_ChangeS a0v_Steps from ln_eq ChangeS_i _]
  refine Run.block ?_
  refine Run.loop2 (fun (z17 : List (List Change)) (z18 : Int) => ⟨26, 100000, [(2, .pt 1 0 0), (3, .pt 2 0 0), (11, .t (.im false (eChangeS_i a0v_Steps))), (12, .t (.s (.int .i64 (lenI_ChangeS a0v_Steps)))), (13, .t (.s (.int .i64 z18)))], [(1, .box 49 [.t (.s (.slice none 0 0)), .t (.s (.int .i64 0)), .t (.s (.slice none 0 0)), .t (.s (.slice none 0 0))]), (2, .box 49 [.rf 3, .t (.s (.int .i64 r1v_Version)), .rf 4, .rf 5]), (3, .row 0 3 1 (eInt_c r1v_Schemav_Cols)), (4, .row 0 72 1 (eRowS_o r1v_Tables)), (5, .row 0 30 1 (eChangeS_o z17))]⟩) (x0 := []) (x1 := 0) h ((Weak.nilB (l := [.rf 4098, .t (.s (.int .i64 r1v_Version)), .rf 4354]) hT 4100 3 13288 30 rfl (by cbv) (by cbv) (by cbv)).trans (Weak.of _ [(1, 1), (2, 4100), (3, 4098), (4, 4354), (5, 13288)] hA (by cbv) ?_)) (fun _ _ => rfl) ?_
  · repeat (first | exact hq0 | refine hq (by first | exact True.intro | rfl) ?_)
  · intro k z17 z18 h
    rw [impl_copyRecord.l0] at h
    refine Run.seq ?_
    refine Run.region hL hT [] (by cbv) ?_ ?_
    · exact (hq trivial hq0)
    refine Run.seq ?_
    refine Run.cond (by cbv) (hq0) (fun c19 => ?_) (fun c19 => ?_)
    · have h := if_t c19 h
      refine Run.skip ?_
      refine Run.seq ?_
      refine Run.block ?_
      refine Run.seq ?_
      obtain ⟨x20, h_x20, h⟩ := bnd h
      refine Run.region hL hT [(0, .el [.im false (eChange_i x20)])] (by cbv) ?_ ?_
      · exact (hq (get_le h_x20) (hq (get_lt (f := ChangeS_i) h_x20) (hq (get_ge (f := ChangeS_i) h_x20) hq0)))
      obtain ⟨r21, h_r21, h⟩ := bnd h
      obtain ⟨l22, h_l22, h⟩ := bnd h
      obtain ⟨l23, h_l23, h⟩ := bnd h
      refine Run.draw hL hT hM [(3, .call [false] [.v (.jk)] [.v (.ow 40 (eChange_o r21))])] (by cbv) (by cbv) (by cbv) (by cbv) (by cbv) ?_ ?_
      · exact (hq trivial (hq (hC (impl_copyChanges_ac h_r21)) (hq (app_mb (P := Try.prog) (f := ChangeS_o) RLe.r (some_le (f := ChangeS_o) h_l22 (RLe.cons rfl LLe.r RLe.nil)) h_l23) (hq trivial hq0))))
      refine Run.row (rows := (ap (eChangeS_o z17) ([[.ow 40 (eChange_o r21)]]))) 108197 (eChangeS_o l23) (by cbv) (app_le (f := ChangeS_o) RLe.r (some_le (f := ChangeS_o) h_l22 (RLe.cons rfl LLe.r RLe.nil)) h_l23) ?_
      refine Run.region hL hT [] (by cbv) ?_ ?_
      · exact (hq trivial hq0)
      refine ⟨l23, (ar .add .i64 z18 1), h, Weak.of _ [(1, 1), (2, 2), (3, 3), (4, 4), (5, 108197)] hA (by cbv) ?_⟩
      repeat (first | exact hq0 | refine hq (by first | exact True.intro | rfl) ?_)
    · have h := if_f c19 h
      refine Run.exit ?_
      refine Run.seq ?_
      refine Run.region hL hT [] (by cbv) ?_ ?_
      · exact (hq trivial (hq trivial hq0))
      refine Run.ret ?_
      cases h
      refine ⟨_, _, by cbv, ?_, ?_⟩
      · exact LLe.r
      · exact (ALe.ag rfl LLe.r ALe.nil)

set_option maxRecDepth 8000 in
theorem impl_RecordPut_ac {a0v_Firstv_Schemav_Cols : List Int} {a0v_Firstv_Version : Int} {a0v_Firstv_Tables : List (List Row)} {a0v_Steps : List (List Change)} {a1 : List Change} {r : Record × Bool} (h : impl_RecordPut.f (Record.mk (Store.mk (Schema.mk a0v_Firstv_Schemav_Cols) a0v_Firstv_Version a0v_Firstv_Tables) a0v_Steps) a1 = some r) : AC Try.prog 29 [.ag [.im false (rowsOf Int_c a0v_Firstv_Schemav_Cols), .s (.int .i64 a0v_Firstv_Version), .im false (rowsOf RowS_i a0v_Firstv_Tables), .im false (rowsOf ChangeS_i a0v_Steps)], .v (.im false (rowsOf Change_i a1))] [.ag [.jk, .jk, .jk, .jk], .v (.jk)] [.ag [.ow 3 (rowsOf Int_c r.1.First.Schema.Cols), .s (.int .i64 r.1.First.Version), .ow 72 (rowsOf RowS_o r.1.First.Tables), .ow 30 (rowsOf ChangeS_o r.1.Steps)], .v (.s (.bool r.2))] := by
  unfold impl_RecordPut.f at h
  let ar := Ls.ar; let cm := Ls.cm; let bo := Ls.bo; let sc := Ls.sc; let sa := Ls.sa; let sx := Ls.sx; let ss := Ls.ss; let sl := Ls.sl; let bs := Ls.bs; let sb := Ls.sb; let ln := Ls.ln; let sr := Ls.sr; let ap := Ls.ap; let up := Ls.up; let rp := Ls.rp; let fr := Ls.fr; let ge := Ls.ge; let le := Ls.le; let lt := Ls.lt; let nz := Ls.nz; let mm := Ls.mm; let ma := Ls.ma; let sm := Ls.sm; let fl := Ls.fl; let al := Ls.al; let ci := Ls.ci
  let eChangeS_i := rowsOf ChangeS_i
  let eChangeS_o := rowsOf ChangeS_o
  let eChange_i := rowsOf Change_i
  let eChange_o := rowsOf Change_o
  let eInt_c := rowsOf Int_c
  let eRowS_i := rowsOf RowS_i
  let eRowS_o := rowsOf RowS_o
  have hL : (⟨ar, cm, bo, sc, sa, sx, ss, sl, bs, sb, ln, sr, ap, up, rp, fr, ge, le, lt, nz, mm, ma, sm, fl, al, ci⟩ : Lf) = Ls := rfl
  show AC Try.prog 29 [.ag [.im false (eInt_c a0v_Firstv_Schemav_Cols), .s (.int .i64 a0v_Firstv_Version), .im false (eRowS_i a0v_Firstv_Tables), .im false (eChangeS_i a0v_Steps)], .v (.im false (eChange_i a1))] _ _
  refine AC.of_run2 tab_ok Try.func29 (by rfl) (by rfl) (by cbv) ⟨by decide, rfl⟩ fun F hP hA => ?_
  have hT : TabOk F.P tab := hP ▸ tab_ok
  have hM : F.P.follows .mixedOrders = true := hP ▸ mixed
  have hC : ∀ {f a o r}, AC Try.prog f a o r → AC F.P f a o r := fun h => hP ▸ h
  refine Run.seq ?_
  refine Run.region hL hT [] (by cbv) ?_ ?_
  · exact hq0
  refine Run.seq ?_
  refine Run.seq ?_
  obtain ⟨r1, h_r1, h⟩ := bnd h
  refine Run.region hL hT [(1, .call [false] [.ag [.jk, .jk, .jk, .jk]] [.v (.s (.bool r1))])] (by cbv) ?_ ?_
  · exact (hq trivial (hq (hC (impl_RecordOk_ac h_r1)) hq0))
  refine Run.cond (by cbv) (hq0) (fun c2 => ?_) (fun c2 => ?_)
  · have h := if_t c2 h
    refine Run.seq ?_
    refine Run.region hL hT [] (by cbv) ?_ ?_
    · exact (hq trivial hq0)
    refine Run.ret ?_
    cases h
    refine ⟨_, _, by cbv, ?_, ?_⟩
    · exact LLe.r
    · exact (ALe.ag rfl (LLe.cons LLe.nilO (LLe.c (LLe.cons LLe.nilO (LLe.cons LLe.nilO LLe.nil)))) (ALe.v LLe.r ALe.nil))
  · have h := if_f c2 h
    refine Run.skip ?_
    refine Run.seq ?_
    obtain ⟨⟨⟨⟨r3v_Firstv_Schemav_Cols⟩, r3v_Firstv_Version, r3v_Firstv_Tables⟩, r3v_Steps⟩, h_r3, h⟩ := bnd h
    refine Run.region hL hT [(1, .call [false] [.ag [.jk, .jk, .jk, .jk]] [.ag [.ow 3 (eInt_c r3v_Firstv_Schemav_Cols), .s (.int .i64 r3v_Firstv_Version), .ow 72 (eRowS_o r3v_Firstv_Tables), .ow 30 (eChangeS_o r3v_Steps)]])] (by cbv) ?_ ?_
    · exact (hq trivial (hq (hC (impl_copyRecord_ac h_r3)) (hq trivial hq0)))
    refine Run.seq ?_
    obtain ⟨r4, h_r4, h⟩ := bnd h
    obtain ⟨l5, h_l5, h⟩ := bnd h
    obtain ⟨l6, h_l6, h⟩ := bnd h
    refine Run.draw hL hT hM [(3, .call [false] [.v (.jk)] [.v (.ow 40 (eChange_o r4))])] (by cbv) (by cbv) (by cbv) (by cbv) (by cbv) ?_ ?_
    · exact (hq trivial (hq (hC (impl_copyChanges_ac h_r4)) (hq (app_mb (P := Try.prog) (f := ChangeS_o) RLe.r (some_le (f := ChangeS_o) h_l5 (RLe.cons rfl LLe.r RLe.nil)) h_l6) (hq trivial hq0))))
    refine Run.row (rows := (ap (eChangeS_o r3v_Steps) ([[.ow 40 (eChange_o r4)]]))) 12293 (eChangeS_o l6) (by cbv) (app_le (f := ChangeS_o) RLe.r (some_le (f := ChangeS_o) h_l5 (RLe.cons rfl LLe.r RLe.nil)) h_l6) ?_
    refine Run.seq ?_
    refine Run.seq ?_
    obtain ⟨r7, h_r7, h⟩ := bnd h
    refine Run.region hL hT [(1, .call [false] [.ag [.jk, .jk, .jk, .jk]] [.v (.s (.bool r7))])] (by cbv) ?_ ?_
    · exact (hq trivial (hq (hC (AC.args (impl_RecordOk_ac h_r7) (ALe.ag rfl (LLe.cons (LLe.im (RLe.eq (fr_row Int_c_z _))) (LLe.c (LLe.cons (LLe.im (RLe.eq (fr_row RowS_o_z _))) (LLe.cons (LLe.im (RLe.eq (fr_row ChangeS_o_z _))) LLe.nil)))) ALe.nil))) hq0))
    refine Run.cond (by cbv) (hq0) (fun c8 => ?_) (fun c8 => ?_)
    · have h := if_t c8 h
      refine Run.seq ?_
      obtain ⟨⟨⟨⟨r9v_Firstv_Schemav_Cols⟩, r9v_Firstv_Version, r9v_Firstv_Tables⟩, r9v_Steps⟩, h_r9, h⟩ := bnd h
      refine Run.region hL hT [(1, .call [false] [.ag [.jk, .jk, .jk, .jk]] [.ag [.ow 3 (eInt_c r9v_Firstv_Schemav_Cols), .s (.int .i64 r9v_Firstv_Version), .ow 72 (eRowS_o r9v_Firstv_Tables), .ow 30 (eChangeS_o r9v_Steps)]])] (by cbv) ?_ ?_
      · exact (hq trivial (hq (hC (impl_copyRecord_ac h_r9)) (hq trivial hq0)))
      refine Run.ret ?_
      cases h
      refine ⟨_, _, by cbv, ?_, ?_⟩
      · exact LLe.r
      · exact (ALe.ag rfl LLe.r (ALe.v LLe.r ALe.nil))
    · have h := if_f c8 h
      refine Run.skip ?_
      refine Run.seq ?_
      refine Run.region hL hT [] (by cbv) ?_ ?_
      · exact (hq trivial (hq trivial hq0))
      refine Run.ret ?_
      cases h
      refine ⟨_, _, by cbv, ?_, ?_⟩
      · exact LLe.r
      · exact (ALe.ag rfl LLe.r (ALe.v LLe.r ALe.nil))

set_option maxRecDepth 8000 in
theorem spec_DrawRecordNew_ac {a0 : List Int} {r : Store} (h : spec_DrawRecordNew.f a0 = some r) : AC Try.prog 31 [.v (.im true (rowsOf u8_c a0))] [.v (.jk)] [.ag [.im true (rowsOf Int_c r.Schema.Cols), .s (.int .i64 r.Version), .im true (rowsOf RowS_i r.Tables)]] := by
  unfold spec_DrawRecordNew.f at h
  let ar := Ls.ar; let cm := Ls.cm; let bo := Ls.bo; let sc := Ls.sc; let sa := Ls.sa; let sx := Ls.sx; let ss := Ls.ss; let sl := Ls.sl; let bs := Ls.bs; let sb := Ls.sb; let ln := Ls.ln; let sr := Ls.sr; let ap := Ls.ap; let up := Ls.up; let rp := Ls.rp; let fr := Ls.fr; let ge := Ls.ge; let le := Ls.le; let lt := Ls.lt; let nz := Ls.nz; let mm := Ls.mm; let ma := Ls.ma; let sm := Ls.sm; let fl := Ls.fl; let al := Ls.al; let ci := Ls.ci
  let eInt_c := rowsOf Int_c
  let eRowS_i := rowsOf RowS_i
  let eu8_c := rowsOf u8_c
  have hL : (⟨ar, cm, bo, sc, sa, sx, ss, sl, bs, sb, ln, sr, ap, up, rp, fr, ge, le, lt, nz, mm, ma, sm, fl, al, ci⟩ : Lf) = Ls := rfl
  show AC Try.prog 31 [.v (.im true (eu8_c a0))] _ _
  refine AC.of_run2 tab_ok Try.func31 (by rfl) (by rfl) (by cbv) ⟨by decide, rfl⟩ fun F hP hA => ?_
  have hT : TabOk F.P tab := hP ▸ tab_ok
  have hM : F.P.follows .mixedOrders = true := hP ▸ mixed
  have hC : ∀ {f a o r}, AC Try.prog f a o r → AC F.P f a o r := fun h => hP ▸ h
  refine Run.seq ?_
  refine Run.region hL hT [] (by cbv) ?_ ?_
  · exact hq0
  refine Run.seq ?_
  obtain ⟨⟨r1v_b, r1v_i, r1v_h⟩, h_r1, h⟩ := bnd h
  obtain ⟨⟨⟨r2v_1v_b, r2v_1v_i, r2v_1v_h⟩, ⟨⟨r2v_2v_Schemav_Cols⟩, r2v_2v_Version, r2v_2v_Tables⟩⟩, h_r2, h⟩ := bnd h
  refine Run.region hL hT [(1, .call [true] [.v (.jk)] [.v (.bx 88 [.im true (eu8_c r1v_b), .s (.int .i64 r1v_i), .s (.int .i64 r1v_h)])]), (2, .call [true] [.v (.bx 88 [.im true (eu8_c r1v_b), .s (.int .i64 r2v_1v_i), .s (.int .i64 r2v_1v_h)])] [.ag [.im true (eInt_c r2v_2v_Schemav_Cols), .s (.int .i64 r2v_2v_Version), .im true (eRowS_i r2v_2v_Tables)]])] (by cbv) ?_ ?_
  · exact (hq (hC (spec_l1New_ac h_r1)) (hq (hC (spec_l7Draw_ac h_r2)) (hq trivial hq0)))
  refine Run.ret ?_
  cases h
  refine ⟨_, _, by cbv, ?_, ?_⟩
  · exact LLe.r
  · exact (ALe.ag rfl LLe.r ALe.nil)

set_option maxRecDepth 8000 in
theorem impl_asWas_ac {a0v_Schemav_Cols : List Int} {a0v_Version : Int} {a0v_Tables : List (List Row)} {r : Store} (h : impl_asWas.f (Store.mk (Schema.mk a0v_Schemav_Cols) a0v_Version a0v_Tables) = some r) : AC Try.prog 62 [.ag [.im false (rowsOf Int_c a0v_Schemav_Cols), .s (.int .i64 a0v_Version), .im false (rowsOf RowS_i a0v_Tables)]] [.ag [.jk, .jk, .jk]] [.ag [.ow 3 (rowsOf Int_c r.Schema.Cols), .s (.int .i64 r.Version), .ow 72 (rowsOf RowS_o r.Tables)]] := by
  unfold impl_asWas.f at h
  let ar := Ls.ar; let cm := Ls.cm; let bo := Ls.bo; let sc := Ls.sc; let sa := Ls.sa; let sx := Ls.sx; let ss := Ls.ss; let sl := Ls.sl; let bs := Ls.bs; let sb := Ls.sb; let ln := Ls.ln; let sr := Ls.sr; let ap := Ls.ap; let up := Ls.up; let rp := Ls.rp; let fr := Ls.fr; let ge := Ls.ge; let le := Ls.le; let lt := Ls.lt; let nz := Ls.nz; let mm := Ls.mm; let ma := Ls.ma; let sm := Ls.sm; let fl := Ls.fl; let al := Ls.al; let ci := Ls.ci
  let eInt_c := rowsOf Int_c
  let eRowS_i := rowsOf RowS_i
  let eRowS_o := rowsOf RowS_o
  have hL : (⟨ar, cm, bo, sc, sa, sx, ss, sl, bs, sb, ln, sr, ap, up, rp, fr, ge, le, lt, nz, mm, ma, sm, fl, al, ci⟩ : Lf) = Ls := rfl
  show AC Try.prog 62 [.ag [.im false (eInt_c a0v_Schemav_Cols), .s (.int .i64 a0v_Version), .im false (eRowS_i a0v_Tables)]] _ _
  refine AC.of_run2 tab_ok Try.func62 (by rfl) (by rfl) (by cbv) ⟨by decide, rfl⟩ fun F hP hA => ?_
  have hT : TabOk F.P tab := hP ▸ tab_ok
  have hM : F.P.follows .mixedOrders = true := hP ▸ mixed
  have hC : ∀ {f a o r}, AC Try.prog f a o r → AC F.P f a o r := fun h => hP ▸ h
  refine Run.seq ?_
  refine Run.region hL hT [] (by cbv) ?_ ?_
  · exact hq0
  refine Run.seq ?_
  refine Run.seq ?_
  obtain ⟨r1, h_r1, h⟩ := bnd h
  refine Run.region hL hT [(1, .call [false] [.ag [.jk, .jk, .jk]] [.v (.s (.bool r1))])] (by cbv) ?_ ?_
  · exact (hq trivial (hq (hC (impl_StoreOk_ac h_r1)) hq0))
  refine Run.cond (by cbv) (hq0) (fun c2 => ?_) (fun c2 => ?_)
  · have h := if_t c2 h
    refine Run.seq ?_
    refine Run.region hL hT [] (by cbv) ?_ ?_
    · exact (hq trivial hq0)
    refine Run.ret ?_
    cases h
    refine ⟨_, _, by cbv, ?_, ?_⟩
    · exact LLe.r
    · exact (ALe.ag rfl (LLe.cons LLe.nilO (LLe.c (LLe.cons LLe.nilO LLe.nil))) ALe.nil)
  · have h := if_f c2 h
    refine Run.skip ?_
    refine Run.seq ?_
    obtain ⟨⟨⟨r3v_Schemav_Cols⟩, r3v_Version, r3v_Tables⟩, h_r3, h⟩ := bnd h
    refine Run.region hL hT [(1, .call [false] [.ag [.jk, .jk, .jk]] [.ag [.ow 3 (eInt_c r3v_Schemav_Cols), .s (.int .i64 r3v_Version), .ow 72 (eRowS_o r3v_Tables)]])] (by cbv) ?_ ?_
    · exact (hq trivial (hq (hC (impl_copyStore_ac h_r3)) (hq trivial hq0)))
    refine Run.ret ?_
    cases h
    refine ⟨_, _, by cbv, ?_, ?_⟩
    · exact LLe.r
    · exact (ALe.ag rfl LLe.r ALe.nil)

set_option maxRecDepth 8000 in
theorem impl_RecordNew_ac {a0v_Schemav_Cols : List Int} {a0v_Version : Int} {a0v_Tables : List (List Row)} {r : Record} (h : impl_RecordNew.f (Store.mk (Schema.mk a0v_Schemav_Cols) a0v_Version a0v_Tables) = some r) : AC Try.prog 32 [.ag [.im false (rowsOf Int_c a0v_Schemav_Cols), .s (.int .i64 a0v_Version), .im false (rowsOf RowS_i a0v_Tables)]] [.ag [.jk, .jk, .jk]] [.ag [.ow 3 (rowsOf Int_c r.First.Schema.Cols), .s (.int .i64 r.First.Version), .ow 72 (rowsOf RowS_o r.First.Tables), .ow 30 (rowsOf ChangeS_o r.Steps)]] := by
  unfold impl_RecordNew.f at h
  let ar := Ls.ar; let cm := Ls.cm; let bo := Ls.bo; let sc := Ls.sc; let sa := Ls.sa; let sx := Ls.sx; let ss := Ls.ss; let sl := Ls.sl; let bs := Ls.bs; let sb := Ls.sb; let ln := Ls.ln; let sr := Ls.sr; let ap := Ls.ap; let up := Ls.up; let rp := Ls.rp; let fr := Ls.fr; let ge := Ls.ge; let le := Ls.le; let lt := Ls.lt; let nz := Ls.nz; let mm := Ls.mm; let ma := Ls.ma; let sm := Ls.sm; let fl := Ls.fl; let al := Ls.al; let ci := Ls.ci
  let eInt_c := rowsOf Int_c
  let eRowS_i := rowsOf RowS_i
  let eRowS_o := rowsOf RowS_o
  have hL : (⟨ar, cm, bo, sc, sa, sx, ss, sl, bs, sb, ln, sr, ap, up, rp, fr, ge, le, lt, nz, mm, ma, sm, fl, al, ci⟩ : Lf) = Ls := rfl
  show AC Try.prog 32 [.ag [.im false (eInt_c a0v_Schemav_Cols), .s (.int .i64 a0v_Version), .im false (eRowS_i a0v_Tables)]] _ _
  refine AC.of_run2 tab_ok Try.func32 (by rfl) (by rfl) (by cbv) ⟨by decide, rfl⟩ fun F hP hA => ?_
  have hT : TabOk F.P tab := hP ▸ tab_ok
  have hM : F.P.follows .mixedOrders = true := hP ▸ mixed
  have hC : ∀ {f a o r}, AC Try.prog f a o r → AC F.P f a o r := fun h => hP ▸ h
  refine Run.seq ?_
  refine Run.region hL hT [] (by cbv) ?_ ?_
  · exact hq0
  refine Run.seq ?_
  obtain ⟨⟨⟨r1v_Schemav_Cols⟩, r1v_Version, r1v_Tables⟩, h_r1, h⟩ := bnd h
  refine Run.region hL hT [(1, .call [false] [.ag [.jk, .jk, .jk]] [.ag [.ow 3 (eInt_c r1v_Schemav_Cols), .s (.int .i64 r1v_Version), .ow 72 (eRowS_o r1v_Tables)]])] (by cbv) ?_ ?_
  · exact (hq trivial (hq (hC (impl_asWas_ac h_r1)) (hq trivial hq0)))
  refine Run.ret ?_
  cases h
  refine ⟨_, _, by cbv, ?_, ?_⟩
  · exact LLe.r
  · exact (ALe.ag rfl (LLe.c (LLe.c (LLe.c (LLe.cons LLe.nilO LLe.nil)))) ALe.nil)

set_option maxRecDepth 8000 in
theorem laws_big_ac {a0 : List Int} {r : Bool} (h : laws_big.f a0 = some r) : AC Try.prog 7 [.v (.im false (rowsOf u8_c a0))] [.v (.jk)] [.v (.s (.bool r))] := by
  unfold laws_big.f at h
  let ar := Ls.ar; let cm := Ls.cm; let bo := Ls.bo; let sc := Ls.sc; let sa := Ls.sa; let sx := Ls.sx; let ss := Ls.ss; let sl := Ls.sl; let bs := Ls.bs; let sb := Ls.sb; let ln := Ls.ln; let sr := Ls.sr; let ap := Ls.ap; let up := Ls.up; let rp := Ls.rp; let fr := Ls.fr; let ge := Ls.ge; let le := Ls.le; let lt := Ls.lt; let nz := Ls.nz; let mm := Ls.mm; let ma := Ls.ma; let sm := Ls.sm; let fl := Ls.fl; let al := Ls.al; let ci := Ls.ci
  let eu8_c := rowsOf u8_c
  let lenI_u8 := @lenI Int
  have hL : (⟨ar, cm, bo, sc, sa, sx, ss, sl, bs, sb, ln, sr, ap, up, rp, fr, ge, le, lt, nz, mm, ma, sm, fl, al, ci⟩ : Lf) = Ls := rfl
  show AC Try.prog 7 [.v (.im false (eu8_c a0))] _ _
  refine AC.of_run2 tab_ok Try.func7 (by rfl) (by rfl) (by cbv) ⟨by decide, rfl⟩ fun F hP hA => ?_
  have hT : TabOk F.P tab := hP ▸ tab_ok
  have hM : F.P.follows .mixedOrders = true := hP ▸ mixed
  have hC : ∀ {f a o r}, AC Try.prog f a o r → AC F.P f a o r := fun h => hP ▸ h
  refine Run.seq ?_
  refine Run.region hL hT [] (by cbv) ?_ ?_
  · exact hq0
  refine Run.seq ?_
  refine Run.region hL hT [] (by cbv) ?_ ?_
  · exact (hq trivial hq0)
  rw [show ln (eu8_c a0) = lenI_u8 a0 from ln_eq u8_c _]
  refine Run.ret ?_
  cases h
  refine ⟨_, _, by cbv, ?_, ?_⟩
  · exact LLe.r
  · exact (ALe.v LLe.r ALe.nil)

set_option maxRecDepth 8000 in
theorem laws_FnRecordPut_ac {a0 : List Int} {r : Bool} (h : laws_FnRecordPut.f a0 = some r) : AC Try.prog 6 [.v (.im true (rowsOf u8_c a0))] [.v (.jk)] [.v (.s (.bool r))] := by
  unfold laws_FnRecordPut.f at h
  let ar := Ls.ar; let cm := Ls.cm; let bo := Ls.bo; let sc := Ls.sc; let sa := Ls.sa; let sx := Ls.sx; let ss := Ls.ss; let sl := Ls.sl; let bs := Ls.bs; let sb := Ls.sb; let ln := Ls.ln; let sr := Ls.sr; let ap := Ls.ap; let up := Ls.up; let rp := Ls.rp; let fr := Ls.fr; let ge := Ls.ge; let le := Ls.le; let lt := Ls.lt; let nz := Ls.nz; let mm := Ls.mm; let ma := Ls.ma; let sm := Ls.sm; let fl := Ls.fl; let al := Ls.al; let ci := Ls.ci
  let eChangeS_i := rowsOf ChangeS_i
  let eChangeS_o := rowsOf ChangeS_o
  let eChange_i := rowsOf Change_i
  let eInt_c := rowsOf Int_c
  let eRowS_i := rowsOf RowS_i
  let eRowS_o := rowsOf RowS_o
  let eu8_c := rowsOf u8_c
  let lenI_ChangeS := @lenI (List Change)
  have hL : (⟨ar, cm, bo, sc, sa, sx, ss, sl, bs, sb, ln, sr, ap, up, rp, fr, ge, le, lt, nz, mm, ma, sm, fl, al, ci⟩ : Lf) = Ls := rfl
  show AC Try.prog 6 [.v (.im true (eu8_c a0))] _ _
  refine AC.of_run2 tab_ok Try.func6 (by rfl) (by rfl) (by cbv) ⟨by decide, rfl⟩ fun F hP hA => ?_
  have hT : TabOk F.P tab := hP ▸ tab_ok
  have hM : F.P.follows .mixedOrders = true := hP ▸ mixed
  have hC : ∀ {f a o r}, AC Try.prog f a o r → AC F.P f a o r := fun h => hP ▸ h
  refine Run.seq ?_
  refine Run.region hL hT [] (by cbv) ?_ ?_
  · exact hq0
  refine Run.seq ?_
  refine Run.seq ?_
  obtain ⟨r1, h_r1, h⟩ := bnd h
  refine Run.region hL hT [(1, .call [false] [.v (.jk)] [.v (.s (.bool r1))])] (by cbv) ?_ ?_
  · exact (hq (hC (laws_big_ac h_r1)) hq0)
  refine Run.cond (by cbv) (hq0) (fun c2 => ?_) (fun c2 => ?_)
  · have h := if_t c2 h
    refine Run.seq ?_
    refine Run.region hL hT [] (by cbv) ?_ ?_
    · exact hq0
    refine Run.ret ?_
    cases h
    refine ⟨_, _, by cbv, ?_, ?_⟩
    · exact LLe.r
    · exact (ALe.v LLe.r ALe.nil)
  · have h := if_f c2 h
    refine Run.skip ?_
    refine Run.seq ?_
    obtain ⟨⟨⟨⟨⟨r3v_1v_Firstv_Schemav_Cols⟩, r3v_1v_Firstv_Version, r3v_1v_Firstv_Tables⟩, r3v_1v_Steps⟩, r3v_2⟩, h_r3, h⟩ := bnd h
    refine Run.region hL hT [(1, .call [true] [.v (.jk)] [.ag [.im true (eInt_c r3v_1v_Firstv_Schemav_Cols), .s (.int .i64 r3v_1v_Firstv_Version), .im true (eRowS_i r3v_1v_Firstv_Tables), .im true (eChangeS_i r3v_1v_Steps)], .v (.im true (eChange_i r3v_2))])] (by cbv) ?_ ?_
    · exact (hq (hC (spec_DrawRecordPut_ac h_r3)) (hq trivial hq0))
    refine Run.seq ?_
    obtain ⟨⟨⟨⟨⟨r4v_1v_Firstv_Schemav_Cols⟩, r4v_1v_Firstv_Version, r4v_1v_Firstv_Tables⟩, r4v_1v_Steps⟩, r4v_2⟩, h_r4, h⟩ := bnd h
    refine Run.region hL hT [(2, .call [false, false] [.ag [.jk, .jk, .jk, .jk], .v (.jk)] [.ag [.ow 3 (eInt_c r4v_1v_Firstv_Schemav_Cols), .s (.int .i64 r4v_1v_Firstv_Version), .ow 72 (eRowS_o r4v_1v_Firstv_Tables), .ow 30 (eChangeS_o r4v_1v_Steps)], .v (.s (.bool r4v_2))])] (by cbv) ?_ ?_
    · exact (hq trivial (hq (hC (impl_RecordPut_ac h_r4)) (hq trivial hq0)))
    refine Run.seq ?_
    obtain ⟨⟨⟨⟨⟨r5v_1v_Firstv_Schemav_Cols⟩, r5v_1v_Firstv_Version, r5v_1v_Firstv_Tables⟩, r5v_1v_Steps⟩, r5v_2⟩, h_r5, h⟩ := bnd h
    refine Run.region hL hT [(2, .call [false, false] [.ag [.jk, .jk, .jk, .jk], .v (.jk)] [.ag [.ow 3 (eInt_c r5v_1v_Firstv_Schemav_Cols), .s (.int .i64 r5v_1v_Firstv_Version), .ow 72 (eRowS_o r5v_1v_Firstv_Tables), .ow 30 (eChangeS_o r5v_1v_Steps)], .v (.s (.bool r5v_2))])] (by cbv) ?_ ?_
    · exact (hq trivial (hq (hC (spec_RecordPut_ac h_r5)) (hq trivial hq0)))
    refine Run.seq ?_
    refine Run.seq ?_
    refine Run.region hL hT [] (by cbv) ?_ ?_
    · exact hq0
    refine Run.cond (by cbv) (hq0) (fun c6 => ?_) (fun c6 => ?_)
    · have h := if_t c6 h
      refine Run.seq ?_
      refine Run.region hL hT [] (by cbv) ?_ ?_
      · exact hq0
      refine Run.ret ?_
      cases h
      refine ⟨_, _, by cbv, ?_, ?_⟩
      · exact LLe.r
      · exact (ALe.v LLe.r ALe.nil)
    · have h := if_f c6 h
      refine Run.skip ?_
      refine Run.seq ?_
      obtain ⟨⟨⟨r7v_Schemav_Cols⟩, r7v_Version, r7v_Tables⟩, h_r7, h⟩ := bnd h
      refine Run.region hL hT [(1, .call [true] [.v (.jk)] [.ag [.im true (eInt_c r7v_Schemav_Cols), .s (.int .i64 r7v_Version), .im true (eRowS_i r7v_Tables)]])] (by cbv) ?_ ?_
      · exact (hq (hC (spec_DrawRecordNew_ac h_r7)) (hq trivial hq0))
      refine Run.seq ?_
      refine Run.seq ?_
      obtain ⟨⟨⟨⟨r8v_Firstv_Schemav_Cols⟩, r8v_Firstv_Version, r8v_Firstv_Tables⟩, r8v_Steps⟩, h_r8, h⟩ := bnd h
      obtain ⟨r9, h_r9, h⟩ := bnd h
      obtain ⟨r10, h_r10, h⟩ := bnd h
      refine Run.draw hL hT hM [(1, .call [false] [.ag [.jk, .jk, .jk]] [.ag [.ow 3 (eInt_c r8v_Firstv_Schemav_Cols), .s (.int .i64 r8v_Firstv_Version), .ow 72 (eRowS_o r8v_Firstv_Tables), .ow 30 (eChangeS_o r8v_Steps)]]), (2, .call [false] [.ag [.jk, .jk, .jk, .jk]] [.v (.s (.bool r9))]), (4, .call [false] [.ag [.jk, .jk, .jk]] [.v (.s (.bool r10))])] (by cbv) (by cbv) (by cbv) (by cbv) (by cbv) ?_ ?_
      · exact (hq trivial (hq (hC (impl_RecordNew_ac h_r8)) (hq (hC (AC.args (impl_RecordOk_ac h_r9) (ALe.ag rfl (LLe.cons (LLe.im (RLe.eq (fr_row Int_c_z _))) (LLe.c (LLe.cons (LLe.im (RLe.eq (fr_row RowS_o_z _))) (LLe.cons (LLe.im (RLe.eq (fr_row ChangeS_o_z _))) LLe.nil)))) ALe.nil))) (hq trivial (hq (hC (spec_StoreOk_ac h_r10)) hq0)))))
      refine Run.cond (by cbv) (hq0) (fun c11 => ?_) (fun c11 => ?_)
      · have h := if_t c11 h
        refine Run.seq ?_
        refine Run.region hL hT [] (by cbv) ?_ ?_
        · exact hq0
        refine Run.ret ?_
        cases h
        refine ⟨_, _, by cbv, ?_, ?_⟩
        · exact LLe.r
        · exact (ALe.v LLe.r ALe.nil)
      · have h := if_f c11 h
        refine Run.skip ?_
        refine Run.seq ?_
        refine Run.seq ?_
        refine Run.region hL hT [] (by cbv) ?_ ?_
        · exact hq0
        refine Run.cond (by cbv) (hq0) (fun c12 => ?_) (fun c12 => ?_)
        · have h := if_t c12 h
          refine Run.seq ?_
          refine Run.region hL hT [] (by cbv) ?_ ?_
          · exact (hq trivial (hq trivial (hq trivial (hq (fun _ => hq0) (hq (fun g14 => (by have g14C := g14; rw [show ln (eChangeS_i r3v_1v_Steps) = lenI_ChangeS r3v_1v_Steps from ln_eq ChangeS_i _, show ln (eChangeS_o r4v_1v_Steps) = lenI_ChangeS r4v_1v_Steps from ln_eq ChangeS_o _] at g14C; exact (hq g14 (hq trivial hq0)))) (hq (fun g15 => (by have g15C := g15; rw [show ln (eChangeS_i r3v_1v_Steps) = lenI_ChangeS r3v_1v_Steps from ln_eq ChangeS_i _, show ln (eChangeS_o r4v_1v_Steps) = lenI_ChangeS r4v_1v_Steps from ln_eq ChangeS_o _] at g15C; exact (hq g15 hq0))) (hq (fun g16 => (by have g16C := g16; rw [show ln (eChangeS_i r3v_1v_Steps) = lenI_ChangeS r3v_1v_Steps from ln_eq ChangeS_i _, show ln (eChangeS_o r4v_1v_Steps) = lenI_ChangeS r4v_1v_Steps from ln_eq ChangeS_o _] at g16C; exact (hq g16 (hq trivial hq0)))) (hq (fun _ => hq0) (hq (fun q18 => (by have q18C := q18; rw [show ln (eChangeS_i r3v_1v_Steps) = lenI_ChangeS r3v_1v_Steps from ln_eq ChangeS_i _, show ln (eChangeS_o r4v_1v_Steps) = lenI_ChangeS r4v_1v_Steps from ln_eq ChangeS_o _] at q18C; exact (hq (bo_m q18) hq0))) hq0)))))))))
          rw [show ln (eChangeS_i r3v_1v_Steps) = lenI_ChangeS r3v_1v_Steps from ln_eq ChangeS_i _]
          rw [show ln (eChangeS_o r4v_1v_Steps) = lenI_ChangeS r4v_1v_Steps from ln_eq ChangeS_o _]
          refine Run.ret ?_
          cases h
          refine ⟨_, _, by cbv, ?_, ?_⟩
          · exact LLe.r
          · exact (ALe.v LLe.r ALe.nil)
        · have h := if_f c12 h
          refine Run.skip ?_
          refine Run.seq ?_
          obtain ⟨r19, h_r19, h⟩ := bnd h
          obtain ⟨⟨⟨⟨r20v_1v_Schemav_Cols⟩, r20v_1v_Version, r20v_1v_Tables⟩, r20v_2⟩, h_r20, h⟩ := bnd h
          refine Run.draw hL hT hM [(2, .call [false] [.ag [.jk, .jk, .jk, .jk]] [.v (.s (.int .i64 r19))]), (3, .call [false, false] [.ag [.jk, .jk, .jk, .jk], .v (.jk)] [.ag [.ow 3 (eInt_c r20v_1v_Schemav_Cols), .s (.int .i64 r20v_1v_Version), .ow 72 (eRowS_o r20v_1v_Tables)], .v (.s (.bool r20v_2))])] (by cbv) (by cbv) (by cbv) (by cbv) (by cbv) ?_ ?_
          · exact (hq trivial (hq trivial (hq (hC (impl_Last_ac h_r19)) (hq (hC (impl_At_ac h_r20)) (hq trivial hq0)))))
          refine Run.seq ?_
          obtain ⟨r21, h_r21, h⟩ := bnd h
          obtain ⟨⟨⟨⟨r22v_1v_Schemav_Cols⟩, r22v_1v_Version, r22v_1v_Tables⟩, r22v_2⟩, h_r22, h⟩ := bnd h
          refine Run.draw hL hT hM [(2, .call [false] [.ag [.jk, .jk, .jk, .jk]] [.v (.s (.int .i64 r21))]), (3, .call [false, false] [.ag [.jk, .jk, .jk, .jk], .v (.jk)] [.ag [.ow 3 (eInt_c r22v_1v_Schemav_Cols), .s (.int .i64 r22v_1v_Version), .ow 72 (eRowS_o r22v_1v_Tables)], .v (.s (.bool r22v_2))])] (by cbv) (by cbv) (by cbv) (by cbv) (by cbv) ?_ ?_
          · exact (hq trivial (hq trivial (hq (hC (impl_Last_ac h_r21)) (hq (hC (AC.args (impl_At_ac h_r22) (ALe.ag rfl (LLe.cons (LLe.im (RLe.eq (fr_row Int_c_z _))) (LLe.c (LLe.cons (LLe.im (RLe.eq (fr_row RowS_o_z _))) (LLe.cons (LLe.im (RLe.eq (fr_row ChangeS_o_z _))) LLe.nil)))) (ALe.v LLe.r ALe.nil)))) (hq trivial hq0)))))
          refine Run.seq ?_
          obtain ⟨r23, h_r23, h⟩ := bnd h
          obtain ⟨⟨⟨⟨r24v_1v_Schemav_Cols⟩, r24v_1v_Version, r24v_1v_Tables⟩, r24v_2⟩, h_r24, h⟩ := bnd h
          refine Run.draw hL hT hM [(2, .call [false] [.ag [.jk, .jk, .jk, .jk]] [.v (.s (.int .i64 r23))]), (3, .call [false, false] [.ag [.jk, .jk, .jk, .jk], .v (.jk)] [.ag [.ow 3 (eInt_c r24v_1v_Schemav_Cols), .s (.int .i64 r24v_1v_Version), .ow 72 (eRowS_o r24v_1v_Tables)], .v (.s (.bool r24v_2))])] (by cbv) (by cbv) (by cbv) (by cbv) (by cbv) ?_ ?_
          · exact (hq trivial (hq trivial (hq (hC (AC.args (impl_Last_ac h_r23) (ALe.ag rfl (LLe.cons (LLe.im (RLe.eq (fr_row Int_c_z _))) (LLe.c (LLe.cons (LLe.im (RLe.eq (fr_row RowS_o_z _))) (LLe.cons (LLe.im (RLe.eq (fr_row ChangeS_o_z _))) LLe.nil)))) ALe.nil))) (hq (hC (AC.args (impl_At_ac h_r24) (ALe.ag rfl (LLe.cons (LLe.im (RLe.eq (fr_row Int_c_z _))) (LLe.c (LLe.cons (LLe.im (RLe.eq (fr_row RowS_o_z _))) (LLe.cons (LLe.im (RLe.eq (fr_row ChangeS_o_z _))) LLe.nil)))) (ALe.v LLe.r ALe.nil)))) (hq trivial hq0)))))
          refine Run.seq ?_
          obtain ⟨⟨⟨⟨r25v_1v_Schemav_Cols⟩, r25v_1v_Version, r25v_1v_Tables⟩, r25v_2⟩, h_r25, h⟩ := bnd h
          refine Run.region hL hT [(2, .call [false, false] [.ag [.jk, .jk, .jk], .v (.jk)] [.ag [.ow 3 (eInt_c r25v_1v_Schemav_Cols), .s (.int .i64 r25v_1v_Version), .ow 72 (eRowS_o r25v_1v_Tables)], .v (.s (.bool r25v_2))])] (by cbv) ?_ ?_
          · exact (hq trivial (hq (hC (AC.args (impl_Forward_ac h_r25) (ALe.ag rfl (LLe.cons (LLe.im (RLe.eq (fr_row Int_c_z _))) (LLe.c (LLe.cons (LLe.im (RLe.eq (fr_row RowS_o_z _))) LLe.nil))) (ALe.v LLe.r ALe.nil)))) (hq trivial hq0)))
          refine Run.seq ?_
          obtain ⟨r26, h_r26, h⟩ := bnd h
          obtain ⟨r27, h_r27, h⟩ := bnd h
          obtain ⟨r28, h_r28, h⟩ := bnd h
          obtain ⟨r29, h_r29, h⟩ := bnd h
          refine Run.draw hL hT hM [(13, .call [false, false] [.ag [.jk, .jk, .jk], .ag [.jk, .jk, .jk]] [.v (.s (.bool r26))]), (18, .call [false, false] [.ag [.jk, .jk, .jk], .ag [.jk, .jk, .jk]] [.v (.s (.bool r27))]), (22, .call [false] [.ag [.jk, .jk, .jk, .jk]] [.v (.s (.int .i64 r28))]), (24, .call [false] [.ag [.jk, .jk, .jk, .jk]] [.v (.s (.int .i64 r29))])] (by cbv) (by cbv) (by cbv) (by cbv) (by cbv) ?_ ?_
          · exact (hq (fun _ => hq0) (hq (fun q31 => (hq q31 hq0)) (hq (fun _ => hq0) (hq (fun _ => hq0) (hq (fun q34 => (hq q34 hq0)) (hq (fun _ => hq0) (hq (fun _ => hq0) (hq (fun q37 => (hq q37 hq0)) (hq (fun _ => hq0) (hq (fun g39 => (hq trivial hq0)) (hq (fun g40 => (hq trivial hq0)) (hq (fun g41 => (hq g41 (hq g41 (hq (hC (AC.args (laws_sameStore_ac (gd_t h_r26 g41)) (ALe.ag rfl (LLe.cons (LLe.im (RLe.eq (fr_row Int_c_z _))) (LLe.c (LLe.cons (LLe.im (RLe.eq (fr_row RowS_o_z _))) LLe.nil))) (ALe.ag rfl (LLe.cons (LLe.im (RLe.eq (fr_row Int_c_z _))) (LLe.c (LLe.cons (LLe.im (RLe.eq (fr_row RowS_o_z _))) LLe.nil))) ALe.nil)))) hq0)))) (hq (fun q42 => (hq q42 hq0)) (hq (fun _ => hq0) (hq (fun g44 => (hq trivial hq0)) (hq (fun g45 => (hq trivial hq0)) (hq (fun g46 => (hq g46 (hq g46 (hq (hC (AC.args (laws_sameStore_ac (gd_t h_r27 g46)) (ALe.ag rfl (LLe.cons (LLe.im (RLe.eq (fr_row Int_c_z _))) (LLe.c (LLe.cons (LLe.im (RLe.eq (fr_row RowS_o_z _))) LLe.nil))) (ALe.ag rfl (LLe.cons (LLe.im (RLe.eq (fr_row Int_c_z _))) (LLe.c (LLe.cons (LLe.im (RLe.eq (fr_row RowS_o_z _))) LLe.nil))) ALe.nil)))) hq0)))) (hq (fun q47 => (hq q47 hq0)) (hq (fun _ => hq0) (hq (fun g49 => (hq trivial hq0)) (hq (fun g50 => (hq g50 (hq (hC (AC.args (impl_Last_ac (gd_t h_r28 g50)) (ALe.ag rfl (LLe.cons (LLe.im (RLe.eq (fr_row Int_c_z _))) (LLe.c (LLe.cons (LLe.im (RLe.eq (fr_row RowS_o_z _))) (LLe.cons (LLe.im (RLe.eq (fr_row ChangeS_o_z _))) LLe.nil)))) ALe.nil))) hq0))) (hq (fun g51 => (hq trivial hq0)) (hq (fun g52 => (hq g52 (hq (hC (impl_Last_ac (gd_t h_r29 g52))) hq0))) (hq (fun g53 => (hq g53 (hq trivial hq0))) (hq (fun g54 => (hq g54 (hq g54 (hq trivial hq0)))) (hq (fun q55 => (hq q55 hq0)) (hq (fun _ => hq0) hq0)))))))))))))))))))))))))))
          refine Run.ret ?_
          cases h
          refine ⟨_, _, by cbv, ?_, ?_⟩
          · exact LLe.r
          · exact (ALe.v LLe.r ALe.nil)


end Go.Proofs.Ytbjbfcfekmdfmaa.L
