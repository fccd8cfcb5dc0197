/- The contracts of the program's functions. -/
import Derived.Test.YtbjbfcfekmdfmaaProg
import Derived.Test.YtbjbfcfekmdfmaaFnBackC0
import Derived.KernelRfl
namespace Go.Proofs.Ytbjbfcfekmdfmaa.L
open Go Go.Proofs
set_option linter.unusedVariables false
set_option linter.unusedSimpArgs false
set_option maxRecDepth 8000 in
theorem slices_IndexFunc_impl_Row__impl_RowPut_1_ac {a0 : List Row} {a1c0v_Id : Int} {a1c0v_Cells : List Int} {r : Int} (h : slices_IndexFunc_impl_Row__impl_RowPut_1.f a0 (Row.mk a1c0v_Id a1c0v_Cells) = some r) : AC Try.prog 97 [.v (.im false (rowsOf Row_i a0)), .v (.fn 101 [.ip [.s (.int .i64 a1c0v_Id), .im false (rowsOf Int_c a1c0v_Cells)]])] [.v (.jk), .v (.jk)] [.v (.s (.int .i64 r))] := by
  unfold slices_IndexFunc_impl_Row__impl_RowPut_1.f at h
  let ar := Ls.ar; let cm := Ls.cm; let bo := Ls.bo; let sc := Ls.sc; let sa := Ls.sa; let sx := Ls.sx; let ss := Ls.ss; let sl := Ls.sl; let bs := Ls.bs; let sb := Ls.sb; let ln := Ls.ln; let sr := Ls.sr; let ap := Ls.ap; let up := Ls.up; let rp := Ls.rp; let fr := Ls.fr; let ge := Ls.ge; let le := Ls.le; let lt := Ls.lt; let nz := Ls.nz; let mm := Ls.mm; let ma := Ls.ma; let sm := Ls.sm; let fl := Ls.fl; let al := Ls.al; let ci := Ls.ci
  let eInt_c := rowsOf Int_c
  let eRow_i := rowsOf Row_i
  let lenI_Row := @lenI Row
  have hL : (⟨ar, cm, bo, sc, sa, sx, ss, sl, bs, sb, ln, sr, ap, up, rp, fr, ge, le, lt, nz, mm, ma, sm, fl, al, ci⟩ : Lf) = Ls := rfl
  show AC Try.prog 97 [.v (.im false (eRow_i a0)), .v (.fn 101 [.ip [.s (.int .i64 a1c0v_Id), .im false (eInt_c a1c0v_Cells)]])] _ _
  refine AC.of_run2 tab_ok Try.func97 (by rfl) (by rfl) (by cbv) ⟨by decide, rfl⟩ fun F hP hA => ?_
  have hT : TabOk F.P tab := hP ▸ tab_ok
  have hM : F.P.follows .mixedOrders = true := hP ▸ mixed
  have hC : ∀ {f a o r}, AC Try.prog f a o r → AC F.P f a o r := fun h => hP ▸ h
  refine Run.weak ?_ (Weak.fnT 1 (by cbv))
  refine Run.seq ?_
  refine Run.region hL hT [] (by cbv) ?_ ?_
  · exact hq0
  refine Run.seq ?_
  refine Run.seq ?_
  refine Run.region hL hT [] (by cbv) ?_ ?_
  · exact hq0
  rw [show ln (eRow_i a0) = lenI_Row a0 from ln_eq Row_i _]
  refine Run.block ?_
  refine Run.loop1 (fun (z6 : Int) => ⟨19, 100000, [(0, .t (.im false (eRow_i a0))), (1, .fn 101 [.t (.ip [.s (.int .i64 a1c0v_Id), .im false (eInt_c a1c0v_Cells)])]), (7, .t (.s (.int .i64 (lenI_Row a0)))), (8, .t (.s (.int .i64 z6)))], []⟩) (x0 := 0) h (Weak.of _ [] hA (by cbv) ?_) (fun _ => rfl) ?_
  · repeat (first | exact hq0 | refine hq (by first | exact True.intro | rfl) ?_)
  · intro k z6 h
    rw [slices_IndexFunc_impl_Row__impl_RowPut_1.l0] at h
    refine Run.seq ?_
    refine Run.region hL hT [] (by cbv) ?_ ?_
    · exact (hq trivial hq0)
    refine Run.seq ?_
    refine Run.cond (by cbv) (hq0) (fun c7 => ?_) (fun c7 => ?_)
    · have h := if_t c7 h
      refine Run.skip ?_
      refine Run.seq ?_
      refine Run.block ?_
      refine Run.seq ?_
      refine Run.region hL hT [] (by cbv) ?_ ?_
      · exact hq0
      refine Run.seq ?_
      obtain ⟨⟨x8v_Id, x8v_Cells⟩, h_x8, h⟩ := bnd h
      obtain ⟨r9, h_r9, h⟩ := bnd h
      refine Run.region hL hT [(3, .el [.s (.int .i64 x8v_Id), .im false (eInt_c x8v_Cells)]), (5, .call [false] [.ag [.jk, .jk], .v (.jk)] [.v (.s (.bool r9))])] (by cbv) ?_ ?_
      · exact (hq (get_le h_x8) (hq (get_lt (f := Row_i) h_x8) (hq (get_ge (f := Row_i) h_x8) (hq (hC (impl_RowPut_1_ac h_r9)) hq0))))
      refine Run.cond (by cbv) (hq0) (fun c10 => ?_) (fun c10 => ?_)
      · have h := if_t c10 h
        refine Run.seq ?_
        refine Run.region hL hT [] (by cbv) ?_ ?_
        · exact hq0
        refine Run.ret ?_
        cases h
        refine ⟨_, _, by cbv, ?_, ?_⟩
        · exact LLe.r
        · exact (ALe.v LLe.r ALe.nil)
      · have h := if_f c10 h
        refine Run.skip ?_
        refine Run.region hL hT [] (by cbv) ?_ ?_
        · exact (hq trivial hq0)
        refine ⟨(ar .add .i64 z6 1), h, Weak.of _ [] hA (by cbv) ?_⟩
        repeat (first | exact hq0 | refine hq (by first | exact True.intro | rfl) ?_)
    · have h := if_f c7 h
      refine Run.exit ?_
      refine Run.seq ?_
      refine Run.region hL hT [] (by cbv) ?_ ?_
      · exact hq0
      refine Run.ret ?_
      cases h
      refine ⟨_, _, by cbv, ?_, ?_⟩
      · exact LLe.r
      · exact (ALe.v LLe.r ALe.nil)

set_option maxRecDepth 8000 in
theorem impl_RowPut_ac {a0 : List Row} {a1v_Id : Int} {a1v_Cells : List Int} {r : (List Row)} (h : impl_RowPut.f a0 (Row.mk a1v_Id a1v_Cells) = some r) : AC Try.prog 77 [.v (.im false (rowsOf Row_i a0)), .ag [.s (.int .i64 a1v_Id), .im false (rowsOf Int_c a1v_Cells)]] [.v (.jk), .ag [.jk, .jk]] [.v (.ow 38 (rowsOf Row_o r))] := by
  unfold impl_RowPut.f at h
  let ar := Ls.ar; let cm := Ls.cm; let bo := Ls.bo; let sc := Ls.sc; let sa := Ls.sa; let sx := Ls.sx; let ss := Ls.ss; let sl := Ls.sl; let bs := Ls.bs; let sb := Ls.sb; let ln := Ls.ln; let sr := Ls.sr; let ap := Ls.ap; let up := Ls.up; let rp := Ls.rp; let fr := Ls.fr; let ge := Ls.ge; let le := Ls.le; let lt := Ls.lt; let nz := Ls.nz; let mm := Ls.mm; let ma := Ls.ma; let sm := Ls.sm; let fl := Ls.fl; let al := Ls.al; let ci := Ls.ci
  let eInt_c := rowsOf Int_c
  let eRow_i := rowsOf Row_i
  let eRow_o := rowsOf Row_o
  let lenI_Row := @lenI Row
  have hL : (⟨ar, cm, bo, sc, sa, sx, ss, sl, bs, sb, ln, sr, ap, up, rp, fr, ge, le, lt, nz, mm, ma, sm, fl, al, ci⟩ : Lf) = Ls := rfl
  show AC Try.prog 77 [.v (.im false (eRow_i a0)), .ag [.s (.int .i64 a1v_Id), .im false (eInt_c a1v_Cells)]] _ _
  refine AC.of_run2 tab_ok Try.func77 (by rfl) (by rfl) (by cbv) ⟨by decide, rfl⟩ fun F hP hA => ?_
  have hT : TabOk F.P tab := hP ▸ tab_ok
  have hM : F.P.follows .mixedOrders = true := hP ▸ mixed
  have hC : ∀ {f a o r}, AC Try.prog f a o r → AC F.P f a o r := fun h => hP ▸ h
  refine Run.seq ?_
  refine Run.region hL hT [] (by cbv) ?_ ?_
  · exact hq0
  refine Run.seq ?_
  obtain ⟨r1, h_r1, h⟩ := bnd h
  refine Run.region hL hT [(1, .call [false] [.v (.jk)] [.v (.ow 38 (eRow_o r1))])] (by cbv) ?_ ?_
  · exact (hq (hC (impl_copyRows_ac h_r1)) hq0)
  refine Run.seq ?_
  obtain ⟨r2, h_r2, h⟩ := bnd h
  refine Run.region hL hT [(3, .call [false, false] [.v (.jk), .v (.jk)] [.v (.s (.int .i64 r2))])] (by cbv) ?_ ?_
  · exact (hq trivial (hq (hC (impl_RowAt_ac h_r2)) hq0))
  refine Run.seq ?_
  refine Run.seq ?_
  refine Run.region hL hT [] (by cbv) ?_ ?_
  · exact (hq trivial hq0)
  refine Run.cond (by cbv) (hq0) (fun c3 => ?_) (fun c3 => ?_)
  · have h := if_t c3 h
    refine Run.seq ?_
    obtain ⟨⟨r4v_Id, r4v_Cells⟩, h_r4, h⟩ := bnd h
    obtain ⟨⟨x5v_Id, x5v_Cells⟩, h_x5, h⟩ := bnd h
    obtain ⟨l6, h_l6, h⟩ := bnd h
    refine Run.region hL hT [(3, .call [false] [.ag [.jk, .jk]] [.ag [.s (.int .i64 r4v_Id), .ow 3 (eInt_c r4v_Cells)]])] (by cbv) ?_ ?_
    · exact (hq trivial (hq (hC (impl_copyRow_ac h_r4)) (hq (get_le h_x5) (hq (get_lt (f := Row_o) h_x5) (hq (get_le h_x5) (hq (get_lt (f := Row_o) h_x5) hq0))))))
    refine Run.row (rows := (up (eRow_o r1) r2 0 [.s (.int .i64 r4v_Id), .ow 3 (eInt_c r4v_Cells)])) 4097 (eRow_o l6) (by cbv) (sto_le (f := Row_o) h_x5 h_l6 rfl LLe.r) ?_
    refine Run.seq ?_
    refine Run.region hL hT [] (by cbv) ?_ ?_
    · exact hq0
    refine Run.ret ?_
    cases h
    refine ⟨_, _, by cbv, ?_, ?_⟩
    · exact LLe.r
    · exact (ALe.v LLe.r ALe.nil)
  · have h := if_f c3 h
    refine Run.skip ?_
    refine Run.seq ?_
    obtain ⟨r7, h_r7, h⟩ := bnd h
    refine Run.region hL hT [(2, .call [false, false] [.v (.jk), .v (.jk)] [.v (.s (.int .i64 r7))])] (by cbv) ?_ ?_
    · exact (hq (hC (slices_IndexFunc_impl_Row__impl_RowPut_1_ac h_r7)) hq0)
    obtain ⟨K9, h_K9, h⟩ := joinE h
    refine Run.join1 K9 (r := r) (fun (y8 : Int) => ⟨34, 100000, [(3, .pt 1 0 0), (5, .rf 2), (6, .t (.s (.int .i64 y8)))], [(1, .box 38 [.t (.s (.int .i64 a1v_Id)), .t (.im false (eInt_c a1v_Cells))]), (2, .row 0 38 2 (eRow_o r1))]⟩) ?_ ?_
    · skip
      refine Run.seq ?_
      refine Run.region hL hT [] (by cbv) ?_ ?_
      · exact (hq trivial hq0)
      refine Run.cond (by cbv) (hq0) (fun c10 => ?_) (fun c10 => ?_)
      · have h := if_t c10 h
        refine Run.region hL hT [] (by cbv) ?_ ?_
        · exact hq0
        rw [show ln (eRow_i a0) = lenI_Row a0 from ln_eq Row_i _]
        refine ⟨(lenI_Row a0), h, Weak.of _ [(1, 0), (2, 4097)] hA (by cbv) ?_⟩
        repeat (first | exact hq0 | refine hq (by first | exact True.intro | rfl) ?_)
      · have h := if_f c10 h
        refine Run.skip ?_
        refine ⟨r7, h, Weak.of _ [(1, 0), (2, 4097)] hA (by cbv) ?_⟩
        repeat (first | exact hq0 | refine hq (by first | exact True.intro | rfl) ?_)
    · intro y8 h
      rw [h_K9] at h
      refine Run.seq ?_
      obtain ⟨⟨r11v_Id, r11v_Cells⟩, h_r11, h⟩ := bnd h
      obtain ⟨l12, h_l12, h⟩ := bnd h
      obtain ⟨r13, h_r13, h⟩ := bnd h
      refine Run.region hL hT [(3, .call [false] [.ag [.jk, .jk]] [.ag [.s (.int .i64 r11v_Id), .ow 3 (eInt_c r11v_Cells)]]), (5, .call [true, false, true] [.v (.jk), .v (.jk), .v (.jk)] [.v (.ow 38 (eRow_o r13))])] (by cbv) ?_ ?_
      · exact (hq trivial (hq (hC (impl_copyRow_ac h_r11)) (hq (hC (AC.args (slices_Insert_impl_Row_ac h_r13) (ALe.v LLe.r (ALe.v LLe.r (ALe.v (LLe.ow (some_le (f := Row_o) h_l12 (RLe.cons rfl LLe.r RLe.nil))) ALe.nil))))) hq0)))
      refine Run.ret ?_
      cases h
      refine ⟨_, _, by cbv, ?_, ?_⟩
      · exact LLe.r
      · exact (ALe.v LLe.r ALe.nil)

set_option maxRecDepth 8000 in
theorem impl_swapped_ac {a0v_Schemav_Cols : List Int} {a0v_Version : Int} {a0v_Tables : List (List Row)} {a1 : Int} {a2 : Bool} {a3v_Id : Int} {a3v_Cells : List Int} {a4 : Bool} {a5v_Id : Int} {a5v_Cells : List Int} {r : Store × Bool} (h : impl_swapped.f (Store.mk (Schema.mk a0v_Schemav_Cols) a0v_Version a0v_Tables) a1 a2 (Row.mk a3v_Id a3v_Cells) a4 (Row.mk a5v_Id a5v_Cells) = some r) : AC Try.prog 40 [.ag [.im false (rowsOf Int_c a0v_Schemav_Cols), .s (.int .i64 a0v_Version), .im false (rowsOf RowS_i a0v_Tables)], .v (.s (.int .i64 a1)), .v (.s (.bool a2)), .ag [.s (.int .i64 a3v_Id), .im false (rowsOf Int_c a3v_Cells)], .v (.s (.bool a4)), .ag [.s (.int .i64 a5v_Id), .im false (rowsOf Int_c a5v_Cells)]] [.ag [.jk, .jk, .jk], .v (.jk), .v (.jk), .ag [.jk, .jk], .v (.jk), .ag [.jk, .jk]] [.ag [.ow 3 (rowsOf Int_c r.1.Schema.Cols), .s (.int .i64 r.1.Version), .ow 72 (rowsOf RowS_o r.1.Tables)], .v (.s (.bool r.2))] := by
  unfold impl_swapped.f at h
  let ar := Ls.ar; let cm := Ls.cm; let bo := Ls.bo; let sc := Ls.sc; let sa := Ls.sa; let sx := Ls.sx; let ss := Ls.ss; let sl := Ls.sl; let bs := Ls.bs; let sb := Ls.sb; let ln := Ls.ln; let sr := Ls.sr; let ap := Ls.ap; let up := Ls.up; let rp := Ls.rp; let fr := Ls.fr; let ge := Ls.ge; let le := Ls.le; let lt := Ls.lt; let nz := Ls.nz; let mm := Ls.mm; let ma := Ls.ma; let sm := Ls.sm; let fl := Ls.fl; let al := Ls.al; let ci := Ls.ci
  let eInt_c := rowsOf Int_c
  let eRowS_i := rowsOf RowS_i
  let eRowS_o := rowsOf RowS_o
  let eRow_o := rowsOf Row_o
  have hL : (⟨ar, cm, bo, sc, sa, sx, ss, sl, bs, sb, ln, sr, ap, up, rp, fr, ge, le, lt, nz, mm, ma, sm, fl, al, ci⟩ : Lf) = Ls := rfl
  show AC Try.prog 40 [.ag [.im false (eInt_c a0v_Schemav_Cols), .s (.int .i64 a0v_Version), .im false (eRowS_i a0v_Tables)], .v (.s (.int .i64 a1)), .v (.s (.bool a2)), .ag [.s (.int .i64 a3v_Id), .im false (eInt_c a3v_Cells)], .v (.s (.bool a4)), .ag [.s (.int .i64 a5v_Id), .im false (eInt_c a5v_Cells)]] _ _
  refine AC.of_run2 tab_ok Try.func40 (by rfl) (by rfl) (by cbv) ⟨by decide, rfl⟩ fun F hP hA => ?_
  have hT : TabOk F.P tab := hP ▸ tab_ok
  have hM : F.P.follows .mixedOrders = true := hP ▸ mixed
  have hC : ∀ {f a o r}, AC Try.prog f a o r → AC F.P f a o r := fun h => hP ▸ h
  refine Run.seq ?_
  refine Run.region hL hT [] (by cbv) ?_ ?_
  · exact hq0
  refine Run.seq ?_
  obtain ⟨⟨⟨r1v_Schemav_Cols⟩, r1v_Version, r1v_Tables⟩, h_r1, h⟩ := bnd h
  refine Run.region hL hT [(1, .call [false] [.ag [.jk, .jk, .jk]] [.ag [.ow 3 (eInt_c r1v_Schemav_Cols), .s (.int .i64 r1v_Version), .ow 72 (eRowS_o r1v_Tables)]])] (by cbv) ?_ ?_
  · exact (hq trivial (hq (hC (impl_copyStore_ac h_r1)) (hq trivial hq0)))
  refine Run.seq ?_
  refine Run.seq ?_
  obtain ⟨r2, h_r2, h⟩ := bnd h
  refine Run.region hL hT [(3, .call [false, false] [.ag [.jk], .v (.jk)] [.v (.s (.bool r2))])] (by cbv) ?_ ?_
  · exact (hq trivial (hq (hC (impl_hasTable_ac h_r2)) hq0))
  refine Run.cond (by cbv) (hq0) (fun c3 => ?_) (fun c3 => ?_)
  · have h := if_t c3 h
    refine Run.seq ?_
    refine Run.region hL hT [] (by cbv) ?_ ?_
    · exact (hq trivial hq0)
    refine Run.ret ?_
    cases h
    refine ⟨_, _, by cbv, ?_, ?_⟩
    · exact LLe.r
    · exact (ALe.ag rfl (LLe.cons LLe.nilO (LLe.c (LLe.cons LLe.nilO LLe.nil))) (ALe.v LLe.r ALe.nil))
  · have h := if_f c3 h
    refine Run.skip ?_
    refine Run.seq ?_
    obtain ⟨x4, h_x4, h⟩ := bnd h
    refine Run.weak ?_ (Weak.take (rows := eRowS_o r1v_Tables) (e2 := 38) (r2 := eRow_o x4) hT 4353 a1 0 15288 1015288 (by cbv) (by cbv) (by cbv) (get_le' h_x4) (get_lt' RowS_o h_x4) ((congrArg (fun q => q[0]?) (get_ge (f := RowS_o) h_x4)).trans rfl) rfl (up (eRowS_o r1v_Tables) a1 0 [.jk]) rfl)
    refine Run.region hL hT [(4, .lk [.jk] [(0, 1015288)])] (by cbv) ?_ ?_
    · exact (hq trivial (hq (get_le h_x4) (hq (up_lt RowS_o h_x4) (hq trivial (hq (get_le h_x4) (hq (up_lt RowS_o h_x4) (hq (up_ge RowS_o h_x4) hq0)))))))
    refine Run.seq ?_
    refine Run.seq ?_
    refine Run.region hL hT [] (by cbv) ?_ ?_
    · exact hq0
    refine Run.cond (by cbv) (hq0) (fun c5 => ?_) (fun c5 => ?_)
    · have h := if_t c5 h
      refine Run.seq ?_
      obtain ⟨r6, h_r6, h⟩ := bnd h
      refine Run.region hL hT [(3, .call [false, false] [.v (.jk), .v (.jk)] [.v (.s (.int .i64 r6))])] (by cbv) ?_ ?_
      · exact (hq trivial (hq (hC (AC.args (impl_RowAt_ac h_r6) (ALe.v (LLe.im (RLe.eq (fr_row Row_o_z _))) (ALe.v LLe.r ALe.nil)))) hq0))
      refine Run.seq ?_
      refine Run.seq ?_
      obtain ⟨⟨x7v_Id, x7v_Cells⟩, h_x7, h⟩ := bnd h
      obtain ⟨r8, h_r8, h⟩ := bnd h
      refine Run.draw hL hT hM [(6, .el [.s (.int .i64 x7v_Id), .ow 3 (eInt_c x7v_Cells)]), (8, .call [false, false] [.ag [.jk, .jk], .ag [.jk, .jk]] [.v (.s (.bool r8))])] (by cbv) (by cbv) (by cbv) (by cbv) (by cbv) ?_ ?_
      · exact (hq trivial (hq (fun _ => hq0) (hq (fun _ => hq0) (hq (fun g11 => (hq g11 (hq g11 (hq (get_le (gd_t h_x7 g11)) (hq (get_lt (f := Row_o) (gd_t h_x7 g11)) hq0))))) (hq (fun g12 => (hq g12 (hq (get_le (gd_t h_x7 g12)) (hq (get_lt (f := Row_o) (gd_t h_x7 g12)) (hq (get_ge (f := Row_o) (gd_t h_x7 g12)) hq0))))) (hq (fun g13 => (hq trivial hq0)) (hq (fun g14 => (hq g14 (hq g14 (hq (hC (AC.args (impl_RowSame_ac (gd_t h_r8 g14)) (ALe.ag rfl (LLe.c (LLe.cons (LLe.im (RLe.eq (fr_row Int_c_z _))) LLe.nil)) (ALe.ag rfl LLe.r ALe.nil)))) hq0)))) (hq (fun g15 => (hq g15 hq0)) (hq (fun _ => hq0) (hq (fun q17 => (hq (bo_m q17) hq0)) hq0))))))))))
      refine Run.cond (by cbv) (hq0) (fun c18 => ?_) (fun c18 => ?_)
      · have h := if_t c18 h
        refine Run.seq ?_
        refine Run.region hL hT [] (by cbv) ?_ ?_
        · exact (hq trivial hq0)
        refine Run.ret ?_
        cases h
        refine ⟨_, _, by cbv, ?_, ?_⟩
        · exact LLe.r
        · exact (ALe.ag rfl (LLe.cons LLe.nilO (LLe.c (LLe.cons LLe.nilO LLe.nil))) (ALe.v LLe.r ALe.nil))
      · have h := if_f c18 h
        refine Run.skip ?_
        obtain ⟨r19, h_r19, h⟩ := bnd h
        refine Run.region hL hT [(3, .call [false, false] [.v (.jk), .v (.jk)] [.v (.ow 38 (eRow_o r19))])] (by cbv) ?_ ?_
        · exact (hq trivial (hq (hC (AC.args (impl_RowDrop_ac h_r19) (ALe.v (LLe.im (RLe.eq (fr_row Row_o_z _))) (ALe.v LLe.r ALe.nil)))) hq0))
        refine Run.seq ?_
        refine Run.seq ?_
        refine Run.region hL hT [] (by cbv) ?_ ?_
        · exact hq0
        refine Run.cond (by cbv) (hq0) (fun c20 => ?_) (fun c20 => ?_)
        · have h := if_t c20 h
          refine Run.seq ?_
          refine Run.seq ?_
          obtain ⟨r21, h_r21, h⟩ := bnd h
          refine Run.region hL hT [(3, .call [false, false] [.v (.jk), .v (.jk)] [.v (.s (.int .i64 r21))])] (by cbv) ?_ ?_
          · exact (hq trivial (hq (hC (AC.args (impl_RowAt_ac h_r21) (ALe.v (LLe.im (RLe.eq (fr_row Row_o_z _))) (ALe.v LLe.r ALe.nil)))) (hq trivial hq0)))
          refine Run.cond (by cbv) (hq0) (fun c22 => ?_) (fun c22 => ?_)
          · have h := if_t c22 h
            refine Run.seq ?_
            refine Run.region hL hT [] (by cbv) ?_ ?_
            · exact (hq trivial hq0)
            refine Run.ret ?_
            cases h
            refine ⟨_, _, by cbv, ?_, ?_⟩
            · exact LLe.r
            · exact (ALe.ag rfl (LLe.cons LLe.nilO (LLe.c (LLe.cons LLe.nilO LLe.nil))) (ALe.v LLe.r ALe.nil))
          · have h := if_f c22 h
            refine Run.skip ?_
            obtain ⟨r23, h_r23, h⟩ := bnd h
            refine Run.region hL hT [(2, .call [false, false] [.v (.jk), .ag [.jk, .jk]] [.v (.ow 38 (eRow_o r23))])] (by cbv) ?_ ?_
            · exact (hq trivial (hq (hC (AC.args (impl_RowPut_ac h_r23) (ALe.v (LLe.im (RLe.eq (fr_row Row_o_z _))) (ALe.ag rfl LLe.r ALe.nil)))) hq0))
            refine Run.seq ?_
            obtain ⟨l24, h_l24, h⟩ := bnd h
            refine Run.region hL hT [] (by cbv) ?_ ?_
            · exact (hq trivial (hq (get_le h_x4) (hq (up_lt RowS_o h_x4) (hq (get_le h_x4) (hq (up_lt RowS_o h_x4) hq0)))))
            refine Run.row (rows := (up (up (eRowS_o r1v_Tables) a1 0 [.jk]) a1 0 [.ow 38 (eRow_o r23)])) 4353 (eRowS_o l24) (by cbv) (hole_le (f := RowS_o) h_x4 h_l24 (ltn (RowS_o_n _) (by decide)) rfl LLe.r) ?_
            refine Run.seq ?_
            obtain ⟨r25, h_r25, h⟩ := bnd h
            refine Run.draw hL hT hM [(2, .call [false] [.ag [.jk, .jk, .jk]] [.v (.s (.bool r25))])] (by cbv) (by cbv) (by cbv) (by cbv) (by cbv) ?_ ?_
            · exact (hq trivial (hq trivial (hq (hC (AC.args (impl_StoreOk_ac h_r25) (ALe.ag rfl (LLe.cons (LLe.im (RLe.eq (fr_row Int_c_z _))) (LLe.c (LLe.cons (LLe.im (RLe.eq (fr_row RowS_o_z _))) LLe.nil))) ALe.nil))) (hq trivial hq0))))
            refine Run.ret ?_
            cases h
            refine ⟨_, _, by cbv, ?_, ?_⟩
            · exact LLe.r
            · exact (ALe.ag rfl LLe.r (ALe.v LLe.r ALe.nil))
        · have h := if_f c20 h
          refine Run.skip ?_
          refine Run.seq ?_
          obtain ⟨l26, h_l26, h⟩ := bnd h
          refine Run.region hL hT [] (by cbv) ?_ ?_
          · exact (hq trivial (hq (get_le h_x4) (hq (up_lt RowS_o h_x4) (hq (get_le h_x4) (hq (up_lt RowS_o h_x4) hq0)))))
          refine Run.row (rows := (up (up (eRowS_o r1v_Tables) a1 0 [.jk]) a1 0 [.ow 38 (eRow_o r19)])) 4353 (eRowS_o l26) (by cbv) (hole_le (f := RowS_o) h_x4 h_l26 (ltn (RowS_o_n _) (by decide)) rfl LLe.r) ?_
          refine Run.seq ?_
          obtain ⟨r27, h_r27, h⟩ := bnd h
          refine Run.draw hL hT hM [(2, .call [false] [.ag [.jk, .jk, .jk]] [.v (.s (.bool r27))])] (by cbv) (by cbv) (by cbv) (by cbv) (by cbv) ?_ ?_
          · exact (hq trivial (hq trivial (hq (hC (AC.args (impl_StoreOk_ac h_r27) (ALe.ag rfl (LLe.cons (LLe.im (RLe.eq (fr_row Int_c_z _))) (LLe.c (LLe.cons (LLe.im (RLe.eq (fr_row RowS_o_z _))) LLe.nil))) ALe.nil))) (hq trivial hq0))))
          refine Run.ret ?_
          cases h
          refine ⟨_, _, by cbv, ?_, ?_⟩
          · exact LLe.r
          · exact (ALe.ag rfl LLe.r (ALe.v LLe.r ALe.nil))
    · have h := if_f c5 h
      refine Run.skip ?_
      refine Run.seq ?_
      refine Run.seq ?_
      refine Run.region hL hT [] (by cbv) ?_ ?_
      · exact hq0
      refine Run.cond (by cbv) (hq0) (fun c28 => ?_) (fun c28 => ?_)
      · have h := if_t c28 h
        refine Run.seq ?_
        refine Run.seq ?_
        obtain ⟨r29, h_r29, h⟩ := bnd h
        refine Run.region hL hT [(3, .call [false, false] [.v (.jk), .v (.jk)] [.v (.s (.int .i64 r29))])] (by cbv) ?_ ?_
        · exact (hq trivial (hq (hC (AC.args (impl_RowAt_ac h_r29) (ALe.v (LLe.im (RLe.eq (fr_row Row_o_z _))) (ALe.v LLe.r ALe.nil)))) (hq trivial hq0)))
        refine Run.cond (by cbv) (hq0) (fun c30 => ?_) (fun c30 => ?_)
        · have h := if_t c30 h
          refine Run.seq ?_
          refine Run.region hL hT [] (by cbv) ?_ ?_
          · exact (hq trivial hq0)
          refine Run.ret ?_
          cases h
          refine ⟨_, _, by cbv, ?_, ?_⟩
          · exact LLe.r
          · exact (ALe.ag rfl (LLe.cons LLe.nilO (LLe.c (LLe.cons LLe.nilO LLe.nil))) (ALe.v LLe.r ALe.nil))
        · have h := if_f c30 h
          refine Run.skip ?_
          obtain ⟨r31, h_r31, h⟩ := bnd h
          refine Run.region hL hT [(2, .call [false, false] [.v (.jk), .ag [.jk, .jk]] [.v (.ow 38 (eRow_o r31))])] (by cbv) ?_ ?_
          · exact (hq trivial (hq (hC (AC.args (impl_RowPut_ac h_r31) (ALe.v (LLe.im (RLe.eq (fr_row Row_o_z _))) (ALe.ag rfl LLe.r ALe.nil)))) hq0))
          refine Run.seq ?_
          obtain ⟨l32, h_l32, h⟩ := bnd h
          refine Run.region hL hT [] (by cbv) ?_ ?_
          · exact (hq trivial (hq (get_le h_x4) (hq (up_lt RowS_o h_x4) (hq (get_le h_x4) (hq (up_lt RowS_o h_x4) hq0)))))
          refine Run.row (rows := (up (up (eRowS_o r1v_Tables) a1 0 [.jk]) a1 0 [.ow 38 (eRow_o r31)])) 4353 (eRowS_o l32) (by cbv) (hole_le (f := RowS_o) h_x4 h_l32 (ltn (RowS_o_n _) (by decide)) rfl LLe.r) ?_
          refine Run.seq ?_
          obtain ⟨r33, h_r33, h⟩ := bnd h
          refine Run.draw hL hT hM [(2, .call [false] [.ag [.jk, .jk, .jk]] [.v (.s (.bool r33))])] (by cbv) (by cbv) (by cbv) (by cbv) (by cbv) ?_ ?_
          · exact (hq trivial (hq trivial (hq (hC (AC.args (impl_StoreOk_ac h_r33) (ALe.ag rfl (LLe.cons (LLe.im (RLe.eq (fr_row Int_c_z _))) (LLe.c (LLe.cons (LLe.im (RLe.eq (fr_row RowS_o_z _))) LLe.nil))) ALe.nil))) (hq trivial hq0))))
          refine Run.ret ?_
          cases h
          refine ⟨_, _, by cbv, ?_, ?_⟩
          · exact LLe.r
          · exact (ALe.ag rfl LLe.r (ALe.v LLe.r ALe.nil))
      · have h := if_f c28 h
        refine Run.skip ?_
        refine Run.seq ?_
        obtain ⟨l34, h_l34, h⟩ := bnd h
        refine Run.region hL hT [] (by cbv) ?_ ?_
        · exact (hq trivial (hq (get_le h_x4) (hq (up_lt RowS_o h_x4) (hq (get_le h_x4) (hq (up_lt RowS_o h_x4) hq0)))))
        refine Run.row (rows := (up (up (eRowS_o r1v_Tables) a1 0 [.jk]) a1 0 [.ow 38 (eRow_o x4)])) 4353 (eRowS_o l34) (by cbv) (hole_le (f := RowS_o) h_x4 h_l34 (ltn (RowS_o_n _) (by decide)) rfl LLe.r) ?_
        refine Run.seq ?_
        obtain ⟨r35, h_r35, h⟩ := bnd h
        refine Run.draw hL hT hM [(2, .call [false] [.ag [.jk, .jk, .jk]] [.v (.s (.bool r35))])] (by cbv) (by cbv) (by cbv) (by cbv) (by cbv) ?_ ?_
        · exact (hq trivial (hq trivial (hq (hC (AC.args (impl_StoreOk_ac h_r35) (ALe.ag rfl (LLe.cons (LLe.im (RLe.eq (fr_row Int_c_z _))) (LLe.c (LLe.cons (LLe.im (RLe.eq (fr_row RowS_o_z _))) LLe.nil))) ALe.nil))) (hq trivial hq0))))
        refine Run.ret ?_
        cases h
        refine ⟨_, _, by cbv, ?_, ?_⟩
        · exact LLe.r
        · exact (ALe.ag rfl LLe.r (ALe.v LLe.r ALe.nil))

set_option maxRecDepth 8000 in
theorem impl_Back_ac {a0v_Schemav_Cols : List Int} {a0v_Version : Int} {a0v_Tables : List (List Row)} {a1v_Table : Int} {a1v_Had : Bool} {a1v_Has : Bool} {a1v_Oldv_Id : Int} {a1v_Oldv_Cells : List Int} {a1v_Newv_Id : Int} {a1v_Newv_Cells : List Int} {r : Store × Bool} (h : impl_Back.f (Store.mk (Schema.mk a0v_Schemav_Cols) a0v_Version a0v_Tables) (Change.mk a1v_Table a1v_Had a1v_Has (Row.mk a1v_Oldv_Id a1v_Oldv_Cells) (Row.mk a1v_Newv_Id a1v_Newv_Cells)) = some r) : AC Try.prog 14 [.ag [.im false (rowsOf Int_c a0v_Schemav_Cols), .s (.int .i64 a0v_Version), .im false (rowsOf RowS_i a0v_Tables)], .ag [.s (.int .i64 a1v_Table), .s (.bool a1v_Had), .s (.bool a1v_Has), .s (.int .i64 a1v_Oldv_Id), .im false (rowsOf Int_c a1v_Oldv_Cells), .s (.int .i64 a1v_Newv_Id), .im false (rowsOf Int_c a1v_Newv_Cells)]] [.ag [.jk, .jk, .jk], .ag [.jk, .jk, .jk, .jk, .jk, .jk, .jk]] [.ag [.ow 3 (rowsOf Int_c r.1.Schema.Cols), .s (.int .i64 r.1.Version), .ow 72 (rowsOf RowS_o r.1.Tables)], .v (.s (.bool r.2))] := by
  unfold impl_Back.f at h
  let ar := Ls.ar; let cm := Ls.cm; let bo := Ls.bo; let sc := Ls.sc; let sa := Ls.sa; let sx := Ls.sx; let ss := Ls.ss; let sl := Ls.sl; let bs := Ls.bs; let sb := Ls.sb; let ln := Ls.ln; let sr := Ls.sr; let ap := Ls.ap; let up := Ls.up; let rp := Ls.rp; let fr := Ls.fr; let ge := Ls.ge; let le := Ls.le; let lt := Ls.lt; let nz := Ls.nz; let mm := Ls.mm; let ma := Ls.ma; let sm := Ls.sm; let fl := Ls.fl; let al := Ls.al; let ci := Ls.ci
  let eInt_c := rowsOf Int_c
  let eRowS_i := rowsOf RowS_i
  let eRowS_o := rowsOf RowS_o
  have hL : (⟨ar, cm, bo, sc, sa, sx, ss, sl, bs, sb, ln, sr, ap, up, rp, fr, ge, le, lt, nz, mm, ma, sm, fl, al, ci⟩ : Lf) = Ls := rfl
  show AC Try.prog 14 [.ag [.im false (eInt_c a0v_Schemav_Cols), .s (.int .i64 a0v_Version), .im false (eRowS_i a0v_Tables)], .ag [.s (.int .i64 a1v_Table), .s (.bool a1v_Had), .s (.bool a1v_Has), .s (.int .i64 a1v_Oldv_Id), .im false (eInt_c a1v_Oldv_Cells), .s (.int .i64 a1v_Newv_Id), .im false (eInt_c a1v_Newv_Cells)]] _ _
  refine AC.of_run2 tab_ok Try.func14 (by rfl) (by rfl) (by cbv) ⟨by decide, rfl⟩ fun F hP hA => ?_
  have hT : TabOk F.P tab := hP ▸ tab_ok
  have hM : F.P.follows .mixedOrders = true := hP ▸ mixed
  have hC : ∀ {f a o r}, AC Try.prog f a o r → AC F.P f a o r := fun h => hP ▸ h
  refine Run.seq ?_
  refine Run.region hL hT [] (by cbv) ?_ ?_
  · exact hq0
  refine Run.seq ?_
  refine Run.seq ?_
  obtain ⟨r1, h_r1, h⟩ := bnd h
  refine Run.region hL hT [(1, .call [false] [.ag [.jk, .jk, .jk]] [.v (.s (.bool r1))])] (by cbv) ?_ ?_
  · exact (hq trivial (hq (hC (impl_StoreOk_ac h_r1)) hq0))
  refine Run.cond (by cbv) (hq0) (fun c2 => ?_) (fun c2 => ?_)
  · have h := if_t c2 h
    refine Run.seq ?_
    refine Run.region hL hT [] (by cbv) ?_ ?_
    · exact (hq trivial hq0)
    refine Run.ret ?_
    cases h
    refine ⟨_, _, by cbv, ?_, ?_⟩
    · exact LLe.r
    · exact (ALe.ag rfl (LLe.cons LLe.nilO (LLe.c (LLe.cons LLe.nilO LLe.nil))) (ALe.v LLe.r ALe.nil))
  · have h := if_f c2 h
    refine Run.skip ?_
    refine Run.seq ?_
    obtain ⟨⟨⟨⟨r3v_1v_Schemav_Cols⟩, r3v_1v_Version, r3v_1v_Tables⟩, r3v_2⟩, h_r3, h⟩ := bnd h
    refine Run.region hL hT [(11, .call [false, false, false, false, false, false] [.ag [.jk, .jk, .jk], .v (.jk), .v (.jk), .ag [.jk, .jk], .v (.jk), .ag [.jk, .jk]] [.ag [.ow 3 (eInt_c r3v_1v_Schemav_Cols), .s (.int .i64 r3v_1v_Version), .ow 72 (eRowS_o r3v_1v_Tables)], .v (.s (.bool r3v_2))])] (by cbv) ?_ ?_
    · exact (hq trivial (hq trivial (hq trivial (hq trivial (hq trivial (hq trivial (hq (hC (impl_swapped_ac h_r3)) (hq trivial hq0))))))))
    refine Run.seq ?_
    refine Run.seq ?_
    refine Run.region hL hT [] (by cbv) ?_ ?_
    · exact hq0
    refine Run.cond (by cbv) (hq0) (fun c4 => ?_) (fun c4 => ?_)
    · have h := if_t c4 h
      refine Run.seq ?_
      obtain ⟨⟨⟨r5v_Schemav_Cols⟩, r5v_Version, r5v_Tables⟩, h_r5, h⟩ := bnd h
      refine Run.region hL hT [(1, .call [false] [.ag [.jk, .jk, .jk]] [.ag [.ow 3 (eInt_c r5v_Schemav_Cols), .s (.int .i64 r5v_Version), .ow 72 (eRowS_o r5v_Tables)]])] (by cbv) ?_ ?_
      · exact (hq trivial (hq (hC (impl_copyStore_ac h_r5)) (hq trivial hq0)))
      refine Run.ret ?_
      cases h
      refine ⟨_, _, by cbv, ?_, ?_⟩
      · exact LLe.r
      · exact (ALe.ag rfl LLe.r (ALe.v LLe.r ALe.nil))
    · have h := if_f c4 h
      refine Run.skip ?_
      refine Run.seq ?_
      refine Run.region hL hT [] (by cbv) ?_ ?_
      · exact (hq trivial (hq trivial hq0))
      refine Run.ret ?_
      cases h
      refine ⟨_, _, by cbv, ?_, ?_⟩
      · exact LLe.r
      · exact (ALe.ag rfl LLe.r (ALe.v LLe.r ALe.nil))

set_option maxRecDepth 8000 in
theorem spec_RowSame_ac {a0v_Id : Int} {a0v_Cells : List Int} {a1v_Id : Int} {a1v_Cells : List Int} {r : Bool} (h : spec_RowSame.f (Row.mk a0v_Id a0v_Cells) (Row.mk a1v_Id a1v_Cells) = some r) : AC Try.prog 103 [.ag [.s (.int .i64 a0v_Id), .im false (rowsOf Int_c a0v_Cells)], .ag [.s (.int .i64 a1v_Id), .im false (rowsOf Int_c a1v_Cells)]] [.ag [.jk, .jk], .ag [.jk, .jk]] [.v (.s (.bool r))] := by
  unfold spec_RowSame.f at h
  let ar := Ls.ar; let cm := Ls.cm; let bo := Ls.bo; let sc := Ls.sc; let sa := Ls.sa; let sx := Ls.sx; let ss := Ls.ss; let sl := Ls.sl; let bs := Ls.bs; let sb := Ls.sb; let ln := Ls.ln; let sr := Ls.sr; let ap := Ls.ap; let up := Ls.up; let rp := Ls.rp; let fr := Ls.fr; let ge := Ls.ge; let le := Ls.le; let lt := Ls.lt; let nz := Ls.nz; let mm := Ls.mm; let ma := Ls.ma; let sm := Ls.sm; let fl := Ls.fl; let al := Ls.al; let ci := Ls.ci
  let eInt_c := rowsOf Int_c
  let lenI_Int := @lenI Int
  have hL : (⟨ar, cm, bo, sc, sa, sx, ss, sl, bs, sb, ln, sr, ap, up, rp, fr, ge, le, lt, nz, mm, ma, sm, fl, al, ci⟩ : Lf) = Ls := rfl
  show AC Try.prog 103 [.ag [.s (.int .i64 a0v_Id), .im false (eInt_c a0v_Cells)], .ag [.s (.int .i64 a1v_Id), .im false (eInt_c a1v_Cells)]] _ _
  refine AC.of_run2 tab_ok Try.func103 (by rfl) (by rfl) (by cbv) ⟨by decide, rfl⟩ fun F hP hA => ?_
  have hT : TabOk F.P tab := hP ▸ tab_ok
  have hM : F.P.follows .mixedOrders = true := hP ▸ mixed
  have hC : ∀ {f a o r}, AC Try.prog f a o r → AC F.P f a o r := fun h => hP ▸ h
  refine Run.seq ?_
  refine Run.region hL hT [] (by cbv) ?_ ?_
  · exact hq0
  refine Run.seq ?_
  refine Run.seq ?_
  refine Run.region hL hT [] (by cbv) ?_ ?_
  · exact (hq trivial (hq trivial (hq trivial (hq (fun _ => hq0) (hq (fun g2 => (hq g2 (hq trivial hq0))) (hq (fun g3 => (hq g3 hq0)) (hq (fun _ => hq0) (hq (fun g5 => (hq g5 (hq trivial hq0))) (hq (fun g6 => (hq g6 hq0)) (hq (fun g7 => (hq g7 (hq g7 (hq trivial hq0)))) (hq (fun _ => hq0) (hq (fun q9 => (hq (bo_m q9) hq0)) hq0))))))))))))
  rw [show ln (eInt_c a0v_Cells) = lenI_Int a0v_Cells from ln_eq Int_c _]
  rw [show ln (eInt_c a1v_Cells) = lenI_Int a1v_Cells from ln_eq Int_c _]
  refine Run.cond (by cbv) (hq0) (fun c10 => ?_) (fun c10 => ?_)
  · have h := if_t c10 h
    refine Run.seq ?_
    refine Run.region hL hT [] (by cbv) ?_ ?_
    · exact hq0
    refine Run.ret ?_
    cases h
    refine ⟨_, _, by cbv, ?_, ?_⟩
    · exact LLe.r
    · exact (ALe.v LLe.r ALe.nil)
  · have h := if_f c10 h
    refine Run.skip ?_
    refine Run.seq ?_
    refine Run.seq ?_
    refine Run.region hL hT [] (by cbv) ?_ ?_
    · exact hq0
    refine Run.block ?_
    refine Run.loop1 (fun (z16 : Int) => ⟨38, 100000, [(2, .pt 1 0 0), (3, .pt 2 0 0), (5, .t (.s (.int .i64 z16)))], [(1, .box 38 [.t (.s (.int .i64 a0v_Id)), .t (.im false (eInt_c a0v_Cells))]), (2, .box 38 [.t (.s (.int .i64 a1v_Id)), .t (.im false (eInt_c a1v_Cells))])]⟩) (x0 := 0) h (Weak.of _ [(1, 0), (2, 1)] hA (by cbv) ?_) (fun _ => rfl) ?_
    · repeat (first | exact hq0 | refine hq (by first | exact True.intro | rfl) ?_)
    · intro k z16 h
      rw [spec_RowSame.l0] at h
      refine Run.seq ?_
      refine Run.seq ?_
      refine Run.region hL hT [] (by cbv) ?_ ?_
      · exact (hq trivial (hq trivial hq0))
      rw [show ln (eInt_c a0v_Cells) = lenI_Int a0v_Cells from ln_eq Int_c _]
      refine Run.cond (by cbv) (hq0) (fun c17 => ?_) (fun c17 => ?_)
      · have h := if_t c17 h
        refine Run.skip ?_
        refine Run.seq ?_
        refine Run.block ?_
        refine Run.seq ?_
        obtain ⟨x18, h_x18, h⟩ := bnd h
        obtain ⟨x19, h_x19, h⟩ := bnd h
        refine Run.draw hL hT hM [(3, .el [.s (.int .i64 x18)]), (8, .el [.s (.int .i64 x19)])] (by cbv) (by cbv) (by cbv) (by cbv) (by cbv) ?_ ?_
        · exact (hq trivial (hq (get_le h_x18) (hq (get_lt (f := Int_c) h_x18) (hq (get_ge (f := Int_c) h_x18) (hq trivial (hq (get_le h_x19) (hq (get_lt (f := Int_c) h_x19) (hq (get_ge (f := Int_c) h_x19) (hq trivial hq0)))))))))
        refine Run.cond (by cbv) (hq0) (fun c20 => ?_) (fun c20 => ?_)
        · have h := if_t c20 h
          refine Run.seq ?_
          refine Run.region hL hT [] (by cbv) ?_ ?_
          · exact hq0
          refine Run.ret ?_
          cases h
          refine ⟨_, _, by cbv, ?_, ?_⟩
          · exact LLe.r
          · exact (ALe.v LLe.r ALe.nil)
        · have h := if_f c20 h
          refine Run.skip ?_
          refine Run.region hL hT [] (by cbv) ?_ ?_
          · exact (hq trivial hq0)
          refine ⟨(ar .add .i64 z16 1), h, Weak.of _ [(1, 1), (2, 2)] hA (by cbv) ?_⟩
          repeat (first | exact hq0 | refine hq (by first | exact True.intro | rfl) ?_)
      · have h := if_f c17 h
        refine Run.exit ?_
        refine Run.seq ?_
        refine Run.region hL hT [] (by cbv) ?_ ?_
        · exact hq0
        refine Run.ret ?_
        cases h
        refine ⟨_, _, by cbv, ?_, ?_⟩
        · exact LLe.r
        · exact (ALe.v LLe.r ALe.nil)

set_option maxRecDepth 8000 in
theorem spec_l7There_ac {a0v_Schemav_Cols : List Int} {a0v_Version : Int} {a0v_Tables : List (List Row)} {a1 : Int} {a2v_Id : Int} {a2v_Cells : List Int} {r : Bool} (h : spec_l7There.f (Store.mk (Schema.mk a0v_Schemav_Cols) a0v_Version a0v_Tables) a1 (Row.mk a2v_Id a2v_Cells) = some r) : AC Try.prog 80 [.ag [.im false (rowsOf Int_c a0v_Schemav_Cols), .s (.int .i64 a0v_Version), .im false (rowsOf RowS_i a0v_Tables)], .v (.s (.int .i64 a1)), .ag [.s (.int .i64 a2v_Id), .im false (rowsOf Int_c a2v_Cells)]] [.ag [.jk, .jk, .jk], .v (.jk), .ag [.jk, .jk]] [.v (.s (.bool r))] := by
  unfold spec_l7There.f at h
  let ar := Ls.ar; let cm := Ls.cm; let bo := Ls.bo; let sc := Ls.sc; let sa := Ls.sa; let sx := Ls.sx; let ss := Ls.ss; let sl := Ls.sl; let bs := Ls.bs; let sb := Ls.sb; let ln := Ls.ln; let sr := Ls.sr; let ap := Ls.ap; let up := Ls.up; let rp := Ls.rp; let fr := Ls.fr; let ge := Ls.ge; let le := Ls.le; let lt := Ls.lt; let nz := Ls.nz; let mm := Ls.mm; let ma := Ls.ma; let sm := Ls.sm; let fl := Ls.fl; let al := Ls.al; let ci := Ls.ci
  let eInt_c := rowsOf Int_c
  let eRowS_i := rowsOf RowS_i
  let eRow_i := rowsOf Row_i
  let lenI_RowS := @lenI (List Row)
  have hL : (⟨ar, cm, bo, sc, sa, sx, ss, sl, bs, sb, ln, sr, ap, up, rp, fr, ge, le, lt, nz, mm, ma, sm, fl, al, ci⟩ : Lf) = Ls := rfl
  show AC Try.prog 80 [.ag [.im false (eInt_c a0v_Schemav_Cols), .s (.int .i64 a0v_Version), .im false (eRowS_i a0v_Tables)], .v (.s (.int .i64 a1)), .ag [.s (.int .i64 a2v_Id), .im false (eInt_c a2v_Cells)]] _ _
  refine AC.of_run2 tab_ok Try.func80 (by rfl) (by rfl) (by cbv) ⟨by decide, rfl⟩ fun F hP hA => ?_
  have hT : TabOk F.P tab := hP ▸ tab_ok
  have hM : F.P.follows .mixedOrders = true := hP ▸ mixed
  have hC : ∀ {f a o r}, AC Try.prog f a o r → AC F.P f a o r := fun h => hP ▸ h
  refine Run.seq ?_
  refine Run.region hL hT [] (by cbv) ?_ ?_
  · exact hq0
  refine Run.seq ?_
  refine Run.seq ?_
  obtain ⟨r1, h_r1, h⟩ := bnd h
  refine Run.region hL hT [(5, .call [false, false, false] [.v (.jk), .v (.jk), .v (.jk)] [.v (.s (.bool r1))])] (by cbv) ?_ ?_
  · exact (hq trivial (hq trivial (hq (by rw [show ln (eRowS_i a0v_Tables) = lenI_RowS a0v_Tables from ln_eq RowS_i _]; exact (hC (spec_l1In_ac h_r1))) hq0)))
  rw [show ln (eRowS_i a0v_Tables) = lenI_RowS a0v_Tables from ln_eq RowS_i _]
  refine Run.cond (by cbv) (hq0) (fun c2 => ?_) (fun c2 => ?_)
  · have h := if_t c2 h
    refine Run.seq ?_
    refine Run.region hL hT [] (by cbv) ?_ ?_
    · exact hq0
    refine Run.ret ?_
    cases h
    refine ⟨_, _, by cbv, ?_, ?_⟩
    · exact LLe.r
    · exact (ALe.v LLe.r ALe.nil)
  · have h := if_f c2 h
    refine Run.skip ?_
    refine Run.seq ?_
    obtain ⟨x3, h_x3, h⟩ := bnd h
    obtain ⟨r4, h_r4, h⟩ := bnd h
    refine Run.draw hL hT hM [(3, .el [.im false (eRow_i x3)]), (7, .call [false, false] [.v (.jk), .v (.jk)] [.v (.s (.int .i64 r4))])] (by cbv) (by cbv) (by cbv) (by cbv) (by cbv) ?_ ?_
    · exact (hq trivial (hq (get_le h_x3) (hq (get_lt (f := RowS_i) h_x3) (hq (get_ge (f := RowS_i) h_x3) (hq trivial (hq (hC (spec_RowAt_ac h_r4)) hq0))))))
    refine Run.seq ?_
    obtain ⟨⟨x5v_Id, x5v_Cells⟩, h_x5, h⟩ := bnd h
    obtain ⟨r6, h_r6, h⟩ := bnd h
    refine Run.draw hL hT hM [(6, .el [.im false (eRow_i x3)]), (9, .el [.s (.int .i64 x5v_Id), .im false (eInt_c x5v_Cells)]), (12, .call [false, false] [.ag [.jk, .jk], .ag [.jk, .jk]] [.v (.s (.bool r6))])] (by cbv) (by cbv) (by cbv) (by cbv) (by cbv) ?_ ?_
    · exact (hq trivial (hq (fun _ => hq0) (hq (fun g8 => (hq g8 (hq trivial hq0))) (hq (fun _ => hq0) (hq (fun g10 => (hq g10 (hq g10 (hq (get_le h_x3) (hq (get_lt (f := RowS_i) h_x3) (hq (get_ge (f := RowS_i) h_x3) hq0)))))) (hq (fun g11 => (hq g11 hq0)) (hq (fun _ => hq0) (hq (fun g13 => (hq g13 (hq g13 (hq (get_le (gd_t h_x5 g13)) (hq (get_lt (f := Row_i) (gd_t h_x5 g13)) (hq (get_ge (f := Row_i) (gd_t h_x5 g13)) hq0)))))) (hq (fun g14 => (hq g14 hq0)) (hq (fun g15 => (hq trivial hq0)) (hq (fun g16 => (hq g16 (hq g16 (hq (hC (spec_RowSame_ac (gd_t h_r6 g16))) hq0)))) (hq (fun q17 => (hq q17 hq0)) (hq (fun _ => hq0) hq0)))))))))))))
    refine Run.ret ?_
    cases h
    refine ⟨_, _, by cbv, ?_, ?_⟩
    · exact LLe.r
    · exact (ALe.v LLe.r ALe.nil)

set_option maxRecDepth 8000 in
theorem spec_l7Turn_ac {a0v_Schemav_Cols : List Int} {a0v_Version : Int} {a0v_Tables : List (List Row)} {a1v_Table : Int} {a1v_Had : Bool} {a1v_Has : Bool} {a1v_Oldv_Id : Int} {a1v_Oldv_Cells : List Int} {a1v_Newv_Id : Int} {a1v_Newv_Cells : List Int} {r : Store × Bool} (h : spec_l7Turn.f (Store.mk (Schema.mk a0v_Schemav_Cols) a0v_Version a0v_Tables) (Change.mk a1v_Table a1v_Had a1v_Has (Row.mk a1v_Oldv_Id a1v_Oldv_Cells) (Row.mk a1v_Newv_Id a1v_Newv_Cells)) = some r) : AC Try.prog 44 [.ag [.ow 3 (rowsOf Int_c a0v_Schemav_Cols), .s (.int .i64 a0v_Version), .ow 72 (rowsOf RowS_o a0v_Tables)], .ag [.s (.int .i64 a1v_Table), .s (.bool a1v_Had), .s (.bool a1v_Has), .s (.int .i64 a1v_Oldv_Id), .im false (rowsOf Int_c a1v_Oldv_Cells), .s (.int .i64 a1v_Newv_Id), .im false (rowsOf Int_c a1v_Newv_Cells)]] [.ag [.jk, .jk, .jk], .ag [.jk, .jk, .jk, .jk, .jk, .jk, .jk]] [.ag [.ow 3 (rowsOf Int_c r.1.Schema.Cols), .s (.int .i64 r.1.Version), .ow 72 (rowsOf RowS_o r.1.Tables)], .v (.s (.bool r.2))] := by
  unfold spec_l7Turn.f at h
  let ar := Ls.ar; let cm := Ls.cm; let bo := Ls.bo; let sc := Ls.sc; let sa := Ls.sa; let sx := Ls.sx; let ss := Ls.ss; let sl := Ls.sl; let bs := Ls.bs; let sb := Ls.sb; let ln := Ls.ln; let sr := Ls.sr; let ap := Ls.ap; let up := Ls.up; let rp := Ls.rp; let fr := Ls.fr; let ge := Ls.ge; let le := Ls.le; let lt := Ls.lt; let nz := Ls.nz; let mm := Ls.mm; let ma := Ls.ma; let sm := Ls.sm; let fl := Ls.fl; let al := Ls.al; let ci := Ls.ci
  let eInt_c := rowsOf Int_c
  let eRowS_o := rowsOf RowS_o
  let eRow_o := rowsOf Row_o
  let lenI_RowS := @lenI (List Row)
  have hL : (⟨ar, cm, bo, sc, sa, sx, ss, sl, bs, sb, ln, sr, ap, up, rp, fr, ge, le, lt, nz, mm, ma, sm, fl, al, ci⟩ : Lf) = Ls := rfl
  show AC Try.prog 44 [.ag [.ow 3 (eInt_c a0v_Schemav_Cols), .s (.int .i64 a0v_Version), .ow 72 (eRowS_o a0v_Tables)], .ag [.s (.int .i64 a1v_Table), .s (.bool a1v_Had), .s (.bool a1v_Has), .s (.int .i64 a1v_Oldv_Id), .im false (eInt_c a1v_Oldv_Cells), .s (.int .i64 a1v_Newv_Id), .im false (eInt_c a1v_Newv_Cells)]] _ _
  refine AC.of_run2 tab_ok Try.func44 (by rfl) (by rfl) (by cbv) ⟨by decide, rfl⟩ fun F hP hA => ?_
  have hT : TabOk F.P tab := hP ▸ tab_ok
  have hM : F.P.follows .mixedOrders = true := hP ▸ mixed
  have hC : ∀ {f a o r}, AC Try.prog f a o r → AC F.P f a o r := fun h => hP ▸ h
  refine Run.seq ?_
  refine Run.region hL hT [] (by cbv) ?_ ?_
  · exact hq0
  refine Run.seq ?_
  refine Run.seq ?_
  obtain ⟨r1, h_r1, h⟩ := bnd h
  obtain ⟨r2, h_r2, h⟩ := bnd h
  refine Run.region hL hT [(6, .call [false, false, false] [.v (.jk), .v (.jk), .v (.jk)] [.v (.s (.bool r1))]), (17, .call [false, false, false] [.ag [.jk, .jk, .jk], .v (.jk), .ag [.jk, .jk]] [.v (.s (.bool r2))])] (by cbv) ?_ ?_
  · exact (hq trivial (hq trivial (hq trivial (hq (by rw [show ln (eRowS_o a0v_Tables) = lenI_RowS a0v_Tables from ln_eq RowS_o _]; exact (hC (spec_l1In_ac h_r1))) (hq (fun _ => hq0) (hq (fun g4 => (hq g4 (hq trivial hq0))) (hq (fun g5 => (hq g5 hq0)) (hq (fun g6 => (hq trivial hq0)) (hq (fun _ => hq0) (hq (fun g8 => (hq g8 (hq trivial hq0))) (hq (fun _ => hq0) (hq (fun g10 => (hq g10 (hq trivial hq0))) (hq (fun g11 => (hq g11 (hq g11 (hq g11 (hq (hC (AC.args (spec_l7There_ac (gd_t h_r2 g11)) (ALe.ag rfl (LLe.cons (LLe.im (RLe.eq (fr_row Int_c_z _))) (LLe.c (LLe.cons (LLe.im (RLe.eq (fr_row RowS_o_z _))) LLe.nil))) (ALe.v LLe.r (ALe.ag rfl LLe.r ALe.nil))))) hq0))))) (hq (fun g12 => (hq g12 hq0)) (hq (fun g13 => (hq g13 (hq (fun q14 => (hq (bo_a g13 q14) hq0)) (hq (fun _ => hq0) hq0)))) (hq (fun _ => hq0) (hq (fun q17 => (hq (bo_m q17) hq0)) hq0)))))))))))))))))
  rw [show ln (eRowS_o a0v_Tables) = lenI_RowS a0v_Tables from ln_eq RowS_o _]
  refine Run.cond (by cbv) (hq0) (fun c18 => ?_) (fun c18 => ?_)
  · have h := if_t c18 h
    refine Run.seq ?_
    refine Run.region hL hT [] (by cbv) ?_ ?_
    · exact (hq trivial (hq trivial hq0))
    refine Run.weak ?_ (Weak.mvB 0 14290 4 (by cbv) (by cbv) (by cbv))
    refine Run.weak ?_ (Weak.mvB 1 14291 4 (by cbv) (by cbv) (by cbv))
    refine Run.ret ?_
    cases h
    refine ⟨_, _, by cbv, ?_, ?_⟩
    · exact LLe.r
    · exact (ALe.ag rfl LLe.r (ALe.v LLe.r ALe.nil))
  · have h := if_f c18 h
    refine Run.skip ?_
    refine Run.seq ?_
    obtain ⟨x19, h_x19, h⟩ := bnd h
    refine Run.weak ?_ (Weak.take (rows := eRowS_o a0v_Tables) (e2 := 38) (r2 := eRow_o x19) hT 1 a1v_Table 0 11194 1011194 (by cbv) (by cbv) (by cbv) (get_le' h_x19) (get_lt' RowS_o h_x19) ((congrArg (fun q => q[0]?) (get_ge (f := RowS_o) h_x19)).trans rfl) rfl (up (eRowS_o a0v_Tables) a1v_Table 0 [.jk]) rfl)
    refine Run.region hL hT [(5, .lk [.jk] [(0, 1011194)])] (by cbv) ?_ ?_
    · exact (hq trivial (hq trivial (hq (get_le h_x19) (hq (up_lt RowS_o h_x19) (hq trivial (hq (get_le h_x19) (hq (up_lt RowS_o h_x19) (hq (up_ge RowS_o h_x19) hq0))))))))
    refine Run.seq ?_
    refine Run.seq ?_
    refine Run.region hL hT [] (by cbv) ?_ ?_
    · exact (hq trivial hq0)
    refine Run.cond (by cbv) (hq0) (fun c20 => ?_) (fun c20 => ?_)
    · have h := if_t c20 h
      obtain ⟨r21, h_r21, h⟩ := bnd h
      refine Run.region hL hT [(4, .call [false, false] [.v (.jk), .v (.jk)] [.v (.ow 38 (eRow_o r21))])] (by cbv) ?_ ?_
      · exact (hq trivial (hq (hC (AC.args (spec_RowDrop_ac h_r21) (ALe.v (LLe.im (RLe.eq (fr_row Row_o_z _))) (ALe.v LLe.r ALe.nil)))) hq0))
      refine Run.seq ?_
      refine Run.seq ?_
      refine Run.region hL hT [] (by cbv) ?_ ?_
      · exact (hq trivial hq0)
      refine Run.cond (by cbv) (hq0) (fun c22 => ?_) (fun c22 => ?_)
      · have h := if_t c22 h
        refine Run.seq ?_
        refine Run.seq ?_
        obtain ⟨r23, h_r23, h⟩ := bnd h
        refine Run.region hL hT [(4, .call [false, false] [.v (.jk), .v (.jk)] [.v (.s (.int .i64 r23))])] (by cbv) ?_ ?_
        · exact (hq trivial (hq (hC (AC.args (spec_RowAt_ac h_r23) (ALe.v (LLe.im (RLe.eq (fr_row Row_o_z _))) (ALe.v LLe.r ALe.nil)))) (hq trivial hq0)))
        refine Run.cond (by cbv) (hq0) (fun c24 => ?_) (fun c24 => ?_)
        · have h := if_t c24 h
          refine Run.seq ?_
          refine Run.region hL hT [] (by cbv) ?_ ?_
          · exact (hq trivial (hq trivial hq0))
          refine Run.weak ?_ (Weak.back (rows := (up (eRowS_o a0v_Tables) a1v_Table 0 [.jk])) (r2 := eRow_o x19) 1 a1v_Table 0 11194 1011194 (by cbv) (by cbv) (by cbv) (by cbv) (get_le' h_x19) (up_lt RowS_o h_x19) ((congrArg (fun q => q[0]?) (up_at RowS_o h_x19)).trans rfl) (up (up (eRowS_o a0v_Tables) a1v_Table 0 [.jk]) a1v_Table 0 [.ow 38 (eRow_o x19)]) rfl)
          refine Run.weak ?_ (Weak.row (rows := (up (up (eRowS_o a0v_Tables) a1v_Table 0 [.jk]) a1v_Table 0 [.ow 38 (eRow_o x19)])) 1 (eRowS_o a0v_Tables) (by cbv) (RLe.eq (hole_eq (f := RowS_o) h_x19 rfl)))
          refine Run.weak ?_ (Weak.mvB 0 34770 4 (by cbv) (by cbv) (by cbv))
          refine Run.weak ?_ (Weak.mvB 1 34771 4 (by cbv) (by cbv) (by cbv))
          refine Run.ret ?_
          cases h
          refine ⟨_, _, by cbv, ?_, ?_⟩
          · exact LLe.r
          · exact (ALe.ag rfl LLe.r (ALe.v LLe.r ALe.nil))
        · have h := if_f c24 h
          refine Run.skip ?_
          obtain ⟨r25, h_r25, h⟩ := bnd h
          refine Run.region hL hT [(3, .call [false, false] [.v (.jk), .ag [.jk, .jk]] [.v (.ow 38 (eRow_o r25))])] (by cbv) ?_ ?_
          · exact (hq trivial (hq (hC (AC.args (spec_RowPut_ac h_r25) (ALe.v (LLe.im (RLe.eq (fr_row Row_o_z _))) (ALe.ag rfl LLe.r ALe.nil)))) hq0))
          refine Run.seq ?_
          obtain ⟨l26, h_l26, h⟩ := bnd h
          refine Run.region hL hT [] (by cbv) ?_ ?_
          · exact (hq trivial (hq trivial (hq (get_le h_x19) (hq (up_lt RowS_o h_x19) (hq (get_le h_x19) (hq (up_lt RowS_o h_x19) hq0))))))
          refine Run.row (rows := (up (up (eRowS_o a0v_Tables) a1v_Table 0 [.jk]) a1v_Table 0 [.ow 38 (eRow_o r25)])) 1 (eRowS_o l26) (by cbv) (hole_le (f := RowS_o) h_x19 h_l26 (ltn (RowS_o_n _) (by decide)) rfl LLe.r) ?_
          refine Run.seq ?_
          refine Run.region hL hT [] (by cbv) ?_ ?_
          · exact (hq trivial (hq trivial hq0))
          refine Run.weak ?_ (Weak.mvB 0 42962 4 (by cbv) (by cbv) (by cbv))
          refine Run.weak ?_ (Weak.mvB 1 42963 4 (by cbv) (by cbv) (by cbv))
          refine Run.ret ?_
          cases h
          refine ⟨_, _, by cbv, ?_, ?_⟩
          · exact LLe.r
          · exact (ALe.ag rfl LLe.r (ALe.v LLe.r ALe.nil))
      · have h := if_f c22 h
        refine Run.skip ?_
        refine Run.seq ?_
        obtain ⟨l27, h_l27, h⟩ := bnd h
        refine Run.region hL hT [] (by cbv) ?_ ?_
        · exact (hq trivial (hq trivial (hq (get_le h_x19) (hq (up_lt RowS_o h_x19) (hq (get_le h_x19) (hq (up_lt RowS_o h_x19) hq0))))))
        refine Run.row (rows := (up (up (eRowS_o a0v_Tables) a1v_Table 0 [.jk]) a1v_Table 0 [.ow 38 (eRow_o r21)])) 1 (eRowS_o l27) (by cbv) (hole_le (f := RowS_o) h_x19 h_l27 (ltn (RowS_o_n _) (by decide)) rfl LLe.r) ?_
        refine Run.seq ?_
        refine Run.region hL hT [] (by cbv) ?_ ?_
        · exact (hq trivial (hq trivial hq0))
        refine Run.weak ?_ (Weak.mvB 0 34770 4 (by cbv) (by cbv) (by cbv))
        refine Run.weak ?_ (Weak.mvB 1 34771 4 (by cbv) (by cbv) (by cbv))
        refine Run.ret ?_
        cases h
        refine ⟨_, _, by cbv, ?_, ?_⟩
        · exact LLe.r
        · exact (ALe.ag rfl LLe.r (ALe.v LLe.r ALe.nil))
    · have h := if_f c20 h
      refine Run.skip ?_
      refine Run.seq ?_
      refine Run.seq ?_
      refine Run.region hL hT [] (by cbv) ?_ ?_
      · exact (hq trivial hq0)
      refine Run.cond (by cbv) (hq0) (fun c28 => ?_) (fun c28 => ?_)
      · have h := if_t c28 h
        refine Run.seq ?_
        refine Run.seq ?_
        obtain ⟨r29, h_r29, h⟩ := bnd h
        refine Run.region hL hT [(4, .call [false, false] [.v (.jk), .v (.jk)] [.v (.s (.int .i64 r29))])] (by cbv) ?_ ?_
        · exact (hq trivial (hq (hC (AC.args (spec_RowAt_ac h_r29) (ALe.v (LLe.im (RLe.eq (fr_row Row_o_z _))) (ALe.v LLe.r ALe.nil)))) (hq trivial hq0)))
        refine Run.cond (by cbv) (hq0) (fun c30 => ?_) (fun c30 => ?_)
        · have h := if_t c30 h
          refine Run.seq ?_
          refine Run.region hL hT [] (by cbv) ?_ ?_
          · exact (hq trivial (hq trivial hq0))
          refine Run.weak ?_ (Weak.back (rows := (up (eRowS_o a0v_Tables) a1v_Table 0 [.jk])) (r2 := eRow_o x19) 1 a1v_Table 0 11194 1011194 (by cbv) (by cbv) (by cbv) (by cbv) (get_le' h_x19) (up_lt RowS_o h_x19) ((congrArg (fun q => q[0]?) (up_at RowS_o h_x19)).trans rfl) (up (up (eRowS_o a0v_Tables) a1v_Table 0 [.jk]) a1v_Table 0 [.ow 38 (eRow_o x19)]) rfl)
          refine Run.weak ?_ (Weak.row (rows := (up (up (eRowS_o a0v_Tables) a1v_Table 0 [.jk]) a1v_Table 0 [.ow 38 (eRow_o x19)])) 1 (eRowS_o a0v_Tables) (by cbv) (RLe.eq (hole_eq (f := RowS_o) h_x19 rfl)))
          refine Run.weak ?_ (Weak.mvB 0 30674 4 (by cbv) (by cbv) (by cbv))
          refine Run.weak ?_ (Weak.mvB 1 30675 4 (by cbv) (by cbv) (by cbv))
          refine Run.ret ?_
          cases h
          refine ⟨_, _, by cbv, ?_, ?_⟩
          · exact LLe.r
          · exact (ALe.ag rfl LLe.r (ALe.v LLe.r ALe.nil))
        · have h := if_f c30 h
          refine Run.skip ?_
          obtain ⟨r31, h_r31, h⟩ := bnd h
          refine Run.region hL hT [(3, .call [false, false] [.v (.jk), .ag [.jk, .jk]] [.v (.ow 38 (eRow_o r31))])] (by cbv) ?_ ?_
          · exact (hq trivial (hq (hC (AC.args (spec_RowPut_ac h_r31) (ALe.v (LLe.im (RLe.eq (fr_row Row_o_z _))) (ALe.ag rfl LLe.r ALe.nil)))) hq0))
          refine Run.seq ?_
          obtain ⟨l32, h_l32, h⟩ := bnd h
          refine Run.region hL hT [] (by cbv) ?_ ?_
          · exact (hq trivial (hq trivial (hq (get_le h_x19) (hq (up_lt RowS_o h_x19) (hq (get_le h_x19) (hq (up_lt RowS_o h_x19) hq0))))))
          refine Run.row (rows := (up (up (eRowS_o a0v_Tables) a1v_Table 0 [.jk]) a1v_Table 0 [.ow 38 (eRow_o r31)])) 1 (eRowS_o l32) (by cbv) (hole_le (f := RowS_o) h_x19 h_l32 (ltn (RowS_o_n _) (by decide)) rfl LLe.r) ?_
          refine Run.seq ?_
          refine Run.region hL hT [] (by cbv) ?_ ?_
          · exact (hq trivial (hq trivial hq0))
          refine Run.weak ?_ (Weak.mvB 0 38866 4 (by cbv) (by cbv) (by cbv))
          refine Run.weak ?_ (Weak.mvB 1 38867 4 (by cbv) (by cbv) (by cbv))
          refine Run.ret ?_
          cases h
          refine ⟨_, _, by cbv, ?_, ?_⟩
          · exact LLe.r
          · exact (ALe.ag rfl LLe.r (ALe.v LLe.r ALe.nil))
      · have h := if_f c28 h
        refine Run.skip ?_
        refine Run.seq ?_
        obtain ⟨l33, h_l33, h⟩ := bnd h
        refine Run.region hL hT [] (by cbv) ?_ ?_
        · exact (hq trivial (hq trivial (hq (get_le h_x19) (hq (up_lt RowS_o h_x19) (hq (get_le h_x19) (hq (up_lt RowS_o h_x19) hq0))))))
        refine Run.row (rows := (up (up (eRowS_o a0v_Tables) a1v_Table 0 [.jk]) a1v_Table 0 [.ow 38 (eRow_o x19)])) 1 (eRowS_o l33) (by cbv) (hole_le (f := RowS_o) h_x19 h_l33 (ltn (RowS_o_n _) (by decide)) rfl LLe.r) ?_
        refine Run.seq ?_
        refine Run.region hL hT [] (by cbv) ?_ ?_
        · exact (hq trivial (hq trivial hq0))
        refine Run.weak ?_ (Weak.mvB 0 30674 4 (by cbv) (by cbv) (by cbv))
        refine Run.weak ?_ (Weak.mvB 1 30675 4 (by cbv) (by cbv) (by cbv))
        refine Run.ret ?_
        cases h
        refine ⟨_, _, by cbv, ?_, ?_⟩
        · exact LLe.r
        · exact (ALe.ag rfl LLe.r (ALe.v LLe.r ALe.nil))

set_option maxRecDepth 8000 in
theorem spec_Back_ac {a0v_Schemav_Cols : List Int} {a0v_Version : Int} {a0v_Tables : List (List Row)} {a1v_Table : Int} {a1v_Had : Bool} {a1v_Has : Bool} {a1v_Oldv_Id : Int} {a1v_Oldv_Cells : List Int} {a1v_Newv_Id : Int} {a1v_Newv_Cells : List Int} {r : Store × Bool} (h : spec_Back.f (Store.mk (Schema.mk a0v_Schemav_Cols) a0v_Version a0v_Tables) (Change.mk a1v_Table a1v_Had a1v_Has (Row.mk a1v_Oldv_Id a1v_Oldv_Cells) (Row.mk a1v_Newv_Id a1v_Newv_Cells)) = some r) : AC Try.prog 15 [.ag [.im false (rowsOf Int_c a0v_Schemav_Cols), .s (.int .i64 a0v_Version), .im false (rowsOf RowS_i a0v_Tables)], .ag [.s (.int .i64 a1v_Table), .s (.bool a1v_Had), .s (.bool a1v_Has), .s (.int .i64 a1v_Oldv_Id), .im false (rowsOf Int_c a1v_Oldv_Cells), .s (.int .i64 a1v_Newv_Id), .im false (rowsOf Int_c a1v_Newv_Cells)]] [.ag [.jk, .jk, .jk], .ag [.jk, .jk, .jk, .jk, .jk, .jk, .jk]] [.ag [.ow 3 (rowsOf Int_c r.1.Schema.Cols), .s (.int .i64 r.1.Version), .ow 72 (rowsOf RowS_o r.1.Tables)], .v (.s (.bool r.2))] := by
  unfold spec_Back.f at h
  let ar := Ls.ar; let cm := Ls.cm; let bo := Ls.bo; let sc := Ls.sc; let sa := Ls.sa; let sx := Ls.sx; let ss := Ls.ss; let sl := Ls.sl; let bs := Ls.bs; let sb := Ls.sb; let ln := Ls.ln; let sr := Ls.sr; let ap := Ls.ap; let up := Ls.up; let rp := Ls.rp; let fr := Ls.fr; let ge := Ls.ge; let le := Ls.le; let lt := Ls.lt; let nz := Ls.nz; let mm := Ls.mm; let ma := Ls.ma; let sm := Ls.sm; let fl := Ls.fl; let al := Ls.al; let ci := Ls.ci
  let eInt_c := rowsOf Int_c
  let eRowS_i := rowsOf RowS_i
  let eRowS_o := rowsOf RowS_o
  have hL : (⟨ar, cm, bo, sc, sa, sx, ss, sl, bs, sb, ln, sr, ap, up, rp, fr, ge, le, lt, nz, mm, ma, sm, fl, al, ci⟩ : Lf) = Ls := rfl
  show AC Try.prog 15 [.ag [.im false (eInt_c a0v_Schemav_Cols), .s (.int .i64 a0v_Version), .im false (eRowS_i a0v_Tables)], .ag [.s (.int .i64 a1v_Table), .s (.bool a1v_Had), .s (.bool a1v_Has), .s (.int .i64 a1v_Oldv_Id), .im false (eInt_c a1v_Oldv_Cells), .s (.int .i64 a1v_Newv_Id), .im false (eInt_c a1v_Newv_Cells)]] _ _
  refine AC.of_run2 tab_ok Try.func15 (by rfl) (by rfl) (by cbv) ⟨by decide, rfl⟩ fun F hP hA => ?_
  have hT : TabOk F.P tab := hP ▸ tab_ok
  have hM : F.P.follows .mixedOrders = true := hP ▸ mixed
  have hC : ∀ {f a o r}, AC Try.prog f a o r → AC F.P f a o r := fun h => hP ▸ h
  refine Run.seq ?_
  refine Run.region hL hT [] (by cbv) ?_ ?_
  · exact hq0
  refine Run.seq ?_
  refine Run.seq ?_
  obtain ⟨r1, h_r1, h⟩ := bnd h
  refine Run.region hL hT [(1, .call [false] [.ag [.jk, .jk, .jk]] [.v (.s (.bool r1))])] (by cbv) ?_ ?_
  · exact (hq trivial (hq (hC (spec_StoreOk_ac h_r1)) hq0))
  refine Run.cond (by cbv) (hq0) (fun c2 => ?_) (fun c2 => ?_)
  · have h := if_t c2 h
    refine Run.seq ?_
    refine Run.region hL hT [] (by cbv) ?_ ?_
    · exact (hq trivial hq0)
    refine Run.ret ?_
    cases h
    refine ⟨_, _, by cbv, ?_, ?_⟩
    · exact LLe.r
    · exact (ALe.ag rfl (LLe.cons LLe.nilO (LLe.c (LLe.cons LLe.nilO LLe.nil))) (ALe.v LLe.r ALe.nil))
  · have h := if_f c2 h
    refine Run.skip ?_
    refine Run.seq ?_
    obtain ⟨⟨⟨r3v_Schemav_Cols⟩, r3v_Version, r3v_Tables⟩, h_r3, h⟩ := bnd h
    obtain ⟨⟨⟨⟨r4v_1v_Schemav_Cols⟩, r4v_1v_Version, r4v_1v_Tables⟩, r4v_2⟩, h_r4, h⟩ := bnd h
    refine Run.draw hL hT hM [(1, .call [false] [.ag [.jk, .jk, .jk]] [.ag [.ow 3 (eInt_c r3v_Schemav_Cols), .s (.int .i64 r3v_Version), .ow 72 (eRowS_o r3v_Tables)]]), (13, .call [true, false] [.ag [.jk, .jk, .jk], .ag [.jk, .jk, .jk, .jk, .jk, .jk, .jk]] [.ag [.ow 3 (eInt_c r4v_1v_Schemav_Cols), .s (.int .i64 r4v_1v_Version), .ow 72 (eRowS_o r4v_1v_Tables)], .v (.s (.bool r4v_2))])] (by cbv) (by cbv) (by cbv) (by cbv) (by cbv) ?_ ?_
    · exact (hq trivial (hq (hC (spec_l7Copy_ac h_r3)) (hq trivial (hq trivial (hq trivial (hq trivial (hq trivial (hq (hC (spec_l7Turn_ac h_r4)) (hq trivial hq0)))))))))
    refine Run.seq ?_
    refine Run.seq ?_
    obtain ⟨r5, h_r5, h⟩ := bnd h
    refine Run.region hL hT [(4, .call [false] [.ag [.jk, .jk, .jk]] [.v (.s (.bool r5))])] (by cbv) ?_ ?_
    · exact (hq (fun g6 => (hq trivial hq0)) (hq (fun g7 => (hq g7 (hq (hC (AC.args (spec_StoreOk_ac (gd_t h_r5 g7)) (ALe.ag rfl (LLe.cons (LLe.im (RLe.eq (fr_row Int_c_z _))) (LLe.c (LLe.cons (LLe.im (RLe.eq (fr_row RowS_o_z _))) LLe.nil))) ALe.nil))) hq0))) (hq (fun g8 => (hq g8 hq0)) (hq (fun _ => hq0) (hq (fun q10 => (hq (bo_m q10) hq0)) hq0)))))
    refine Run.cond (by cbv) (hq0) (fun c11 => ?_) (fun c11 => ?_)
    · have h := if_t c11 h
      refine Run.seq ?_
      obtain ⟨⟨⟨r12v_Schemav_Cols⟩, r12v_Version, r12v_Tables⟩, h_r12, h⟩ := bnd h
      refine Run.region hL hT [(1, .call [false] [.ag [.jk, .jk, .jk]] [.ag [.ow 3 (eInt_c r12v_Schemav_Cols), .s (.int .i64 r12v_Version), .ow 72 (eRowS_o r12v_Tables)]])] (by cbv) ?_ ?_
      · exact (hq trivial (hq (hC (spec_l7Copy_ac h_r12)) (hq trivial hq0)))
      refine Run.ret ?_
      cases h
      refine ⟨_, _, by cbv, ?_, ?_⟩
      · exact LLe.r
      · exact (ALe.ag rfl LLe.r (ALe.v LLe.r ALe.nil))
    · have h := if_f c11 h
      refine Run.skip ?_
      refine Run.seq ?_
      refine Run.region hL hT [] (by cbv) ?_ ?_
      · exact (hq trivial (hq trivial hq0))
      refine Run.ret ?_
      cases h
      refine ⟨_, _, by cbv, ?_, ?_⟩
      · exact LLe.r
      · exact (ALe.ag rfl LLe.r (ALe.v LLe.r ALe.nil))

set_option maxRecDepth 8000 in
theorem spec_DrawStoreNew_ac {a0 : List Int} {r : Schema} (h : spec_DrawStoreNew.f a0 = some r) : AC Try.prog 16 [.v (.im true (rowsOf u8_c a0))] [.v (.jk)] [.ag [.im true (rowsOf Int_c r.Cols)]] := by
  unfold spec_DrawStoreNew.f at h
  let ar := Ls.ar; let cm := Ls.cm; let bo := Ls.bo; let sc := Ls.sc; let sa := Ls.sa; let sx := Ls.sx; let ss := Ls.ss; let sl := Ls.sl; let bs := Ls.bs; let sb := Ls.sb; let ln := Ls.ln; let sr := Ls.sr; let ap := Ls.ap; let up := Ls.up; let rp := Ls.rp; let fr := Ls.fr; let ge := Ls.ge; let le := Ls.le; let lt := Ls.lt; let nz := Ls.nz; let mm := Ls.mm; let ma := Ls.ma; let sm := Ls.sm; let fl := Ls.fl; let al := Ls.al; let ci := Ls.ci
  let eInt_c := rowsOf Int_c
  let eu8_c := rowsOf u8_c
  have hL : (⟨ar, cm, bo, sc, sa, sx, ss, sl, bs, sb, ln, sr, ap, up, rp, fr, ge, le, lt, nz, mm, ma, sm, fl, al, ci⟩ : Lf) = Ls := rfl
  show AC Try.prog 16 [.v (.im true (eu8_c a0))] _ _
  refine AC.of_run2 tab_ok Try.func16 (by rfl) (by rfl) (by cbv) ⟨by decide, rfl⟩ fun F hP hA => ?_
  have hT : TabOk F.P tab := hP ▸ tab_ok
  have hM : F.P.follows .mixedOrders = true := hP ▸ mixed
  have hC : ∀ {f a o r}, AC Try.prog f a o r → AC F.P f a o r := fun h => hP ▸ h
  refine Run.seq ?_
  refine Run.region hL hT [] (by cbv) ?_ ?_
  · exact hq0
  refine Run.seq ?_
  obtain ⟨⟨r1v_b, r1v_i, r1v_h⟩, h_r1, h⟩ := bnd h
  obtain ⟨⟨⟨r2v_1v_b, r2v_1v_i, r2v_1v_h⟩, ⟨r2v_2v_Cols⟩⟩, h_r2, h⟩ := bnd h
  refine Run.region hL hT [(1, .call [true] [.v (.jk)] [.v (.bx 88 [.im true (eu8_c r1v_b), .s (.int .i64 r1v_i), .s (.int .i64 r1v_h)])]), (2, .call [true] [.v (.bx 88 [.im true (eu8_c r1v_b), .s (.int .i64 r2v_1v_i), .s (.int .i64 r2v_1v_h)])] [.ag [.ow 3 (eInt_c r2v_2v_Cols)]])] (by cbv) ?_ ?_
  · exact (hq (hC (spec_l1New_ac h_r1)) (hq (hC (spec_l6DrawBad_ac h_r2)) (hq trivial hq0)))
  refine Run.weak ?_ (Weak.keep (rows := eInt_c r2v_2v_Cols) 4098 (by cbv) (eInt_c r2v_2v_Cols) (fr_row Int_c_z _))
  refine Run.ret ?_
  cases h
  refine ⟨_, _, by cbv, ?_, ?_⟩
  · exact LLe.r
  · exact (ALe.ag rfl LLe.r ALe.nil)

set_option maxRecDepth 8000 in
theorem impl_StoreNew_ac {a0v_Cols : List Int} {r : Store × Bool} (h : impl_StoreNew.f (Schema.mk a0v_Cols) = some r) : AC Try.prog 17 [.ag [.im false (rowsOf Int_c a0v_Cols)]] [.ag [.jk]] [.ag [.ow 3 (rowsOf Int_c r.1.Schema.Cols), .s (.int .i64 r.1.Version), .ow 72 (rowsOf RowS_o r.1.Tables)], .v (.s (.bool r.2))] := by
  unfold impl_StoreNew.f at h
  let ar := Ls.ar; let cm := Ls.cm; let bo := Ls.bo; let sc := Ls.sc; let sa := Ls.sa; let sx := Ls.sx; let ss := Ls.ss; let sl := Ls.sl; let bs := Ls.bs; let sb := Ls.sb; let ln := Ls.ln; let sr := Ls.sr; let ap := Ls.ap; let up := Ls.up; let rp := Ls.rp; let fr := Ls.fr; let ge := Ls.ge; let le := Ls.le; let lt := Ls.lt; let nz := Ls.nz; let mm := Ls.mm; let ma := Ls.ma; let sm := Ls.sm; let fl := Ls.fl; let al := Ls.al; let ci := Ls.ci
  let eInt_c := rowsOf Int_c
  let eRowS_o := rowsOf RowS_o
  let lenI_Int := @lenI Int
  have hL : (⟨ar, cm, bo, sc, sa, sx, ss, sl, bs, sb, ln, sr, ap, up, rp, fr, ge, le, lt, nz, mm, ma, sm, fl, al, ci⟩ : Lf) = Ls := rfl
  show AC Try.prog 17 [.ag [.im false (eInt_c a0v_Cols)]] _ _
  refine AC.of_run2 tab_ok Try.func17 (by rfl) (by rfl) (by cbv) ⟨by decide, rfl⟩ fun F hP hA => ?_
  have hT : TabOk F.P tab := hP ▸ tab_ok
  have hM : F.P.follows .mixedOrders = true := hP ▸ mixed
  have hC : ∀ {f a o r}, AC Try.prog f a o r → AC F.P f a o r := fun h => hP ▸ h
  refine Run.seq ?_
  refine Run.region hL hT [] (by cbv) ?_ ?_
  · exact hq0
  refine Run.seq ?_
  obtain ⟨r1, h_r1, h⟩ := bnd h
  obtain ⟨l2, h_l2, h⟩ := bnd h
  refine Run.draw hL hT hM [(2, .call [false] [.v (.jk)] [.v (.ow 3 (eInt_c r1))])] (by cbv) (by cbv) (by cbv) (by cbv) (by cbv) ?_ ?_
  · exact (hq trivial (hq (hC (impl_copyInts_ac h_r1)) (hq trivial (hq trivial (hq (by rw [show ln (eInt_c a0v_Cols) = lenI_Int a0v_Cols from ln_eq Int_c _]; exact (mk_0 h_l2)) (hq (by rw [show ln (eInt_c a0v_Cols) = lenI_Int a0v_Cols from ln_eq Int_c _]; exact (mk_mm h_l2)) (hq trivial hq0)))))))
  rw [show ln (eInt_c a0v_Cols) = lenI_Int a0v_Cols from ln_eq Int_c _]
  refine Run.row (rows := (rp (lenI_Int a0v_Cols) [.s (.slice none 0 0)])) 4103 (eRowS_o l2) (by cbv) (mk_le (f := RowS_o) rfl (LLe.cons LLe.nilO LLe.nil) h_l2) ?_
  refine Run.seq ?_
  refine Run.seq ?_
  obtain ⟨r3, h_r3, h⟩ := bnd h
  refine Run.region hL hT [(1, .call [false] [.ag [.jk, .jk, .jk]] [.v (.s (.bool r3))])] (by cbv) ?_ ?_
  · exact (hq trivial (hq (hC (AC.args (impl_StoreOk_ac h_r3) (ALe.ag rfl (LLe.cons (LLe.im (RLe.eq (fr_row Int_c_z _))) (LLe.c (LLe.cons (LLe.im (RLe.eq (fr_row RowS_o_z _))) LLe.nil))) ALe.nil))) hq0))
  refine Run.cond (by cbv) (hq0) (fun c4 => ?_) (fun c4 => ?_)
  · have h := if_t c4 h
    refine Run.seq ?_
    refine Run.region hL hT [] (by cbv) ?_ ?_
    · exact (hq trivial hq0)
    refine Run.ret ?_
    cases h
    refine ⟨_, _, by cbv, ?_, ?_⟩
    · exact LLe.r
    · exact (ALe.ag rfl (LLe.cons LLe.nilO (LLe.c (LLe.cons LLe.nilO LLe.nil))) (ALe.v LLe.r ALe.nil))
  · have h := if_f c4 h
    refine Run.skip ?_
    refine Run.seq ?_
    refine Run.region hL hT [] (by cbv) ?_ ?_
    · exact (hq trivial (hq trivial hq0))
    refine Run.ret ?_
    cases h
    refine ⟨_, _, by cbv, ?_, ?_⟩
    · exact LLe.r
    · exact (ALe.ag rfl LLe.r (ALe.v LLe.r ALe.nil))

set_option maxRecDepth 8000 in
theorem laws_big_ac {a0 : List Int} {r : Bool} (h : laws_big.f a0 = some r) : AC Try.prog 7 [.v (.im false (rowsOf u8_c a0))] [.v (.jk)] [.v (.s (.bool r))] := by
  unfold laws_big.f at h
  let ar := Ls.ar; let cm := Ls.cm; let bo := Ls.bo; let sc := Ls.sc; let sa := Ls.sa; let sx := Ls.sx; let ss := Ls.ss; let sl := Ls.sl; let bs := Ls.bs; let sb := Ls.sb; let ln := Ls.ln; let sr := Ls.sr; let ap := Ls.ap; let up := Ls.up; let rp := Ls.rp; let fr := Ls.fr; let ge := Ls.ge; let le := Ls.le; let lt := Ls.lt; let nz := Ls.nz; let mm := Ls.mm; let ma := Ls.ma; let sm := Ls.sm; let fl := Ls.fl; let al := Ls.al; let ci := Ls.ci
  let eu8_c := rowsOf u8_c
  let lenI_u8 := @lenI Int
  have hL : (⟨ar, cm, bo, sc, sa, sx, ss, sl, bs, sb, ln, sr, ap, up, rp, fr, ge, le, lt, nz, mm, ma, sm, fl, al, ci⟩ : Lf) = Ls := rfl
  show AC Try.prog 7 [.v (.im false (eu8_c a0))] _ _
  refine AC.of_run2 tab_ok Try.func7 (by rfl) (by rfl) (by cbv) ⟨by decide, rfl⟩ fun F hP hA => ?_
  have hT : TabOk F.P tab := hP ▸ tab_ok
  have hM : F.P.follows .mixedOrders = true := hP ▸ mixed
  have hC : ∀ {f a o r}, AC Try.prog f a o r → AC F.P f a o r := fun h => hP ▸ h
  refine Run.seq ?_
  refine Run.region hL hT [] (by cbv) ?_ ?_
  · exact hq0
  refine Run.seq ?_
  refine Run.region hL hT [] (by cbv) ?_ ?_
  · exact (hq trivial hq0)
  rw [show ln (eu8_c a0) = lenI_u8 a0 from ln_eq u8_c _]
  refine Run.ret ?_
  cases h
  refine ⟨_, _, by cbv, ?_, ?_⟩
  · exact LLe.r
  · exact (ALe.v LLe.r ALe.nil)

set_option maxRecDepth 8000 in
theorem impl_noRow_ac {a0v_Id : Int} {a0v_Cells : List Int} {r : Bool} (h : impl_noRow.f (Row.mk a0v_Id a0v_Cells) = some r) : AC Try.prog 72 [.ag [.s (.int .i64 a0v_Id), .im false (rowsOf Int_c a0v_Cells)]] [.ag [.jk, .jk]] [.v (.s (.bool r))] := by
  unfold impl_noRow.f at h
  let ar := Ls.ar; let cm := Ls.cm; let bo := Ls.bo; let sc := Ls.sc; let sa := Ls.sa; let sx := Ls.sx; let ss := Ls.ss; let sl := Ls.sl; let bs := Ls.bs; let sb := Ls.sb; let ln := Ls.ln; let sr := Ls.sr; let ap := Ls.ap; let up := Ls.up; let rp := Ls.rp; let fr := Ls.fr; let ge := Ls.ge; let le := Ls.le; let lt := Ls.lt; let nz := Ls.nz; let mm := Ls.mm; let ma := Ls.ma; let sm := Ls.sm; let fl := Ls.fl; let al := Ls.al; let ci := Ls.ci
  let eInt_c := rowsOf Int_c
  let lenI_Int := @lenI Int
  have hL : (⟨ar, cm, bo, sc, sa, sx, ss, sl, bs, sb, ln, sr, ap, up, rp, fr, ge, le, lt, nz, mm, ma, sm, fl, al, ci⟩ : Lf) = Ls := rfl
  show AC Try.prog 72 [.ag [.s (.int .i64 a0v_Id), .im false (eInt_c a0v_Cells)]] _ _
  refine AC.of_run2 tab_ok Try.func72 (by rfl) (by rfl) (by cbv) ⟨by decide, rfl⟩ fun F hP hA => ?_
  have hT : TabOk F.P tab := hP ▸ tab_ok
  have hM : F.P.follows .mixedOrders = true := hP ▸ mixed
  have hC : ∀ {f a o r}, AC Try.prog f a o r → AC F.P f a o r := fun h => hP ▸ h
  refine Run.seq ?_
  refine Run.region hL hT [] (by cbv) ?_ ?_
  · exact hq0
  refine Run.seq ?_
  refine Run.region hL hT [] (by cbv) ?_ ?_
  · exact (hq trivial (hq trivial (hq (fun _ => hq0) (hq (fun g2 => (hq g2 (hq trivial hq0))) (hq (fun g3 => (hq g3 hq0)) (hq (fun g4 => (hq g4 (hq trivial hq0))) (hq (fun q5 => (hq q5 hq0)) (hq (fun _ => hq0) hq0))))))))
  rw [show ln (eInt_c a0v_Cells) = lenI_Int a0v_Cells from ln_eq Int_c _]
  refine Run.ret ?_
  cases h
  refine ⟨_, _, by cbv, ?_, ?_⟩
  · exact LLe.r
  · exact (ALe.v LLe.r ALe.nil)

set_option maxRecDepth 8000 in
theorem impl_changeFits_ac {a0v_Cols : List Int} {a1v_Table : Int} {a1v_Had : Bool} {a1v_Has : Bool} {a1v_Oldv_Id : Int} {a1v_Oldv_Cells : List Int} {a1v_Newv_Id : Int} {a1v_Newv_Cells : List Int} {r : Bool} (h : impl_changeFits.f (Schema.mk a0v_Cols) (Change.mk a1v_Table a1v_Had a1v_Has (Row.mk a1v_Oldv_Id a1v_Oldv_Cells) (Row.mk a1v_Newv_Id a1v_Newv_Cells)) = some r) : AC Try.prog 39 [.ag [.im false (rowsOf Int_c a0v_Cols)], .ag [.s (.int .i64 a1v_Table), .s (.bool a1v_Had), .s (.bool a1v_Has), .s (.int .i64 a1v_Oldv_Id), .im false (rowsOf Int_c a1v_Oldv_Cells), .s (.int .i64 a1v_Newv_Id), .im false (rowsOf Int_c a1v_Newv_Cells)]] [.ag [.jk], .ag [.jk, .jk, .jk, .jk, .jk, .jk, .jk]] [.v (.s (.bool r))] := by
  unfold impl_changeFits.f at h
  let ar := Ls.ar; let cm := Ls.cm; let bo := Ls.bo; let sc := Ls.sc; let sa := Ls.sa; let sx := Ls.sx; let ss := Ls.ss; let sl := Ls.sl; let bs := Ls.bs; let sb := Ls.sb; let ln := Ls.ln; let sr := Ls.sr; let ap := Ls.ap; let up := Ls.up; let rp := Ls.rp; let fr := Ls.fr; let ge := Ls.ge; let le := Ls.le; let lt := Ls.lt; let nz := Ls.nz; let mm := Ls.mm; let ma := Ls.ma; let sm := Ls.sm; let fl := Ls.fl; let al := Ls.al; let ci := Ls.ci
  let eInt_c := rowsOf Int_c
  have hL : (⟨ar, cm, bo, sc, sa, sx, ss, sl, bs, sb, ln, sr, ap, up, rp, fr, ge, le, lt, nz, mm, ma, sm, fl, al, ci⟩ : Lf) = Ls := rfl
  show AC Try.prog 39 [.ag [.im false (eInt_c a0v_Cols)], .ag [.s (.int .i64 a1v_Table), .s (.bool a1v_Had), .s (.bool a1v_Has), .s (.int .i64 a1v_Oldv_Id), .im false (eInt_c a1v_Oldv_Cells), .s (.int .i64 a1v_Newv_Id), .im false (eInt_c a1v_Newv_Cells)]] _ _
  refine AC.of_run2 tab_ok Try.func39 (by rfl) (by rfl) (by cbv) ⟨by decide, rfl⟩ fun F hP hA => ?_
  have hT : TabOk F.P tab := hP ▸ tab_ok
  have hM : F.P.follows .mixedOrders = true := hP ▸ mixed
  have hC : ∀ {f a o r}, AC Try.prog f a o r → AC F.P f a o r := fun h => hP ▸ h
  refine Run.seq ?_
  refine Run.region hL hT [] (by cbv) ?_ ?_
  · exact hq0
  refine Run.seq ?_
  obtain ⟨r1, h_r1, h⟩ := bnd h
  obtain ⟨r2, h_r2, h⟩ := bnd h
  refine Run.region hL hT [(8, .call [false, false, false] [.ag [.jk], .v (.jk), .ag [.jk, .jk]] [.v (.s (.bool r1))]), (17, .call [false] [.ag [.jk, .jk]] [.v (.s (.bool r2))])] (by cbv) ?_ ?_
  · exact (hq trivial (hq (fun g3 => (hq trivial hq0)) (hq (fun _ => hq0) (hq (fun g5 => (hq g5 (hq trivial hq0))) (hq (fun _ => hq0) (hq (fun g7 => (hq g7 (hq trivial hq0))) (hq (fun g8 => (hq g8 (hq g8 (hq g8 (hq (hC (impl_RowOk_ac (gd_t h_r1 g8))) hq0))))) (hq (fun q9 => (hq q9 hq0)) (hq (fun _ => hq0) (hq (fun _ => hq0) (hq (fun g12 => (hq g12 (hq trivial hq0))) (hq (fun g13 => (hq g13 hq0)) (hq (fun g14 => (hq g14 hq0)) (hq (fun _ => hq0) (hq (fun g16 => (hq g16 (hq trivial hq0))) (hq (fun g17 => (hq g17 (hq (hC (impl_noRow_ac (gd_t h_r2 g17))) hq0))) (hq (fun g18 => (hq g18 (hq (fun q19 => (hq (bo_a g18 q19) hq0)) (hq (fun _ => hq0) hq0)))) (hq (fun _ => hq0) (hq (fun q22 => (hq (bo_m q22) hq0)) hq0)))))))))))))))))))
  refine Run.seq ?_
  obtain ⟨r23, h_r23, h⟩ := bnd h
  obtain ⟨r24, h_r24, h⟩ := bnd h
  refine Run.region hL hT [(8, .call [false, false, false] [.ag [.jk], .v (.jk), .ag [.jk, .jk]] [.v (.s (.bool r23))]), (17, .call [false] [.ag [.jk, .jk]] [.v (.s (.bool r24))])] (by cbv) ?_ ?_
  · exact (hq trivial (hq (fun g25 => (hq trivial hq0)) (hq (fun _ => hq0) (hq (fun g27 => (hq g27 (hq trivial hq0))) (hq (fun _ => hq0) (hq (fun g29 => (hq g29 (hq trivial hq0))) (hq (fun g30 => (hq g30 (hq g30 (hq g30 (hq (hC (impl_RowOk_ac (gd_t h_r23 g30))) hq0))))) (hq (fun q31 => (hq q31 hq0)) (hq (fun _ => hq0) (hq (fun _ => hq0) (hq (fun g34 => (hq g34 (hq trivial hq0))) (hq (fun g35 => (hq g35 hq0)) (hq (fun g36 => (hq g36 hq0)) (hq (fun _ => hq0) (hq (fun g38 => (hq g38 (hq trivial hq0))) (hq (fun g39 => (hq g39 (hq (hC (impl_noRow_ac (gd_t h_r24 g39))) hq0))) (hq (fun g40 => (hq g40 (hq (fun q41 => (hq (bo_a g40 q41) hq0)) (hq (fun _ => hq0) hq0)))) (hq (fun _ => hq0) (hq (fun q44 => (hq (bo_m q44) hq0)) hq0)))))))))))))))))))
  refine Run.seq ?_
  obtain ⟨r45, h_r45, h⟩ := bnd h
  refine Run.region hL hT [(10, .call [false, false] [.ag [.jk], .v (.jk)] [.v (.s (.bool r45))])] (by cbv) ?_ ?_
  · exact (hq trivial (hq (fun _ => hq0) (hq (fun g47 => (hq g47 (hq trivial hq0))) (hq (fun _ => hq0) (hq (fun q49 => (hq (bo_m q49) hq0)) (hq (fun g50 => (hq trivial hq0)) (hq (fun _ => hq0) (hq (fun g52 => (hq g52 (hq trivial hq0))) (hq (fun g53 => (hq g53 (hq g53 (hq (hC (impl_hasTable_ac (gd_t h_r45 g53))) hq0)))) (hq (fun q54 => (hq q54 hq0)) (hq (fun _ => hq0) (hq (fun _ => hq0) (hq (fun q57 => (hq q57 hq0)) (hq (fun _ => hq0) (hq (fun _ => hq0) (hq (fun q60 => (hq q60 hq0)) (hq (fun _ => hq0) hq0)))))))))))))))))
  refine Run.ret ?_
  cases h
  refine ⟨_, _, by cbv, ?_, ?_⟩
  · exact LLe.r
  · exact (ALe.v LLe.r ALe.nil)

set_option maxRecDepth 8000 in
theorem impl_Forward_ac {a0v_Schemav_Cols : List Int} {a0v_Version : Int} {a0v_Tables : List (List Row)} {a1 : List Change} {r : Store × Bool} (h : impl_Forward.f (Store.mk (Schema.mk a0v_Schemav_Cols) a0v_Version a0v_Tables) a1 = some r) : AC Try.prog 9 [.ag [.im false (rowsOf Int_c a0v_Schemav_Cols), .s (.int .i64 a0v_Version), .im false (rowsOf RowS_i a0v_Tables)], .v (.im false (rowsOf Change_i a1))] [.ag [.jk, .jk, .jk], .v (.jk)] [.ag [.ow 3 (rowsOf Int_c r.1.Schema.Cols), .s (.int .i64 r.1.Version), .ow 72 (rowsOf RowS_o r.1.Tables)], .v (.s (.bool r.2))] := by
  unfold impl_Forward.f at h
  let ar := Ls.ar; let cm := Ls.cm; let bo := Ls.bo; let sc := Ls.sc; let sa := Ls.sa; let sx := Ls.sx; let ss := Ls.ss; let sl := Ls.sl; let bs := Ls.bs; let sb := Ls.sb; let ln := Ls.ln; let sr := Ls.sr; let ap := Ls.ap; let up := Ls.up; let rp := Ls.rp; let fr := Ls.fr; let ge := Ls.ge; let le := Ls.le; let lt := Ls.lt; let nz := Ls.nz; let mm := Ls.mm; let ma := Ls.ma; let sm := Ls.sm; let fl := Ls.fl; let al := Ls.al; let ci := Ls.ci
  let eChange_i := rowsOf Change_i
  let eInt_c := rowsOf Int_c
  let eRowS_i := rowsOf RowS_i
  let eRowS_o := rowsOf RowS_o
  let lenI_Change := @lenI Change
  have hL : (⟨ar, cm, bo, sc, sa, sx, ss, sl, bs, sb, ln, sr, ap, up, rp, fr, ge, le, lt, nz, mm, ma, sm, fl, al, ci⟩ : Lf) = Ls := rfl
  show AC Try.prog 9 [.ag [.im false (eInt_c a0v_Schemav_Cols), .s (.int .i64 a0v_Version), .im false (eRowS_i a0v_Tables)], .v (.im false (eChange_i a1))] _ _
  refine AC.of_run2 tab_ok Try.func9 (by rfl) (by rfl) (by cbv) ⟨by decide, rfl⟩ fun F hP hA => ?_
  have hT : TabOk F.P tab := hP ▸ tab_ok
  have hM : F.P.follows .mixedOrders = true := hP ▸ mixed
  have hC : ∀ {f a o r}, AC Try.prog f a o r → AC F.P f a o r := fun h => hP ▸ h
  refine Run.seq ?_
  refine Run.region hL hT [] (by cbv) ?_ ?_
  · exact hq0
  refine Run.seq ?_
  refine Run.seq ?_
  obtain ⟨r1, h_r1, h⟩ := bnd h
  obtain ⟨r2, h_r2, h⟩ := bnd h
  refine Run.region hL hT [(1, .call [false] [.ag [.jk, .jk, .jk]] [.v (.s (.bool r1))]), (6, .call [false, false, false] [.v (.jk), .v (.jk), .v (.jk)] [.v (.s (.bool r2))])] (by cbv) ?_ ?_
  · exact (hq trivial (hq (hC (impl_StoreOk_ac h_r1)) (hq (fun _ => hq0) (hq (fun g4 => (hq g4 hq0)) (hq (fun g5 => (hq g5 (hq (by rw [show ln (eChange_i a1) = lenI_Change a1 from ln_eq Change_i _]; exact (hC (impl_within_ac (gd_t h_r2 g5)))) hq0))) (hq (fun g6 => (hq g6 hq0)) (hq (fun _ => hq0) (hq (fun q8 => (hq (bo_m q8) hq0)) (hq (fun _ => hq0) (hq (fun g10 => (hq g10 (hq trivial hq0))) (hq (fun g11 => (hq g11 (hq trivial hq0))) (hq (fun _ => hq0) (hq (fun q13 => (hq (bo_m q13) hq0)) hq0)))))))))))))
  rw [show ln (eChange_i a1) = lenI_Change a1 from ln_eq Change_i _]
  refine Run.cond (by cbv) (hq0) (fun c14 => ?_) (fun c14 => ?_)
  · have h := if_t c14 h
    refine Run.seq ?_
    refine Run.region hL hT [] (by cbv) ?_ ?_
    · exact (hq trivial hq0)
    refine Run.ret ?_
    cases h
    refine ⟨_, _, by cbv, ?_, ?_⟩
    · exact LLe.r
    · exact (ALe.ag rfl (LLe.cons LLe.nilO (LLe.c (LLe.cons LLe.nilO LLe.nil))) (ALe.v LLe.r ALe.nil))
  · have h := if_f c14 h
    refine Run.skip ?_
    refine Run.seq ?_
    obtain ⟨⟨⟨r15v_Schemav_Cols⟩, r15v_Version, r15v_Tables⟩, h_r15, h⟩ := bnd h
    refine Run.region hL hT [(1, .call [false] [.ag [.jk, .jk, .jk]] [.ag [.ow 3 (eInt_c r15v_Schemav_Cols), .s (.int .i64 r15v_Version), .ow 72 (eRowS_o r15v_Tables)]])] (by cbv) ?_ ?_
    · exact (hq trivial (hq (hC (impl_copyStore_ac h_r15)) (hq trivial hq0)))
    refine Run.seq ?_
    refine Run.seq ?_
    refine Run.region hL hT [] (by cbv) ?_ ?_
    · exact hq0
    rw [show ln (eChange_i a1) = lenI_Change a1 from ln_eq Change_i _]
    refine Run.block ?_
    refine Run.loop4 (fun (z26 : List Int) (z27 : Int) (z28 : List (List Row)) (z29 : Int) => ⟨65, 100000, [(2, .pt 1 0 0), (4, .pt 2 0 0), (6, .pt 3 0 0), (28, .t (.im false (eChange_i a1))), (29, .t (.s (.int .i64 (lenI_Change a1)))), (30, .t (.s (.int .i64 z29)))], [(1, .box 29 [.t (.im false (eInt_c a0v_Schemav_Cols)), .t (.s (.int .i64 a0v_Version)), .t (.im false (eRowS_i a0v_Tables))]), (2, .box 29 [.t (.s (.slice none 0 0)), .t (.s (.int .i64 0)), .t (.s (.slice none 0 0))]), (3, .box 29 [.rf 4, .t (.s (.int .i64 z27)), .rf 5]), (4, .row 0 3 1 (eInt_c z26)), (5, .row 0 72 1 (eRowS_o z28))]⟩) (x0 := r15v_Schemav_Cols) (x1 := r15v_Version) (x2 := r15v_Tables) (x3 := 0) h (Weak.of _ [(1, 0), (2, 1), (3, 8194), (4, 8193), (5, 8449)] hA (by cbv) ?_) (fun _ _ _ _ => rfl) ?_
    · repeat (first | exact hq0 | refine hq (by first | exact True.intro | rfl) ?_)
    · intro k z26 z27 z28 z29 h
      rw [impl_Forward.l0] at h
      refine Run.seq ?_
      refine Run.region hL hT [] (by cbv) ?_ ?_
      · exact (hq trivial hq0)
      refine Run.seq ?_
      refine Run.cond (by cbv) (hq0) (fun c30 => ?_) (fun c30 => ?_)
      · have h := if_t c30 h
        refine Run.skip ?_
        refine Run.seq ?_
        refine Run.block ?_
        refine Run.seq ?_
        obtain ⟨⟨x31v_Table, x31v_Had, x31v_Has, ⟨x31v_Oldv_Id, x31v_Oldv_Cells⟩, ⟨x31v_Newv_Id, x31v_Newv_Cells⟩⟩, h_x31, h⟩ := bnd h
        refine Run.region hL hT [(0, .el [.s (.int .i64 x31v_Table), .s (.bool x31v_Had), .s (.bool x31v_Has), .s (.int .i64 x31v_Oldv_Id), .im false (eInt_c x31v_Oldv_Cells), .s (.int .i64 x31v_Newv_Id), .im false (eInt_c x31v_Newv_Cells)])] (by cbv) ?_ ?_
        · exact (hq (get_le h_x31) (hq (get_lt (f := Change_i) h_x31) (hq (get_ge (f := Change_i) h_x31) (hq trivial hq0))))
        refine Run.seq ?_
        refine Run.seq ?_
        obtain ⟨r32, h_r32, h⟩ := bnd h
        refine Run.region hL hT [(3, .call [false, false] [.ag [.jk], .ag [.jk, .jk, .jk, .jk, .jk, .jk, .jk]] [.v (.s (.bool r32))])] (by cbv) ?_ ?_
        · exact (hq trivial (hq trivial (hq (hC (impl_changeFits_ac h_r32)) hq0)))
        refine Run.cond (by cbv) (hq0) (fun c33 => ?_) (fun c33 => ?_)
        · have h := if_t c33 h
          refine Run.seq ?_
          refine Run.region hL hT [] (by cbv) ?_ ?_
          · exact (hq trivial hq0)
          refine Run.ret ?_
          cases h
          refine ⟨_, _, by cbv, ?_, ?_⟩
          · exact LLe.r
          · exact (ALe.ag rfl (LLe.cons LLe.nilO (LLe.c (LLe.cons LLe.nilO LLe.nil))) (ALe.v LLe.r ALe.nil))
        · have h := if_f c33 h
          refine Run.skip ?_
          refine Run.seq ?_
          obtain ⟨⟨⟨⟨r34v_1v_Schemav_Cols⟩, r34v_1v_Version, r34v_1v_Tables⟩, r34v_2⟩, h_r34, h⟩ := bnd h
          refine Run.region hL hT [(11, .call [false, false, false, false, false, false] [.ag [.jk, .jk, .jk], .v (.jk), .v (.jk), .ag [.jk, .jk], .v (.jk), .ag [.jk, .jk]] [.ag [.ow 3 (eInt_c r34v_1v_Schemav_Cols), .s (.int .i64 r34v_1v_Version), .ow 72 (eRowS_o r34v_1v_Tables)], .v (.s (.bool r34v_2))])] (by cbv) ?_ ?_
          · exact (hq trivial (hq trivial (hq trivial (hq trivial (hq trivial (hq trivial (hq (hC (AC.args (impl_swapped_ac h_r34) (ALe.ag rfl (LLe.cons (LLe.im (RLe.eq (fr_row Int_c_z _))) (LLe.c (LLe.cons (LLe.im (RLe.eq (fr_row RowS_o_z _))) LLe.nil))) (ALe.v LLe.r (ALe.v LLe.r (ALe.ag rfl LLe.r (ALe.v LLe.r (ALe.ag rfl LLe.r ALe.nil)))))))) (hq trivial hq0))))))))
          refine Run.seq ?_
          refine Run.seq ?_
          refine Run.region hL hT [] (by cbv) ?_ ?_
          · exact hq0
          refine Run.cond (by cbv) (hq0) (fun c35 => ?_) (fun c35 => ?_)
          · have h := if_t c35 h
            refine Run.seq ?_
            refine Run.region hL hT [] (by cbv) ?_ ?_
            · exact (hq trivial hq0)
            refine Run.ret ?_
            cases h
            refine ⟨_, _, by cbv, ?_, ?_⟩
            · exact LLe.r
            · exact (ALe.ag rfl (LLe.cons LLe.nilO (LLe.c (LLe.cons LLe.nilO LLe.nil))) (ALe.v LLe.r ALe.nil))
          · have h := if_f c35 h
            refine Run.skip ?_
            refine Run.region hL hT [] (by cbv) ?_ ?_
            · exact (hq trivial (hq trivial hq0))
            refine Run.region hL hT [] (by cbv) ?_ ?_
            · exact (hq trivial hq0)
            refine ⟨r34v_1v_Schemav_Cols, r34v_1v_Version, r34v_1v_Tables, (ar .add .i64 z29 1), h, Weak.of _ [(1, 1), (2, 2), (3, 3), (4, 112299), (5, 112555)] hA (by cbv) ?_⟩
            repeat (first | exact hq0 | refine hq (by first | exact True.intro | rfl) ?_)
      · have h := if_f c30 h
        refine Run.exit ?_
        refine Run.seq ?_
        refine Run.region hL hT [] (by cbv) ?_ ?_
        · exact (hq trivial (hq trivial (hq trivial hq0)))
        refine Run.seq ?_
        refine Run.region hL hT [] (by cbv) ?_ ?_
        · exact (hq trivial (hq trivial hq0))
        refine Run.ret ?_
        cases h
        refine ⟨_, _, by cbv, ?_, ?_⟩
        · exact LLe.r
        · exact (ALe.ag rfl LLe.r (ALe.v LLe.r ALe.nil))

set_option maxRecDepth 8000 in
theorem laws_FnBack_ac {a0 : List Int} {r : Bool} (h : laws_FnBack.f a0 = some r) : AC Try.prog 4 [.v (.im true (rowsOf u8_c a0))] [.v (.jk)] [.v (.s (.bool r))] := by
  unfold laws_FnBack.f at h
  let ar := Ls.ar; let cm := Ls.cm; let bo := Ls.bo; let sc := Ls.sc; let sa := Ls.sa; let sx := Ls.sx; let ss := Ls.ss; let sl := Ls.sl; let bs := Ls.bs; let sb := Ls.sb; let ln := Ls.ln; let sr := Ls.sr; let ap := Ls.ap; let up := Ls.up; let rp := Ls.rp; let fr := Ls.fr; let ge := Ls.ge; let le := Ls.le; let lt := Ls.lt; let nz := Ls.nz; let mm := Ls.mm; let ma := Ls.ma; let sm := Ls.sm; let fl := Ls.fl; let al := Ls.al; let ci := Ls.ci
  let eChange_i := rowsOf Change_i
  let eChange_k := rowsOf Change_k
  let eInt_c := rowsOf Int_c
  let eRowS_i := rowsOf RowS_i
  let eRowS_o := rowsOf RowS_o
  let eu8_c := rowsOf u8_c
  let lenI_Int := @lenI Int
  let lenI_RowS := @lenI (List Row)
  have hL : (⟨ar, cm, bo, sc, sa, sx, ss, sl, bs, sb, ln, sr, ap, up, rp, fr, ge, le, lt, nz, mm, ma, sm, fl, al, ci⟩ : Lf) = Ls := rfl
  show AC Try.prog 4 [.v (.im true (eu8_c a0))] _ _
  refine AC.of_run2 tab_ok Try.func4 (by rfl) (by rfl) (by cbv) ⟨by decide, rfl⟩ fun F hP hA => ?_
  have hT : TabOk F.P tab := hP ▸ tab_ok
  have hM : F.P.follows .mixedOrders = true := hP ▸ mixed
  have hC : ∀ {f a o r}, AC Try.prog f a o r → AC F.P f a o r := fun h => hP ▸ h
  refine Run.seq ?_
  refine Run.region hL hT [] (by cbv) ?_ ?_
  · exact hq0
  refine Run.seq ?_
  refine Run.seq ?_
  obtain ⟨r1, h_r1, h⟩ := bnd h
  refine Run.region hL hT [(1, .call [false] [.v (.jk)] [.v (.s (.bool r1))])] (by cbv) ?_ ?_
  · exact (hq (hC (laws_big_ac h_r1)) hq0)
  refine Run.cond (by cbv) (hq0) (fun c2 => ?_) (fun c2 => ?_)
  · have h := if_t c2 h
    refine Run.seq ?_
    refine Run.region hL hT [] (by cbv) ?_ ?_
    · exact hq0
    refine Run.ret ?_
    cases h
    refine ⟨_, _, by cbv, ?_, ?_⟩
    · exact LLe.r
    · exact (ALe.v LLe.r ALe.nil)
  · have h := if_f c2 h
    refine Run.skip ?_
    refine Run.seq ?_
    obtain ⟨⟨⟨⟨r3v_1v_Schemav_Cols⟩, r3v_1v_Version, r3v_1v_Tables⟩, ⟨r3v_2v_Table, r3v_2v_Had, r3v_2v_Has, ⟨r3v_2v_Oldv_Id, r3v_2v_Oldv_Cells⟩, ⟨r3v_2v_Newv_Id, r3v_2v_Newv_Cells⟩⟩⟩, h_r3, h⟩ := bnd h
    refine Run.region hL hT [(1, .call [true] [.v (.jk)] [.ag [.im true (eInt_c r3v_1v_Schemav_Cols), .s (.int .i64 r3v_1v_Version), .im true (eRowS_i r3v_1v_Tables)], .ag [.s (.int .i64 r3v_2v_Table), .s (.bool r3v_2v_Had), .s (.bool r3v_2v_Has), .s (.int .i64 r3v_2v_Oldv_Id), .im true (eInt_c r3v_2v_Oldv_Cells), .s (.int .i64 r3v_2v_Newv_Id), .im true (eInt_c r3v_2v_Newv_Cells)]])] (by cbv) ?_ ?_
    · exact (hq (hC (spec_DrawBack_ac h_r3)) (hq trivial (hq trivial hq0)))
    refine Run.seq ?_
    obtain ⟨⟨⟨⟨r4v_1v_Schemav_Cols⟩, r4v_1v_Version, r4v_1v_Tables⟩, r4v_2⟩, h_r4, h⟩ := bnd h
    refine Run.region hL hT [(2, .call [false, false] [.ag [.jk, .jk, .jk], .ag [.jk, .jk, .jk, .jk, .jk, .jk, .jk]] [.ag [.ow 3 (eInt_c r4v_1v_Schemav_Cols), .s (.int .i64 r4v_1v_Version), .ow 72 (eRowS_o r4v_1v_Tables)], .v (.s (.bool r4v_2))])] (by cbv) ?_ ?_
    · exact (hq trivial (hq trivial (hq (hC (impl_Back_ac h_r4)) (hq trivial hq0))))
    refine Run.seq ?_
    obtain ⟨⟨⟨⟨r5v_1v_Schemav_Cols⟩, r5v_1v_Version, r5v_1v_Tables⟩, r5v_2⟩, h_r5, h⟩ := bnd h
    refine Run.region hL hT [(2, .call [false, false] [.ag [.jk, .jk, .jk], .ag [.jk, .jk, .jk, .jk, .jk, .jk, .jk]] [.ag [.ow 3 (eInt_c r5v_1v_Schemav_Cols), .s (.int .i64 r5v_1v_Version), .ow 72 (eRowS_o r5v_1v_Tables)], .v (.s (.bool r5v_2))])] (by cbv) ?_ ?_
    · exact (hq trivial (hq trivial (hq (hC (spec_Back_ac h_r5)) (hq trivial hq0))))
    refine Run.seq ?_
    refine Run.seq ?_
    refine Run.region hL hT [] (by cbv) ?_ ?_
    · exact hq0
    refine Run.cond (by cbv) (hq0) (fun c6 => ?_) (fun c6 => ?_)
    · have h := if_t c6 h
      refine Run.seq ?_
      refine Run.region hL hT [] (by cbv) ?_ ?_
      · exact hq0
      refine Run.ret ?_
      cases h
      refine ⟨_, _, by cbv, ?_, ?_⟩
      · exact LLe.r
      · exact (ALe.v LLe.r ALe.nil)
    · have h := if_f c6 h
      refine Run.skip ?_
      refine Run.seq ?_
      obtain ⟨⟨r7v_Cols⟩, h_r7, h⟩ := bnd h
      refine Run.region hL hT [(1, .call [true] [.v (.jk)] [.ag [.im true (eInt_c r7v_Cols)]])] (by cbv) ?_ ?_
      · exact (hq (hC (spec_DrawStoreNew_ac h_r7)) (hq trivial hq0))
      refine Run.seq ?_
      obtain ⟨⟨⟨⟨r8v_1v_Schemav_Cols⟩, r8v_1v_Version, r8v_1v_Tables⟩, r8v_2⟩, h_r8, h⟩ := bnd h
      refine Run.region hL hT [(1, .call [false] [.ag [.jk]] [.ag [.ow 3 (eInt_c r8v_1v_Schemav_Cols), .s (.int .i64 r8v_1v_Version), .ow 72 (eRowS_o r8v_1v_Tables)], .v (.s (.bool r8v_2))])] (by cbv) ?_ ?_
      · exact (hq trivial (hq (hC (impl_StoreNew_ac h_r8)) (hq trivial hq0)))
      refine Run.seq ?_
      refine Run.seq ?_
      obtain ⟨r9, h_r9, h⟩ := bnd h
      obtain ⟨r10, h_r10, h⟩ := bnd h
      refine Run.region hL hT [(2, .call [false] [.ag [.jk]] [.v (.s (.bool r9))]), (8, .call [false] [.ag [.jk, .jk, .jk]] [.v (.s (.bool r10))])] (by cbv) ?_ ?_
      · exact (hq trivial (hq (hC (spec_SchemaOk_ac h_r9)) (hq (fun _ => hq0) (hq (fun g12 => (hq g12 hq0)) (hq (fun g13 => (hq trivial hq0)) (hq (fun g14 => (hq g14 (hq (hC (AC.args (impl_StoreOk_ac (gd_t h_r10 g14)) (ALe.ag rfl (LLe.cons (LLe.im (RLe.eq (fr_row Int_c_z _))) (LLe.c (LLe.cons (LLe.im (RLe.eq (fr_row RowS_o_z _))) LLe.nil))) ALe.nil))) hq0))) (hq (fun g15 => (hq g15 hq0)) (hq (fun g16 => (hq g16 (hq (fun q17 => (hq (bo_a g16 q17) hq0)) (hq (fun _ => hq0) hq0)))) (hq (fun _ => hq0) (hq (fun q20 => (hq (bo_m q20) hq0)) hq0))))))))))
      refine Run.cond (by cbv) (hq0) (fun c21 => ?_) (fun c21 => ?_)
      · have h := if_t c21 h
        refine Run.seq ?_
        refine Run.region hL hT [] (by cbv) ?_ ?_
        · exact hq0
        refine Run.ret ?_
        cases h
        refine ⟨_, _, by cbv, ?_, ?_⟩
        · exact LLe.r
        · exact (ALe.v LLe.r ALe.nil)
      · have h := if_f c21 h
        refine Run.skip ?_
        refine Run.seq ?_
        refine Run.seq ?_
        refine Run.region hL hT [] (by cbv) ?_ ?_
        · exact hq0
        refine Run.cond (by cbv) (hq0) (fun c22 => ?_) (fun c22 => ?_)
        · have h := if_t c22 h
          refine Run.seq ?_
          obtain ⟨r23, h_r23, h⟩ := bnd h
          refine Run.region hL hT [(7, .call [false, false] [.ag [.jk, .jk, .jk], .ag [.jk, .jk, .jk]] [.v (.s (.bool r23))])] (by cbv) ?_ ?_
          · exact (hq trivial (hq trivial (hq (fun g24 => (by have g24C := g24; rw [show ln (eRowS_o r4v_1v_Tables) = lenI_RowS r4v_1v_Tables from ln_eq RowS_o _] at g24C; exact (hq trivial hq0))) (hq (fun g25 => (by have g25C := g25; rw [show ln (eRowS_o r4v_1v_Tables) = lenI_RowS r4v_1v_Tables from ln_eq RowS_o _] at g25C; exact (hq trivial hq0))) (hq (fun g26 => (by have g26C := g26; rw [show ln (eRowS_o r4v_1v_Tables) = lenI_RowS r4v_1v_Tables from ln_eq RowS_o _] at g26C; exact (hq g26 (hq g26 (hq (hC (AC.args (laws_sameStore_ac (gd_t h_r23 g26C)) (ALe.ag rfl LLe.r (ALe.ag rfl (LLe.cons (LLe.im (RLe.eq (fr_row Int_c_z _))) (LLe.c (LLe.cons (LLe.im (RLe.eq (fr_row RowS_o_z _))) LLe.nil))) ALe.nil)))) hq0))))) (hq (fun _ => hq0) (hq (fun q28 => (by have q28C := q28; rw [show ln (eRowS_o r4v_1v_Tables) = lenI_RowS r4v_1v_Tables from ln_eq RowS_o _] at q28C; exact (hq (bo_m q28) hq0))) hq0)))))))
          rw [show ln (eRowS_o r4v_1v_Tables) = lenI_RowS r4v_1v_Tables from ln_eq RowS_o _]
          refine Run.ret ?_
          cases h
          refine ⟨_, _, by cbv, ?_, ?_⟩
          · exact LLe.r
          · exact (ALe.v LLe.r ALe.nil)
        · have h := if_f c22 h
          refine Run.skip ?_
          refine Run.seq ?_
          obtain ⟨l29, h_l29, h⟩ := bnd h
          obtain ⟨⟨⟨⟨r30v_1v_Schemav_Cols⟩, r30v_1v_Version, r30v_1v_Tables⟩, r30v_2⟩, h_r30, h⟩ := bnd h
          refine Run.region hL hT [(3, .call [false, false] [.ag [.jk, .jk, .jk], .v (.jk)] [.ag [.ow 3 (eInt_c r30v_1v_Schemav_Cols), .s (.int .i64 r30v_1v_Version), .ow 72 (eRowS_o r30v_1v_Tables)], .v (.s (.bool r30v_2))])] (by cbv) ?_ ?_
          · exact (hq trivial (hq trivial (hq (hC (AC.args (impl_Forward_ac h_r30) (ALe.ag rfl (LLe.cons (LLe.im (RLe.eq (fr_row Int_c_z _))) (LLe.c (LLe.cons (LLe.im (RLe.eq (fr_row RowS_o_z _))) LLe.nil))) (ALe.v (fr_litO (f := Change_k) h_l29 rfl (fr_row Change_k_z _)) ALe.nil)))) (hq trivial hq0))))
          refine Run.row (rows := [[.s (.int .i64 r3v_2v_Table), .s (.bool r3v_2v_Had), .s (.bool r3v_2v_Has), .s (.int .i64 r3v_2v_Oldv_Id), .im true (eInt_c r3v_2v_Oldv_Cells), .s (.int .i64 r3v_2v_Newv_Id), .im true (eInt_c r3v_2v_Newv_Cells)]]) 40962 (eChange_k l29) (by cbv) (some_le (f := Change_k) h_l29 (RLe.cons rfl LLe.r RLe.nil)) ?_
          refine Run.seq ?_
          refine Run.seq ?_
          refine Run.region hL hT [] (by cbv) ?_ ?_
          · exact hq0
          refine Run.cond (by cbv) (hq0) (fun c31 => ?_) (fun c31 => ?_)
          · have h := if_t c31 h
            refine Run.seq ?_
            refine Run.region hL hT [] (by cbv) ?_ ?_
            · exact (hq trivial (hq (fun _ => hq0) (hq (fun g33 => (hq g33 hq0)) (hq (fun g34 => (hq g34 (hq trivial hq0))) (hq (fun g35 => (hq g35 (hq trivial hq0))) (hq (fun q36 => (hq q36 hq0)) (hq (fun _ => hq0) (hq (fun _ => hq0) (hq (fun g39 => (hq g39 (hq trivial hq0))) (hq (fun g40 => (hq g40 hq0)) (hq (fun g41 => (hq g41 hq0)) (hq (fun _ => hq0) (hq (fun g43 => (hq g43 hq0)) (hq (fun g44 => (hq g44 (hq trivial hq0))) (hq (fun g45 => (hq g45 (hq trivial hq0))) (hq (fun g46 => (hq g46 (hq (fun q47 => (hq (bo_a g46 q47) hq0)) (hq (fun _ => hq0) hq0)))) (hq (fun _ => hq0) (hq (fun q50 => (hq (bo_m q50) hq0)) (hq (fun _ => hq0) (hq (fun g52 => (hq g52 (hq trivial hq0))) (hq (fun g53 => (hq g53 hq0)) (hq (fun g54 => (hq g54 hq0)) (hq (fun _ => hq0) (hq (fun g56 => (hq g56 (hq trivial hq0))) (hq (fun g57 => (hq g57 hq0)) (hq (fun g58 => (hq g58 (hq (fun q59 => (hq (bo_a g58 q59) hq0)) (hq (fun _ => hq0) hq0)))) (hq (fun _ => hq0) (hq (fun q62 => (hq (bo_m q62) hq0)) (hq (fun _ => hq0) (hq (fun g64 => (hq g64 (hq trivial hq0))) (hq (fun g65 => (hq g65 (hq trivial hq0))) (hq (fun _ => hq0) (hq (fun q67 => (hq (bo_m q67) hq0)) (hq (fun _ => hq0) (hq (fun g69 => (hq g69 hq0)) (hq (fun g70 => (hq g70 (hq trivial hq0))) (hq (fun g71 => (hq g71 hq0)) (hq (fun _ => hq0) (hq (fun g73 => (hq g73 hq0)) (hq (fun g74 => (hq g74 (hq trivial hq0))) (hq (fun g75 => (hq g75 hq0)) (hq (fun g76 => (hq g76 (hq g76 (hq trivial hq0)))) (hq (fun g77 => (hq g77 (hq trivial hq0))) (hq (fun _ => hq0) (hq (fun q79 => (hq (bo_m q79) hq0)) hq0)))))))))))))))))))))))))))))))))))))))))))))
            rw [show ln (eInt_c r3v_2v_Newv_Cells) = lenI_Int r3v_2v_Newv_Cells from ln_eq Int_c _]
            rw [show ln (eInt_c r3v_2v_Oldv_Cells) = lenI_Int r3v_2v_Oldv_Cells from ln_eq Int_c _]
            refine Run.ret ?_
            cases h
            refine ⟨_, _, by cbv, ?_, ?_⟩
            · exact LLe.r
            · exact (ALe.v LLe.r ALe.nil)
          · have h := if_f c31 h
            refine Run.skip ?_
            refine Run.seq ?_
            refine Run.region hL hT [] (by cbv) ?_ ?_
            · exact (hq trivial (hq trivial hq0))
            refine Run.seq ?_
            obtain ⟨r80, h_r80, h⟩ := bnd h
            refine Run.region hL hT [(2, .call [false, false] [.ag [.jk, .jk, .jk], .ag [.jk, .jk, .jk]] [.v (.s (.bool r80))])] (by cbv) ?_ ?_
            · exact (hq trivial (hq trivial (hq (hC (AC.args (laws_sameStore_ac h_r80) (ALe.ag rfl (LLe.cons (LLe.im (RLe.eq (fr_row Int_c_z _))) (LLe.c (LLe.cons (LLe.im (RLe.eq (fr_row RowS_o_z _))) LLe.nil))) (ALe.ag rfl LLe.r ALe.nil)))) hq0)))
            refine Run.ret ?_
            cases h
            refine ⟨_, _, by cbv, ?_, ?_⟩
            · exact LLe.r
            · exact (ALe.v LLe.r ALe.nil)


end Go.Proofs.Ytbjbfcfekmdfmaa.L
