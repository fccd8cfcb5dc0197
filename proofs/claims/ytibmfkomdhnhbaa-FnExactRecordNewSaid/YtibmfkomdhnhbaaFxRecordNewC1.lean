/- The contracts of the program's functions. -/
import Derived.Test.YtibmfkomdhnhbaaProg
import Derived.Test.YtibmfkomdhnhbaaFxRecordNewC0
import Derived.KernelRfl
namespace Go.Proofs.Ytibmfkomdhnhbaa.L
open Go Go.Proofs
set_option linter.unusedVariables false
set_option linter.unusedSimpArgs false
set_option maxRecDepth 8000 in
theorem laws_FnExactRecordNew_ac {a0v_Schemav_Cols : List Int} {a0v_Version : Int} {a0v_Tables : List (List Row)} {r : Bool} (h : laws_FnExactRecordNew.f (Store.mk (Schema.mk a0v_Schemav_Cols) a0v_Version a0v_Tables) = some r) : AC Try.prog 5 [.ag [.im false (rowsOf Int_c a0v_Schemav_Cols), .s (.int .i64 a0v_Version), .im false (rowsOf RowS_i a0v_Tables)]] [.ag [.jk, .jk, .jk]] [.v (.s (.bool r))] := by
  unfold laws_FnExactRecordNew.f at h
  let ar := Ls.ar; let cm := Ls.cm; let bo := Ls.bo; let sc := Ls.sc; let sa := Ls.sa; let sx := Ls.sx; let ss := Ls.ss; let sl := Ls.sl; let bs := Ls.bs; let sb := Ls.sb; let ln := Ls.ln; let sr := Ls.sr; let ap := Ls.ap; let up := Ls.up; let rp := Ls.rp; let fr := Ls.fr; let ge := Ls.ge; let le := Ls.le; let lt := Ls.lt; let nz := Ls.nz; let mm := Ls.mm; let ma := Ls.ma; let sm := Ls.sm; let fl := Ls.fl; let al := Ls.al
  let eChangeS_o := rowsOf ChangeS_o
  let eInt_c := rowsOf Int_c
  let eRowS_i := rowsOf RowS_i
  let eRowS_o := rowsOf RowS_o
  have hL : (⟨ar, cm, bo, sc, sa, sx, ss, sl, bs, sb, ln, sr, ap, up, rp, fr, ge, le, lt, nz, mm, ma, sm, fl, al⟩ : Lf) = Ls := rfl
  show AC Try.prog 5 [.ag [.im false (eInt_c a0v_Schemav_Cols), .s (.int .i64 a0v_Version), .im false (eRowS_i a0v_Tables)]] _ _
  refine AC.of_run2 tab_ok Try.func5 (by rfl) (by rfl) (by cbv) ⟨by decide, rfl⟩ fun F hP hA => ?_
  have hT : TabOk F.P tab := hP ▸ tab_ok
  have hM : F.P.follows .mixedOrders = true := hP ▸ mixed
  have hC : ∀ {f a o r}, AC Try.prog f a o r → AC F.P f a o r := fun h => hP ▸ h
  refine Run.seq ?_
  refine Run.region hL hT [] (by cbv) ?_ ?_
  · exact hq0
  refine Run.seq ?_
  refine Run.region hL hT [] (by cbv) ?_ ?_
  · exact hq0
  refine Run.seq ?_
  obtain ⟨r1, h_r1, h⟩ := bnd h
  refine Run.region hL hT [(2, .call [false, false] [.ag [.jk, .jk, .jk], .v (.jk)] [.v (.s (.int .i64 r1))])] (by cbv) ?_ ?_
  · exact (hq trivial (hq (hC (laws_szStore_ac h_r1)) hq0))
  refine Run.seq ?_
  refine Run.seq ?_
  refine Run.region hL hT [] (by cbv) ?_ ?_
  · exact (hq trivial hq0)
  refine Run.cond (by cbv) (hq0) (fun c2 => ?_) (fun c2 => ?_)
  · have h := if_t c2 h
    refine Run.seq ?_
    refine Run.region hL hT [] (by cbv) ?_ ?_
    · exact hq0
    refine Run.ret ?_
    cases h
    refine ⟨_, _, by cbv, ?_, ?_⟩
    · exact LLe.r
    · exact (ALe.v LLe.r ALe.nil)
  · have h := if_f c2 h
    refine Run.skip ?_
    refine Run.seq ?_
    obtain ⟨⟨⟨r3v_Schemav_Cols⟩, r3v_Version, r3v_Tables⟩, h_r3, h⟩ := bnd h
    obtain ⟨⟨⟨⟨r4v_Firstv_Schemav_Cols⟩, r4v_Firstv_Version, r4v_Firstv_Tables⟩, r4v_Steps⟩, h_r4, h⟩ := bnd h
    refine Run.region hL hT [(1, .call [false] [.ag [.jk, .jk, .jk]] [.ag [.ow 3 (eInt_c r3v_Schemav_Cols), .s (.int .i64 r3v_Version), .ow 54 (eRowS_o r3v_Tables)]]), (2, .call [false] [.ag [.jk, .jk, .jk]] [.ag [.ow 3 (eInt_c r4v_Firstv_Schemav_Cols), .s (.int .i64 r4v_Firstv_Version), .ow 54 (eRowS_o r4v_Firstv_Tables), .ow 77 (eChangeS_o r4v_Steps)]])] (by cbv) ?_ ?_
    · exact (hq trivial (hq (hC (laws_toStore_ac h_r3)) (hq (hC (AC.args (spec_RecordNew_ac h_r4) (ALe.ag rfl (LLe.cons (LLe.im (RLe.eq (fr_row Int_c_z _))) (LLe.c (LLe.cons (LLe.im (RLe.eq (fr_row RowS_o_z _))) LLe.nil))) ALe.nil))) (hq trivial hq0))))
    refine Run.seq ?_
    obtain ⟨⟨⟨r5v_Schemav_Cols⟩, r5v_Version, r5v_Tables⟩, h_r5, h⟩ := bnd h
    refine Run.region hL hT [(1, .call [false] [.ag [.jk, .jk, .jk]] [.ag [.ow 3 (eInt_c r5v_Schemav_Cols), .s (.int .i64 r5v_Version), .ow 54 (eRowS_o r5v_Tables)]])] (by cbv) ?_ ?_
    · exact (hq trivial (hq (hC (laws_toStore_ac h_r5)) (hq trivial hq0)))
    refine Run.seq ?_
    obtain ⟨⟨⟨⟨r6v_Firstv_Schemav_Cols⟩, r6v_Firstv_Version, r6v_Firstv_Tables⟩, r6v_Steps⟩, h_r6, h⟩ := bnd h
    refine Run.region hL hT [(1, .call [false] [.ag [.jk, .jk, .jk]] [.ag [.ow 3 (eInt_c r6v_Firstv_Schemav_Cols), .s (.int .i64 r6v_Firstv_Version), .ow 54 (eRowS_o r6v_Firstv_Tables), .ow 77 (eChangeS_o r6v_Steps)]])] (by cbv) ?_ ?_
    · exact (hq trivial (hq (hC (AC.args (impl_RecordNew_ac h_r6) (ALe.ag rfl (LLe.cons (LLe.im (RLe.eq (fr_row Int_c_z _))) (LLe.c (LLe.cons (LLe.im (RLe.eq (fr_row RowS_o_z _))) LLe.nil))) ALe.nil))) (hq trivial hq0)))
    refine Run.seq ?_
    refine Run.seq ?_
    obtain ⟨r7, h_r7, h⟩ := bnd h
    refine Run.region hL hT [(2, .call [false, false] [.ag [.jk, .jk, .jk, .jk], .ag [.jk, .jk, .jk, .jk]] [.v (.s (.bool r7))])] (by cbv) ?_ ?_
    · exact (hq trivial (hq trivial (hq (hC (AC.args (laws_eqRecord_ac h_r7) (ALe.ag rfl (LLe.cons (LLe.im (RLe.eq (fr_row Int_c_z _))) (LLe.c (LLe.cons (LLe.im (RLe.eq (fr_row RowS_o_z _))) (LLe.cons (LLe.im (RLe.eq (fr_row ChangeS_o_z _))) LLe.nil)))) (ALe.ag rfl (LLe.cons (LLe.im (RLe.eq (fr_row Int_c_z _))) (LLe.c (LLe.cons (LLe.im (RLe.eq (fr_row RowS_o_z _))) (LLe.cons (LLe.im (RLe.eq (fr_row ChangeS_o_z _))) LLe.nil)))) ALe.nil)))) hq0)))
    refine Run.cond (by cbv) (hq0) (fun c8 => ?_) (fun c8 => ?_)
    · have h := if_t c8 h
      refine Run.seq ?_
      refine Run.region hL hT [] (by cbv) ?_ ?_
      · exact hq0
      refine Run.ret ?_
      cases h
      refine ⟨_, _, by cbv, ?_, ?_⟩
      · exact LLe.r
      · exact (ALe.v LLe.r ALe.nil)
    · have h := if_f c8 h
      refine Run.skip ?_
      refine Run.seq ?_
      refine Run.seq ?_
      obtain ⟨⟨⟨r9v_Schemav_Cols⟩, r9v_Version, r9v_Tables⟩, h_r9, h⟩ := bnd h
      obtain ⟨r10, h_r10, h⟩ := bnd h
      refine Run.draw hL hT hM [(2, .call [false] [.ag [.jk, .jk, .jk]] [.ag [.ow 3 (eInt_c r9v_Schemav_Cols), .s (.int .i64 r9v_Version), .ow 54 (eRowS_o r9v_Tables)]]), (3, .call [false, false] [.ag [.jk, .jk, .jk], .ag [.jk, .jk, .jk]] [.v (.s (.bool r10))])] (by cbv) (by cbv) (by cbv) (by cbv) (by cbv) ?_ ?_
      · exact (hq trivial (hq trivial (hq (hC (laws_toStore_ac h_r9)) (hq (hC (AC.args (laws_eqStore_ac h_r10) (ALe.ag rfl (LLe.cons (LLe.im (RLe.eq (fr_row Int_c_z _))) (LLe.c (LLe.cons (LLe.im (RLe.eq (fr_row RowS_o_z _))) LLe.nil))) (ALe.ag rfl (LLe.cons (LLe.im (RLe.eq (fr_row Int_c_z _))) (LLe.c (LLe.cons (LLe.im (RLe.eq (fr_row RowS_o_z _))) LLe.nil))) ALe.nil)))) hq0))))
      refine Run.cond (by cbv) (hq0) (fun c11 => ?_) (fun c11 => ?_)
      · have h := if_t c11 h
        refine Run.seq ?_
        refine Run.region hL hT [] (by cbv) ?_ ?_
        · exact hq0
        refine Run.ret ?_
        cases h
        refine ⟨_, _, by cbv, ?_, ?_⟩
        · exact LLe.r
        · exact (ALe.v LLe.r ALe.nil)
      · have h := if_f c11 h
        refine Run.skip ?_
        refine Run.seq ?_
        refine Run.region hL hT [] (by cbv) ?_ ?_
        · exact hq0
        refine Run.seq ?_
        obtain ⟨⟨⟨⟨r12v_1v_Schemav_Cols⟩, r12v_1v_Version, r12v_1v_Tables⟩, r12v_2⟩, h_r12, h⟩ := bnd h
        refine Run.region hL hT [(2, .call [true, false] [.ag [.ow 3 (eInt_c r12v_1v_Schemav_Cols), .jk, .ow 54 (eRowS_o r12v_1v_Tables)], .v (.jk)] [.v (.s (.int .i64 r12v_2))])] (by cbv) ?_ ?_
        · exact (hq trivial (hq (hC (laws_markStore_ac h_r12)) hq0))
        refine Run.seq ?_
        refine Run.seq ?_
        obtain ⟨r13, h_r13, h⟩ := bnd h
        refine Run.region hL hT [(5, .call [false, false] [.ag [.jk, .jk, .jk, .jk], .ag [.jk, .jk, .jk, .jk]] [.v (.s (.bool r13))])] (by cbv) ?_ ?_
        · exact (hq trivial (hq (fun g14 => (hq trivial hq0)) (hq (fun g15 => (hq trivial hq0)) (hq (fun g16 => (hq g16 (hq g16 (hq (hC (AC.args (laws_eqRecord_ac (gd_t h_r13 g16)) (ALe.ag rfl (LLe.cons (LLe.im (RLe.eq (fr_row Int_c_z _))) (LLe.c (LLe.cons (LLe.im (RLe.eq (fr_row RowS_o_z _))) (LLe.cons (LLe.im (RLe.eq (fr_row ChangeS_o_z _))) LLe.nil)))) (ALe.ag rfl (LLe.cons (LLe.im (RLe.eq (fr_row Int_c_z _))) (LLe.c (LLe.cons (LLe.im (RLe.eq (fr_row RowS_o_z _))) (LLe.cons (LLe.im (RLe.eq (fr_row ChangeS_o_z _))) LLe.nil)))) ALe.nil)))) hq0)))) (hq (fun g17 => (hq g17 hq0)) (hq (fun _ => hq0) (hq (fun q19 => (hq (bo_m q19) hq0)) hq0)))))))
        refine Run.cond (by cbv) (hq0) (fun c20 => ?_) (fun c20 => ?_)
        · have h := if_t c20 h
          refine Run.seq ?_
          refine Run.region hL hT [] (by cbv) ?_ ?_
          · exact hq0
          refine Run.ret ?_
          cases h
          refine ⟨_, _, by cbv, ?_, ?_⟩
          · exact LLe.r
          · exact (ALe.v LLe.r ALe.nil)
        · have h := if_f c20 h
          refine Run.skip ?_
          refine Run.seq ?_
          refine Run.region hL hT [] (by cbv) ?_ ?_
          · exact hq0
          refine Run.seq ?_
          obtain ⟨⟨⟨⟨⟨r21v_1v_Firstv_Schemav_Cols⟩, r21v_1v_Firstv_Version, r21v_1v_Firstv_Tables⟩, r21v_1v_Steps⟩, r21v_2⟩, h_r21, h⟩ := bnd h
          refine Run.region hL hT [(2, .call [true, false] [.ag [.ow 3 (eInt_c r21v_1v_Firstv_Schemav_Cols), .jk, .ow 54 (eRowS_o r21v_1v_Firstv_Tables), .ow 77 (eChangeS_o r21v_1v_Steps)], .v (.jk)] [.v (.s (.int .i64 r21v_2))])] (by cbv) ?_ ?_
          · exact (hq trivial (hq (hC (laws_markRecord_ac h_r21)) hq0))
          refine Run.seq ?_
          refine Run.region hL hT [] (by cbv) ?_ ?_
          · exact hq0
          refine Run.seq ?_
          obtain ⟨r22, h_r22, h⟩ := bnd h
          refine Run.region hL hT [(2, .call [false, false] [.ag [.jk, .jk, .jk, .jk], .v (.jk)] [.v (.s (.int .i64 r22))])] (by cbv) ?_ ?_
          · exact (hq trivial (hq (hC (AC.args (laws_heldRecord_ac h_r22) (ALe.ag rfl (LLe.cons (LLe.im (RLe.eq (fr_row Int_c_z _))) (LLe.c (LLe.cons (LLe.im (RLe.eq (fr_row RowS_o_z _))) (LLe.cons (LLe.im (RLe.eq (fr_row ChangeS_o_z _))) LLe.nil)))) (ALe.v LLe.r ALe.nil)))) hq0))
          refine Run.seq ?_
          refine Run.seq ?_
          refine Run.region hL hT [] (by cbv) ?_ ?_
          · exact (hq trivial hq0)
          refine Run.cond (by cbv) (hq0) (fun c23 => ?_) (fun c23 => ?_)
          · have h := if_t c23 h
            refine Run.seq ?_
            refine Run.region hL hT [] (by cbv) ?_ ?_
            · exact hq0
            refine Run.ret ?_
            cases h
            refine ⟨_, _, by cbv, ?_, ?_⟩
            · exact LLe.r
            · exact (ALe.v LLe.r ALe.nil)
          · have h := if_f c23 h
            refine Run.skip ?_
            refine Run.seq ?_
            refine Run.seq ?_
            refine Run.region hL hT [] (by cbv) ?_ ?_
            · exact (hq trivial hq0)
            refine Run.cond (by cbv) (hq0) (fun c24 => ?_) (fun c24 => ?_)
            · have h := if_t c24 h
              refine Run.seq ?_
              refine Run.region hL hT [] (by cbv) ?_ ?_
              · exact hq0
              refine Run.ret ?_
              cases h
              refine ⟨_, _, by cbv, ?_, ?_⟩
              · exact LLe.r
              · exact (ALe.v LLe.r ALe.nil)
            · have h := if_f c24 h
              refine Run.skip ?_
              refine Run.seq ?_
              obtain ⟨⟨⟨r25v_Schemav_Cols⟩, r25v_Version, r25v_Tables⟩, h_r25, h⟩ := bnd h
              obtain ⟨⟨⟨⟨r26v_Firstv_Schemav_Cols⟩, r26v_Firstv_Version, r26v_Firstv_Tables⟩, r26v_Steps⟩, h_r26, h⟩ := bnd h
              refine Run.region hL hT [(1, .call [false] [.ag [.jk, .jk, .jk]] [.ag [.ow 3 (eInt_c r25v_Schemav_Cols), .s (.int .i64 r25v_Version), .ow 54 (eRowS_o r25v_Tables)]]), (2, .call [false] [.ag [.jk, .jk, .jk]] [.ag [.ow 3 (eInt_c r26v_Firstv_Schemav_Cols), .s (.int .i64 r26v_Firstv_Version), .ow 54 (eRowS_o r26v_Firstv_Tables), .ow 77 (eChangeS_o r26v_Steps)]])] (by cbv) ?_ ?_
              · exact (hq trivial (hq (hC (laws_toStore_ac h_r25)) (hq (hC (AC.args (impl_RecordNew_ac h_r26) (ALe.ag rfl (LLe.cons (LLe.im (RLe.eq (fr_row Int_c_z _))) (LLe.c (LLe.cons (LLe.im (RLe.eq (fr_row RowS_o_z _))) LLe.nil))) ALe.nil))) (hq trivial hq0))))
              refine Run.seq ?_
              refine Run.seq ?_
              obtain ⟨r27, h_r27, h⟩ := bnd h
              refine Run.region hL hT [(2, .call [false, false] [.ag [.jk, .jk, .jk, .jk], .ag [.jk, .jk, .jk, .jk]] [.v (.s (.bool r27))])] (by cbv) ?_ ?_
              · exact (hq trivial (hq trivial (hq (hC (AC.args (laws_eqRecord_ac h_r27) (ALe.ag rfl (LLe.cons (LLe.im (RLe.eq (fr_row Int_c_z _))) (LLe.c (LLe.cons (LLe.im (RLe.eq (fr_row RowS_o_z _))) (LLe.cons (LLe.im (RLe.eq (fr_row ChangeS_o_z _))) LLe.nil)))) (ALe.ag rfl (LLe.cons (LLe.im (RLe.eq (fr_row Int_c_z _))) (LLe.c (LLe.cons (LLe.im (RLe.eq (fr_row RowS_o_z _))) (LLe.cons (LLe.im (RLe.eq (fr_row ChangeS_o_z _))) LLe.nil)))) ALe.nil)))) hq0)))
              refine Run.cond (by cbv) (hq0) (fun c28 => ?_) (fun c28 => ?_)
              · have h := if_t c28 h
                refine Run.seq ?_
                refine Run.region hL hT [] (by cbv) ?_ ?_
                · exact hq0
                refine Run.ret ?_
                cases h
                refine ⟨_, _, by cbv, ?_, ?_⟩
                · exact LLe.r
                · exact (ALe.v LLe.r ALe.nil)
              · have h := if_f c28 h
                refine Run.skip ?_
                refine Run.seq ?_
                refine Run.region hL hT [] (by cbv) ?_ ?_
                · exact hq0
                refine Run.seq ?_
                obtain ⟨r29, h_r29, h⟩ := bnd h
                refine Run.region hL hT [(2, .call [false, false] [.ag [.jk, .jk, .jk, .jk], .v (.jk)] [.v (.s (.int .i64 r29))])] (by cbv) ?_ ?_
                · exact (hq trivial (hq (hC (AC.args (laws_heldRecord_ac h_r29) (ALe.ag rfl (LLe.cons (LLe.im (RLe.eq (fr_row Int_c_z _))) (LLe.c (LLe.cons (LLe.im (RLe.eq (fr_row RowS_o_z _))) (LLe.cons (LLe.im (RLe.eq (fr_row ChangeS_o_z _))) LLe.nil)))) (ALe.v LLe.r ALe.nil)))) hq0))
                refine Run.seq ?_
                refine Run.seq ?_
                refine Run.region hL hT [] (by cbv) ?_ ?_
                · exact (hq trivial hq0)
                refine Run.cond (by cbv) (hq0) (fun c30 => ?_) (fun c30 => ?_)
                · have h := if_t c30 h
                  refine Run.seq ?_
                  refine Run.region hL hT [] (by cbv) ?_ ?_
                  · exact hq0
                  refine Run.ret ?_
                  cases h
                  refine ⟨_, _, by cbv, ?_, ?_⟩
                  · exact LLe.r
                  · exact (ALe.v LLe.r ALe.nil)
                · have h := if_f c30 h
                  refine Run.skip ?_
                  refine Run.seq ?_
                  refine Run.seq ?_
                  refine Run.region hL hT [] (by cbv) ?_ ?_
                  · exact (hq trivial hq0)
                  refine Run.cond (by cbv) (hq0) (fun c31 => ?_) (fun c31 => ?_)
                  · have h := if_t c31 h
                    refine Run.seq ?_
                    refine Run.region hL hT [] (by cbv) ?_ ?_
                    · exact hq0
                    refine Run.ret ?_
                    cases h
                    refine ⟨_, _, by cbv, ?_, ?_⟩
                    · exact LLe.r
                    · exact (ALe.v LLe.r ALe.nil)
                  · have h := if_f c31 h
                    refine Run.skip ?_
                    refine Run.seq ?_
                    refine Run.region hL hT [] (by cbv) ?_ ?_
                    · exact hq0
                    refine Run.ret ?_
                    cases h
                    refine ⟨_, _, by cbv, ?_, ?_⟩
                    · exact LLe.r
                    · exact (ALe.v LLe.r ALe.nil)


end Go.Proofs.Ytibmfkomdhnhbaa.L
