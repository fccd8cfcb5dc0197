/- The contracts of the program's functions. -/
import Derived.Test.YtibmfkomdhnhbaaProg
import Derived.Test.YtibmfkomdhnhbaaFxConcernedC0
import Derived.KernelRfl
namespace Go.Proofs.Ytibmfkomdhnhbaa.L
open Go Go.Proofs
set_option linter.unusedVariables false
set_option linter.unusedSimpArgs false
set_option maxRecDepth 8000 in
theorem laws_heldIntS_ac {a0 : List Int} {a1 : Int} {r : Int} (h : laws_heldIntS.f a0 a1 = some r) : AC Try.prog 50 [.v (.im false (rowsOf Int_c a0)), .v (.s (.int .i64 a1))] [.v (.jk), .v (.jk)] [.v (.s (.int .i64 r))] := by
  unfold laws_heldIntS.f at h
  let ar := Ls.ar; let cm := Ls.cm; let bo := Ls.bo; let sc := Ls.sc; let sa := Ls.sa; let sx := Ls.sx; let ss := Ls.ss; let sl := Ls.sl; let bs := Ls.bs; let sb := Ls.sb; let ln := Ls.ln; let sr := Ls.sr; let ap := Ls.ap; let up := Ls.up; let rp := Ls.rp; let fr := Ls.fr; let ge := Ls.ge; let le := Ls.le; let lt := Ls.lt; let nz := Ls.nz; let mm := Ls.mm; let ma := Ls.ma; let sm := Ls.sm; let fl := Ls.fl; let al := Ls.al
  let eInt_c := rowsOf Int_c
  let lenI_Int := @lenI Int
  have hL : (⟨ar, cm, bo, sc, sa, sx, ss, sl, bs, sb, ln, sr, ap, up, rp, fr, ge, le, lt, nz, mm, ma, sm, fl, al⟩ : Lf) = Ls := rfl
  show AC Try.prog 50 [.v (.im false (eInt_c a0)), .v (.s (.int .i64 a1))] _ _
  refine AC.of_run2 tab_ok Try.func50 (by rfl) (by rfl) (by cbv) ⟨by decide, rfl⟩ fun F hP hA => ?_
  have hT : TabOk F.P tab := hP ▸ tab_ok
  have hM : F.P.follows .mixedOrders = true := hP ▸ mixed
  have hC : ∀ {f a o r}, AC Try.prog f a o r → AC F.P f a o r := fun h => hP ▸ h
  refine Run.seq ?_
  refine Run.region hL hT [] (by cbv) ?_ ?_
  · exact hq0
  refine Run.seq ?_
  refine Run.seq ?_
  refine Run.region hL hT [] (by cbv) ?_ ?_
  · exact hq0
  refine Run.block ?_
  refine Run.loop2 (fun (z4 : Int) (z5 : Int) => ⟨21, 100000, [(0, .t (.im false (eInt_c a0))), (1, .t (.s (.int .i64 z4))), (5, .t (.s (.int .i64 z5)))], []⟩) (x0 := a1) (x1 := 0) h (Weak.of _ [] hA (by cbv) ?_) (fun _ _ => rfl) ?_
  · repeat (first | exact hq0 | refine hq (by first | exact True.intro | rfl) ?_)
  · intro k z4 z5 h
    rw [laws_heldIntS.l0] at h
    refine Run.seq ?_
    refine Run.seq ?_
    refine Run.region hL hT [] (by cbv) ?_ ?_
    · exact (hq trivial hq0)
    rw [show ln (eInt_c a0) = lenI_Int a0 from ln_eq Int_c _]
    refine Run.cond (by cbv) (hq0) (fun c6 => ?_) (fun c6 => ?_)
    · have h := if_t c6 h
      refine Run.skip ?_
      refine Run.seq ?_
      refine Run.block ?_
      refine Run.seq ?_
      refine Run.seq ?_
      obtain ⟨x7, h_x7, h⟩ := bnd h
      refine Run.region hL hT [(2, .el [.s (.int .i64 x7)])] (by cbv) ?_ ?_
      · exact (hq (get_le h_x7) (hq (get_lt (f := Int_c) h_x7) (hq (get_ge (f := Int_c) h_x7) (hq trivial hq0))))
      refine Run.cond (by cbv) (hq0) (fun c8 => ?_) (fun c8 => ?_)
      · have h := if_t c8 h
        refine Run.seq ?_
        refine Run.region hL hT [] (by cbv) ?_ ?_
        · exact hq0
        refine Run.ret ?_
        cases h
        refine ⟨_, _, by cbv, ?_, ?_⟩
        · exact LLe.r
        · exact (ALe.v LLe.r ALe.nil)
      · have h := if_f c8 h
        refine Run.skip ?_
        refine Run.region hL hT [] (by cbv) ?_ ?_
        · exact (hq trivial hq0)
        refine Run.region hL hT [] (by cbv) ?_ ?_
        · exact (hq trivial hq0)
        refine ⟨(ar .add .i64 z4 1), (ar .add .i64 z5 1), h, Weak.of _ [] hA (by cbv) ?_⟩
        repeat (first | exact hq0 | refine hq (by first | exact True.intro | rfl) ?_)
    · have h := if_f c6 h
      refine Run.exit ?_
      refine Run.seq ?_
      refine Run.region hL hT [] (by cbv) ?_ ?_
      · exact hq0
      refine Run.ret ?_
      cases h
      refine ⟨_, _, by cbv, ?_, ?_⟩
      · exact LLe.r
      · exact (ALe.v LLe.r ALe.nil)

set_option maxRecDepth 8000 in
theorem laws_FnExactConcerned_ac {a0v_Cols : List Int} {a1 : List Query} {a2 : List Change} {r : Bool} (h : laws_FnExactConcerned.f (Schema.mk a0v_Cols) a1 a2 = some r) : AC Try.prog 6 [.ag [.im false (rowsOf Int_c a0v_Cols)], .v (.im false (rowsOf Query_i a1)), .v (.im false (rowsOf Change_i a2))] [.ag [.jk], .v (.jk), .v (.jk)] [.v (.s (.bool r))] := by
  unfold laws_FnExactConcerned.f at h
  let ar := Ls.ar; let cm := Ls.cm; let bo := Ls.bo; let sc := Ls.sc; let sa := Ls.sa; let sx := Ls.sx; let ss := Ls.ss; let sl := Ls.sl; let bs := Ls.bs; let sb := Ls.sb; let ln := Ls.ln; let sr := Ls.sr; let ap := Ls.ap; let up := Ls.up; let rp := Ls.rp; let fr := Ls.fr; let ge := Ls.ge; let le := Ls.le; let lt := Ls.lt; let nz := Ls.nz; let mm := Ls.mm; let ma := Ls.ma; let sm := Ls.sm; let fl := Ls.fl; let al := Ls.al
  let eChange_i := rowsOf Change_i
  let eChange_o := rowsOf Change_o
  let eInt_c := rowsOf Int_c
  let eQuery_i := rowsOf Query_i
  let eQuery_o := rowsOf Query_o
  have hL : (⟨ar, cm, bo, sc, sa, sx, ss, sl, bs, sb, ln, sr, ap, up, rp, fr, ge, le, lt, nz, mm, ma, sm, fl, al⟩ : Lf) = Ls := rfl
  show AC Try.prog 6 [.ag [.im false (eInt_c a0v_Cols)], .v (.im false (eQuery_i a1)), .v (.im false (eChange_i a2))] _ _
  refine AC.of_run2 tab_ok Try.func6 (by rfl) (by rfl) (by cbv) ⟨by decide, rfl⟩ fun F hP hA => ?_
  have hT : TabOk F.P tab := hP ▸ tab_ok
  have hM : F.P.follows .mixedOrders = true := hP ▸ mixed
  have hC : ∀ {f a o r}, AC Try.prog f a o r → AC F.P f a o r := fun h => hP ▸ h
  refine Run.seq ?_
  refine Run.region hL hT [] (by cbv) ?_ ?_
  · exact hq0
  refine Run.seq ?_
  refine Run.region hL hT [] (by cbv) ?_ ?_
  · exact hq0
  refine Run.seq ?_
  obtain ⟨r1, h_r1, h⟩ := bnd h
  refine Run.region hL hT [(2, .call [false, false] [.ag [.jk], .v (.jk)] [.v (.s (.int .i64 r1))])] (by cbv) ?_ ?_
  · exact (hq trivial (hq (hC (laws_szSchema_ac h_r1)) hq0))
  refine Run.seq ?_
  refine Run.seq ?_
  refine Run.region hL hT [] (by cbv) ?_ ?_
  · exact (hq trivial hq0)
  refine Run.cond (by cbv) (hq0) (fun c2 => ?_) (fun c2 => ?_)
  · have h := if_t c2 h
    refine Run.seq ?_
    refine Run.region hL hT [] (by cbv) ?_ ?_
    · exact hq0
    refine Run.ret ?_
    cases h
    refine ⟨_, _, by cbv, ?_, ?_⟩
    · exact LLe.r
    · exact (ALe.v LLe.r ALe.nil)
  · have h := if_f c2 h
    refine Run.skip ?_
    refine Run.seq ?_
    obtain ⟨r3, h_r3, h⟩ := bnd h
    refine Run.region hL hT [(2, .call [false, false] [.v (.jk), .v (.jk)] [.v (.s (.int .i64 r3))])] (by cbv) ?_ ?_
    · exact (hq (hC (laws_szQueryS_ac h_r3)) hq0)
    refine Run.seq ?_
    refine Run.seq ?_
    refine Run.region hL hT [] (by cbv) ?_ ?_
    · exact (hq trivial hq0)
    refine Run.cond (by cbv) (hq0) (fun c4 => ?_) (fun c4 => ?_)
    · have h := if_t c4 h
      refine Run.seq ?_
      refine Run.region hL hT [] (by cbv) ?_ ?_
      · exact hq0
      refine Run.ret ?_
      cases h
      refine ⟨_, _, by cbv, ?_, ?_⟩
      · exact LLe.r
      · exact (ALe.v LLe.r ALe.nil)
    · have h := if_f c4 h
      refine Run.skip ?_
      refine Run.seq ?_
      obtain ⟨r5, h_r5, h⟩ := bnd h
      refine Run.region hL hT [(2, .call [false, false] [.v (.jk), .v (.jk)] [.v (.s (.int .i64 r5))])] (by cbv) ?_ ?_
      · exact (hq (hC (laws_szChangeS_ac h_r5)) hq0)
      refine Run.seq ?_
      refine Run.seq ?_
      refine Run.region hL hT [] (by cbv) ?_ ?_
      · exact (hq trivial hq0)
      refine Run.cond (by cbv) (hq0) (fun c6 => ?_) (fun c6 => ?_)
      · have h := if_t c6 h
        refine Run.seq ?_
        refine Run.region hL hT [] (by cbv) ?_ ?_
        · exact hq0
        refine Run.ret ?_
        cases h
        refine ⟨_, _, by cbv, ?_, ?_⟩
        · exact LLe.r
        · exact (ALe.v LLe.r ALe.nil)
      · have h := if_f c6 h
        refine Run.skip ?_
        refine Run.seq ?_
        obtain ⟨⟨r7v_Cols⟩, h_r7, h⟩ := bnd h
        obtain ⟨r8, h_r8, h⟩ := bnd h
        obtain ⟨r9, h_r9, h⟩ := bnd h
        obtain ⟨r10, h_r10, h⟩ := bnd h
        refine Run.region hL hT [(1, .call [false] [.ag [.jk]] [.ag [.ow 3 (eInt_c r7v_Cols)]]), (3, .call [false] [.v (.jk)] [.v (.ow 41 (eQuery_o r8))]), (5, .call [false] [.v (.jk)] [.v (.ow 94 (eChange_o r9))]), (6, .call [false, false, false] [.ag [.jk], .v (.jk), .v (.jk)] [.v (.ow 3 (eInt_c r10))])] (by cbv) ?_ ?_
        · exact (hq trivial (hq (hC (laws_toSchema_ac h_r7)) (hq (hC (laws_toQueryS_ac h_r8)) (hq (hC (laws_toChangeS_ac h_r9)) (hq (hC (AC.args (spec_Concerned_ac h_r10) (ALe.ag rfl (LLe.cons (LLe.im (RLe.eq (fr_row Int_c_z _))) LLe.nil) (ALe.v (LLe.im (RLe.eq (fr_row Query_o_z _))) (ALe.v (LLe.im (RLe.eq (fr_row Change_o_z _))) ALe.nil))))) hq0)))))
        refine Run.seq ?_
        obtain ⟨⟨r11v_Cols⟩, h_r11, h⟩ := bnd h
        refine Run.region hL hT [(1, .call [false] [.ag [.jk]] [.ag [.ow 3 (eInt_c r11v_Cols)]])] (by cbv) ?_ ?_
        · exact (hq trivial (hq (hC (laws_toSchema_ac h_r11)) (hq trivial hq0)))
        refine Run.seq ?_
        obtain ⟨r12, h_r12, h⟩ := bnd h
        refine Run.region hL hT [(1, .call [false] [.v (.jk)] [.v (.ow 41 (eQuery_o r12))])] (by cbv) ?_ ?_
        · exact (hq (hC (laws_toQueryS_ac h_r12)) hq0)
        refine Run.seq ?_
        obtain ⟨r13, h_r13, h⟩ := bnd h
        refine Run.region hL hT [(1, .call [false] [.v (.jk)] [.v (.ow 94 (eChange_o r13))])] (by cbv) ?_ ?_
        · exact (hq (hC (laws_toChangeS_ac h_r13)) hq0)
        refine Run.seq ?_
        obtain ⟨r14, h_r14, h⟩ := bnd h
        refine Run.region hL hT [(3, .call [false, false, false] [.ag [.jk], .v (.jk), .v (.jk)] [.v (.ow 3 (eInt_c r14))])] (by cbv) ?_ ?_
        · exact (hq trivial (hq (hC (AC.args (impl_Concerned_ac h_r14) (ALe.ag rfl (LLe.cons (LLe.im (RLe.eq (fr_row Int_c_z _))) LLe.nil) (ALe.v (LLe.im (RLe.eq (fr_row Query_o_z _))) (ALe.v (LLe.im (RLe.eq (fr_row Change_o_z _))) ALe.nil))))) hq0))
        refine Run.seq ?_
        refine Run.seq ?_
        obtain ⟨r15, h_r15, h⟩ := bnd h
        refine Run.region hL hT [(2, .call [false, false] [.v (.jk), .v (.jk)] [.v (.s (.bool r15))])] (by cbv) ?_ ?_
        · exact (hq (hC (AC.args (laws_eqIntS_ac h_r15) (ALe.v (LLe.im (RLe.eq (fr_row Int_c_z _))) (ALe.v (LLe.im (RLe.eq (fr_row Int_c_z _))) ALe.nil)))) hq0)
        refine Run.cond (by cbv) (hq0) (fun c16 => ?_) (fun c16 => ?_)
        · have h := if_t c16 h
          refine Run.seq ?_
          refine Run.region hL hT [] (by cbv) ?_ ?_
          · exact hq0
          refine Run.ret ?_
          cases h
          refine ⟨_, _, by cbv, ?_, ?_⟩
          · exact LLe.r
          · exact (ALe.v LLe.r ALe.nil)
        · have h := if_f c16 h
          refine Run.skip ?_
          refine Run.seq ?_
          refine Run.seq ?_
          obtain ⟨⟨r17v_Cols⟩, h_r17, h⟩ := bnd h
          obtain ⟨r18, h_r18, h⟩ := bnd h
          refine Run.draw hL hT hM [(2, .call [false] [.ag [.jk]] [.ag [.ow 3 (eInt_c r17v_Cols)]]), (3, .call [false, false] [.ag [.jk], .ag [.jk]] [.v (.s (.bool r18))])] (by cbv) (by cbv) (by cbv) (by cbv) (by cbv) ?_ ?_
          · exact (hq trivial (hq trivial (hq (hC (laws_toSchema_ac h_r17)) (hq (hC (AC.args (laws_eqSchema_ac h_r18) (ALe.ag rfl (LLe.cons (LLe.im (RLe.eq (fr_row Int_c_z _))) LLe.nil) (ALe.ag rfl (LLe.cons (LLe.im (RLe.eq (fr_row Int_c_z _))) LLe.nil) ALe.nil)))) hq0))))
          refine Run.cond (by cbv) (hq0) (fun c19 => ?_) (fun c19 => ?_)
          · have h := if_t c19 h
            refine Run.seq ?_
            refine Run.region hL hT [] (by cbv) ?_ ?_
            · exact hq0
            refine Run.ret ?_
            cases h
            refine ⟨_, _, by cbv, ?_, ?_⟩
            · exact LLe.r
            · exact (ALe.v LLe.r ALe.nil)
          · have h := if_f c19 h
            refine Run.skip ?_
            refine Run.seq ?_
            refine Run.seq ?_
            obtain ⟨r20, h_r20, h⟩ := bnd h
            obtain ⟨r21, h_r21, h⟩ := bnd h
            refine Run.region hL hT [(2, .call [false] [.v (.jk)] [.v (.ow 41 (eQuery_o r20))]), (3, .call [false, false] [.v (.jk), .v (.jk)] [.v (.s (.bool r21))])] (by cbv) ?_ ?_
            · exact (hq (hC (laws_toQueryS_ac h_r20)) (hq (hC (AC.args (laws_eqQueryS_ac h_r21) (ALe.v (LLe.im (RLe.eq (fr_row Query_o_z _))) (ALe.v (LLe.im (RLe.eq (fr_row Query_o_z _))) ALe.nil)))) hq0))
            refine Run.cond (by cbv) (hq0) (fun c22 => ?_) (fun c22 => ?_)
            · have h := if_t c22 h
              refine Run.seq ?_
              refine Run.region hL hT [] (by cbv) ?_ ?_
              · exact hq0
              refine Run.ret ?_
              cases h
              refine ⟨_, _, by cbv, ?_, ?_⟩
              · exact LLe.r
              · exact (ALe.v LLe.r ALe.nil)
            · have h := if_f c22 h
              refine Run.skip ?_
              refine Run.seq ?_
              refine Run.seq ?_
              obtain ⟨r23, h_r23, h⟩ := bnd h
              obtain ⟨r24, h_r24, h⟩ := bnd h
              refine Run.region hL hT [(2, .call [false] [.v (.jk)] [.v (.ow 94 (eChange_o r23))]), (3, .call [false, false] [.v (.jk), .v (.jk)] [.v (.s (.bool r24))])] (by cbv) ?_ ?_
              · exact (hq (hC (laws_toChangeS_ac h_r23)) (hq (hC (AC.args (laws_eqChangeS_ac h_r24) (ALe.v (LLe.im (RLe.eq (fr_row Change_o_z _))) (ALe.v (LLe.im (RLe.eq (fr_row Change_o_z _))) ALe.nil)))) hq0))
              refine Run.cond (by cbv) (hq0) (fun c25 => ?_) (fun c25 => ?_)
              · have h := if_t c25 h
                refine Run.seq ?_
                refine Run.region hL hT [] (by cbv) ?_ ?_
                · exact hq0
                refine Run.ret ?_
                cases h
                refine ⟨_, _, by cbv, ?_, ?_⟩
                · exact LLe.r
                · exact (ALe.v LLe.r ALe.nil)
              · have h := if_f c25 h
                refine Run.skip ?_
                refine Run.seq ?_
                refine Run.region hL hT [] (by cbv) ?_ ?_
                · exact hq0
                refine Run.seq ?_
                obtain ⟨⟨⟨r26v_1v_Cols⟩, r26v_2⟩, h_r26, h⟩ := bnd h
                refine Run.region hL hT [(2, .call [true, false] [.ag [.ow 3 (eInt_c r26v_1v_Cols)], .v (.jk)] [.v (.s (.int .i64 r26v_2))])] (by cbv) ?_ ?_
                · exact (hq trivial (hq (hC (laws_markSchema_ac h_r26)) hq0))
                refine Run.seq ?_
                obtain ⟨⟨r27v_1, r27v_2⟩, h_r27, h⟩ := bnd h
                refine Run.region hL hT [(2, .call [true, false] [.v (.ow 41 (eQuery_o r27v_1)), .v (.jk)] [.v (.s (.int .i64 r27v_2))])] (by cbv) ?_ ?_
                · exact (hq (hC (laws_markQueryS_ac h_r27)) hq0)
                refine Run.seq ?_
                obtain ⟨⟨r28v_1, r28v_2⟩, h_r28, h⟩ := bnd h
                refine Run.region hL hT [(2, .call [true, false] [.v (.ow 94 (eChange_o r28v_1)), .v (.jk)] [.v (.s (.int .i64 r28v_2))])] (by cbv) ?_ ?_
                · exact (hq (hC (laws_markChangeS_ac h_r28)) hq0)
                refine Run.seq ?_
                refine Run.seq ?_
                obtain ⟨r29, h_r29, h⟩ := bnd h
                refine Run.region hL hT [(5, .call [false, false] [.v (.jk), .v (.jk)] [.v (.s (.bool r29))])] (by cbv) ?_ ?_
                · exact (hq trivial (hq (fun _ => hq0) (hq (fun _ => hq0) (hq (fun g32 => (hq g32 (hq g32 (hq (hC (AC.args (laws_eqIntS_ac (gd_t h_r29 g32)) (ALe.v (LLe.im (RLe.eq (fr_row Int_c_z _))) (ALe.v (LLe.im (RLe.eq (fr_row Int_c_z _))) ALe.nil)))) hq0)))) (hq (fun g33 => (hq g33 hq0)) (hq (fun _ => hq0) (hq (fun q35 => (hq (bo_m q35) hq0)) hq0)))))))
                refine Run.cond (by cbv) (hq0) (fun c36 => ?_) (fun c36 => ?_)
                · have h := if_t c36 h
                  refine Run.seq ?_
                  refine Run.region hL hT [] (by cbv) ?_ ?_
                  · exact hq0
                  refine Run.ret ?_
                  cases h
                  refine ⟨_, _, by cbv, ?_, ?_⟩
                  · exact LLe.r
                  · exact (ALe.v LLe.r ALe.nil)
                · have h := if_f c36 h
                  refine Run.skip ?_
                  refine Run.seq ?_
                  refine Run.region hL hT [] (by cbv) ?_ ?_
                  · exact hq0
                  refine Run.seq ?_
                  obtain ⟨⟨r37v_1, r37v_2⟩, h_r37, h⟩ := bnd h
                  refine Run.region hL hT [(2, .call [true, false] [.v (.ow 3 (eInt_c r37v_1)), .v (.jk)] [.v (.s (.int .i64 r37v_2))])] (by cbv) ?_ ?_
                  · exact (hq (hC (laws_markIntS_ac h_r37)) hq0)
                  refine Run.seq ?_
                  refine Run.region hL hT [] (by cbv) ?_ ?_
                  · exact hq0
                  refine Run.seq ?_
                  obtain ⟨r38, h_r38, h⟩ := bnd h
                  refine Run.region hL hT [(2, .call [false, false] [.v (.jk), .v (.jk)] [.v (.s (.int .i64 r38))])] (by cbv) ?_ ?_
                  · exact (hq (hC (AC.args (laws_heldIntS_ac h_r38) (ALe.v (LLe.im (RLe.eq (fr_row Int_c_z _))) (ALe.v LLe.r ALe.nil)))) hq0)
                  refine Run.seq ?_
                  refine Run.seq ?_
                  refine Run.region hL hT [] (by cbv) ?_ ?_
                  · exact (hq trivial hq0)
                  refine Run.cond (by cbv) (hq0) (fun c39 => ?_) (fun c39 => ?_)
                  · have h := if_t c39 h
                    refine Run.seq ?_
                    refine Run.region hL hT [] (by cbv) ?_ ?_
                    · exact hq0
                    refine Run.ret ?_
                    cases h
                    refine ⟨_, _, by cbv, ?_, ?_⟩
                    · exact LLe.r
                    · exact (ALe.v LLe.r ALe.nil)
                  · have h := if_f c39 h
                    refine Run.skip ?_
                    refine Run.seq ?_
                    refine Run.seq ?_
                    refine Run.region hL hT [] (by cbv) ?_ ?_
                    · exact (hq trivial hq0)
                    refine Run.cond (by cbv) (hq0) (fun c40 => ?_) (fun c40 => ?_)
                    · have h := if_t c40 h
                      refine Run.seq ?_
                      refine Run.region hL hT [] (by cbv) ?_ ?_
                      · exact hq0
                      refine Run.ret ?_
                      cases h
                      refine ⟨_, _, by cbv, ?_, ?_⟩
                      · exact LLe.r
                      · exact (ALe.v LLe.r ALe.nil)
                    · have h := if_f c40 h
                      refine Run.skip ?_
                      refine Run.seq ?_
                      obtain ⟨⟨r41v_Cols⟩, h_r41, h⟩ := bnd h
                      obtain ⟨r42, h_r42, h⟩ := bnd h
                      obtain ⟨r43, h_r43, h⟩ := bnd h
                      obtain ⟨r44, h_r44, h⟩ := bnd h
                      refine Run.region hL hT [(1, .call [false] [.ag [.jk]] [.ag [.ow 3 (eInt_c r41v_Cols)]]), (3, .call [false] [.v (.jk)] [.v (.ow 41 (eQuery_o r42))]), (5, .call [false] [.v (.jk)] [.v (.ow 94 (eChange_o r43))]), (6, .call [false, false, false] [.ag [.jk], .v (.jk), .v (.jk)] [.v (.ow 3 (eInt_c r44))])] (by cbv) ?_ ?_
                      · exact (hq trivial (hq (hC (laws_toSchema_ac h_r41)) (hq (hC (laws_toQueryS_ac h_r42)) (hq (hC (laws_toChangeS_ac h_r43)) (hq (hC (AC.args (impl_Concerned_ac h_r44) (ALe.ag rfl (LLe.cons (LLe.im (RLe.eq (fr_row Int_c_z _))) LLe.nil) (ALe.v (LLe.im (RLe.eq (fr_row Query_o_z _))) (ALe.v (LLe.im (RLe.eq (fr_row Change_o_z _))) ALe.nil))))) hq0)))))
                      refine Run.seq ?_
                      refine Run.seq ?_
                      obtain ⟨r45, h_r45, h⟩ := bnd h
                      refine Run.region hL hT [(2, .call [false, false] [.v (.jk), .v (.jk)] [.v (.s (.bool r45))])] (by cbv) ?_ ?_
                      · exact (hq (hC (AC.args (laws_eqIntS_ac h_r45) (ALe.v (LLe.im (RLe.eq (fr_row Int_c_z _))) (ALe.v (LLe.im (RLe.eq (fr_row Int_c_z _))) ALe.nil)))) hq0)
                      refine Run.cond (by cbv) (hq0) (fun c46 => ?_) (fun c46 => ?_)
                      · have h := if_t c46 h
                        refine Run.seq ?_
                        refine Run.region hL hT [] (by cbv) ?_ ?_
                        · exact hq0
                        refine Run.ret ?_
                        cases h
                        refine ⟨_, _, by cbv, ?_, ?_⟩
                        · exact LLe.r
                        · exact (ALe.v LLe.r ALe.nil)
                      · have h := if_f c46 h
                        refine Run.skip ?_
                        refine Run.seq ?_
                        refine Run.region hL hT [] (by cbv) ?_ ?_
                        · exact hq0
                        refine Run.seq ?_
                        obtain ⟨r47, h_r47, h⟩ := bnd h
                        refine Run.region hL hT [(2, .call [false, false] [.v (.jk), .v (.jk)] [.v (.s (.int .i64 r47))])] (by cbv) ?_ ?_
                        · exact (hq (hC (AC.args (laws_heldIntS_ac h_r47) (ALe.v (LLe.im (RLe.eq (fr_row Int_c_z _))) (ALe.v LLe.r ALe.nil)))) hq0)
                        refine Run.seq ?_
                        refine Run.seq ?_
                        refine Run.region hL hT [] (by cbv) ?_ ?_
                        · exact (hq trivial hq0)
                        refine Run.cond (by cbv) (hq0) (fun c48 => ?_) (fun c48 => ?_)
                        · have h := if_t c48 h
                          refine Run.seq ?_
                          refine Run.region hL hT [] (by cbv) ?_ ?_
                          · exact hq0
                          refine Run.ret ?_
                          cases h
                          refine ⟨_, _, by cbv, ?_, ?_⟩
                          · exact LLe.r
                          · exact (ALe.v LLe.r ALe.nil)
                        · have h := if_f c48 h
                          refine Run.skip ?_
                          refine Run.seq ?_
                          refine Run.seq ?_
                          refine Run.region hL hT [] (by cbv) ?_ ?_
                          · exact (hq trivial hq0)
                          refine Run.cond (by cbv) (hq0) (fun c49 => ?_) (fun c49 => ?_)
                          · have h := if_t c49 h
                            refine Run.seq ?_
                            refine Run.region hL hT [] (by cbv) ?_ ?_
                            · exact hq0
                            refine Run.ret ?_
                            cases h
                            refine ⟨_, _, by cbv, ?_, ?_⟩
                            · exact LLe.r
                            · exact (ALe.v LLe.r ALe.nil)
                          · have h := if_f c49 h
                            refine Run.skip ?_
                            refine Run.seq ?_
                            refine Run.region hL hT [] (by cbv) ?_ ?_
                            · exact hq0
                            refine Run.ret ?_
                            cases h
                            refine ⟨_, _, by cbv, ?_, ?_⟩
                            · exact LLe.r
                            · exact (ALe.v LLe.r ALe.nil)


end Go.Proofs.Ytibmfkomdhnhbaa.L
